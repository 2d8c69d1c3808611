/-
  append of one element to one of two rows of the call's own: where the new row lies.
-/
import Derived.Test.YtlnodjcmdnmnlaaApp
namespace Go.Proofs.Ytlnodjcmdnmnlaa
open Go.RowKit Go.Shelf
/-- Two rows lie in different blocks, or one of them is nil. -/
def Apart (v u : Value) : Prop := v.ownBlock = none ∨ u.ownBlock = none ∨ v.ownBlock ≠ u.ownBlock
theorem Apart.symm {v u : Value} (h : Apart v u) : Apart u v := by
  rcases h with h | h | h
  · exact .inr (.inl h)
  · exact .inl h
  · exact .inr (.inr fun e => h e.symm)
theorem Apart.kept {v u : Value} (h : Apart v u) : u.ownBlock = none ∨ u.ownBlock ≠ v.ownBlock := by
  rcases h with h | h | h
  · cases hu : u.ownBlock with
    | none => exact .inl rfl
    | some k => exact .inr (by rw [h]; simp)
  · exact .inl h
  · exact .inr fun e => h e.symm
theorem Apart.next {v v' u : Value} {w : World} {base size n : Nat} {e : TypeId} {xs : List Value} (h : Apart v u) (hu : w.ownsRow base e size u n xs) (h' : v'.ownBlock = v.ownBlock ∨ v'.ownBlock = some w.heap.size) : Apart v' u := by
  rcases h' with h' | h'
  · unfold Apart; rw [h']; exact h
  · cases hk : u.ownBlock with
    | none => exact .inr (.inl hk)
    | some k => exact .inr (.inr (by rw [h', hk]; intro e; cases e; exact absurd (hu.lt _ hk).2 (Nat.lt_irrefl _)))

theorem use_append_at {ops : Array Oper} {rest : List Oper} {o : Oper} {a : Act} {w : World} {Q : Exit → Act → World → Prop} (hgd : o.guard = none) (s x : Operand)
    (ho : o.op = .call { callee := .builtin .append, args := #[s, x], argTypes := #[58, 58] })
    (base : Nat) (v : Value) (L : List (Int × Int × Int)) (hs : a.eval s = v) (hown : w.ownsRow base 60 3 v L.length (ugflat L))
    (bl : Nat) (y : Int × Int × Int) (hx : a.eval x = .slice (some ⟨bl, 0, none⟩) 1 1) (hc : w.cell? ⟨bl, 0, none⟩ = some (.int .i64 y.1) ∧ w.cell? ⟨bl, 1, none⟩ = some (.int .i64 y.2.1) ∧ w.cell? ⟨bl, 2, none⟩ = some (.int .i64 y.2.2)) (hl : L.length ≤ 1000000) (hbase : base ≤ w.heap.size)
    (h : ∀ v' w', w'.ownsRow base 60 3 v' (L ++ [y]).length (ugflat (L ++ [y])) → w.grownBy w' v.ownBlock → (v'.ownBlock = v.ownBlock ∨ v'.ownBlock = some w.heap.size) → wpList Try.prog ops Q rest (a.put o.dst v') w') : wpList Try.prog ops Q (o :: rest) a w := by
  obtain ⟨i0, hi, hz0, hz1, hz2⟩ := info_parts use_info
  refine wpList_append_own_at _ hgd s x 58 ho base 60 i0 _ 3 24 Try.underlying58 hi hz0 hz1 hz2 rfl (by decide) v L.length (ugflat L) hs hown ⟨bl, 0, none⟩ 1 1 [.int .i64 y.1, .int .i64 y.2.1, .int .i64 y.2.2] hx rfl ?_ (by simp [Value.oneCell']) (by unfold maxLen; omega) (by omega) hbase ?_
  · obtain ⟨c0, c1, c2⟩ := hc
    intro j u hj
    rw [Go.WideShapes.add_plain, Nat.zero_add]
    match j, hj with
    | 0, hj => simp at hj; subst hj; exact c0
    | 1, hj => simp at hj; subst hj; exact c1
    | 2, hj => simp at hj; subst hj; exact c2
  · intro v' w' h1 h2 _ h4
    refine h v' w' ?_ h2 h4
    rw [ugflat_snoc, List.length_append]
    exact h1

theorem part_append_at {ops : Array Oper} {rest : List Oper} {o : Oper} {a : Act} {w : World} {Q : Exit → Act → World → Prop} (hgd : o.guard = none) (s x : Operand)
    (ho : o.op = .call { callee := .builtin .append, args := #[s, x], argTypes := #[62, 62] })
    (base : Nat) (v : Value) (L : List (Int × Int × Int)) (hs : a.eval s = v) (hown : w.ownsRow base 64 3 v L.length (qgflat L))
    (bl : Nat) (y : Int × Int × Int) (hx : a.eval x = .slice (some ⟨bl, 0, none⟩) 1 1) (hc : w.cell? ⟨bl, 0, none⟩ = some (.int .i64 y.1) ∧ w.cell? ⟨bl, 1, none⟩ = some (.int .i64 y.2.1) ∧ w.cell? ⟨bl, 2, none⟩ = some (.int .i64 y.2.2)) (hl : L.length ≤ 1000000) (hbase : base ≤ w.heap.size)
    (h : ∀ v' w', w'.ownsRow base 64 3 v' (L ++ [y]).length (qgflat (L ++ [y])) → w.grownBy w' v.ownBlock → (v'.ownBlock = v.ownBlock ∨ v'.ownBlock = some w.heap.size) → wpList Try.prog ops Q rest (a.put o.dst v') w') : wpList Try.prog ops Q (o :: rest) a w := by
  obtain ⟨i0, hi, hz0, hz1, hz2⟩ := info_parts part_info
  refine wpList_append_own_at _ hgd s x 62 ho base 64 i0 _ 3 24 Try.underlying62 hi hz0 hz1 hz2 rfl (by decide) v L.length (qgflat L) hs hown ⟨bl, 0, none⟩ 1 1 [.int .i64 y.1, .int .i64 y.2.1, .int .i64 y.2.2] hx rfl ?_ (by simp [Value.oneCell']) (by unfold maxLen; omega) (by omega) hbase ?_
  · obtain ⟨c0, c1, c2⟩ := hc
    intro j u hj
    rw [Go.WideShapes.add_plain, Nat.zero_add]
    match j, hj with
    | 0, hj => simp at hj; subst hj; exact c0
    | 1, hj => simp at hj; subst hj; exact c1
    | 2, hj => simp at hj; subst hj; exact c2
  · intro v' w' h1 h2 _ h4
    refine h v' w' ?_ h2 h4
    rw [qgflat_snoc, List.length_append]
    exact h1
end Go.Proofs.Ytlnodjcmdnmnlaa
