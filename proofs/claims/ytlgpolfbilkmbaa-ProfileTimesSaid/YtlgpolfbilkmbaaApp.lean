/-
  APPEND of one fraction to a row of the call's own.
-/
import Derived.Test.YtlgpolfbilkmbaaMem
namespace Go.Proofs.Ytlgpolfbilkmbaa
open Go.RowKit Go.Shelf

theorem fr_info : (Try.prog.info? 39).map (fun i => (i.zero, i.size, i.bytes)) = some (some (.agg #[.int .i64 0, .int .i64 0]), 2, 16) := by kernel_rfl

theorem fr_append {ops : Array Oper} {rest : List Oper} {o : Oper} {a : Act} {w : World} {Q : Exit → Act → World → Prop} (hgd : o.guard = none) (s x : Operand)
    (ho : o.op = .call { callee := .builtin .append, args := #[s, x], argTypes := #[44, 44] })
    (base : Nat) (v : Value) (L : List (Int × Int)) (hs : a.eval s = v) (hown : w.ownsRow base 39 2 v L.length (frflat L))
    (bl : Nat) (y : Int × Int) (hx : a.eval x = .slice (some ⟨bl, 0, none⟩) 1 1) (hc : w.cell? ⟨bl, 0, none⟩ = some (.int .i64 y.1) ∧ w.cell? ⟨bl, 1, none⟩ = some (.int .i64 y.2)) (hl : L.length ≤ 1000000) (hbase : base ≤ w.heap.size)
    (h : ∀ v' w', w'.ownsRow base 39 2 v' (L ++ [y]).length (frflat (L ++ [y])) → w.grownBy w' v.ownBlock → wpList Try.prog ops Q rest (a.put o.dst v') w') : wpList Try.prog ops Q (o :: rest) a w := by
  obtain ⟨i0, hi, hz0, hz1, hz2⟩ := info_parts fr_info
  refine wpList_append_own _ hgd s x 44 ho base 39 i0 _ 2 16 Try.underlying44 hi hz0 hz1 hz2 rfl (by decide) v L.length (frflat L) hs hown ⟨bl, 0, none⟩ 1 1 [.int .i64 y.1, .int .i64 y.2] hx rfl ?_ (by simp [Value.oneCell']) (by unfold maxLen; omega) (by omega) hbase ?_
  · obtain ⟨c0, c1⟩ := hc
    intro j u hj
    rw [Go.WideShapes.add_plain, Nat.zero_add]
    match j, hj with
    | 0, hj => simp at hj; subst hj; exact c0
    | 1, hj => simp at hj; subst hj; exact c1
  · intro v' w' h1 h2 _
    refine h v' w' ?_ h2
    rw [frflat_snoc, List.length_append]
    exact h1
end Go.Proofs.Ytlgpolfbilkmbaa
