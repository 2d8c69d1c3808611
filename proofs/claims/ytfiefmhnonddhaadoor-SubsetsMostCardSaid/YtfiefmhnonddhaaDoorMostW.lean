/-
  ROWS OF ROWS that are the call's own; the map of the law SubsetsMost.
-/
import Derived.Test.YtfiefmhnonddhaaDoorPartsA
import Derived.Test.YtfiefmhnonddhaaDoorArgs
import Derived.Maps.AppendAt
import Derived.Maps.OwnOps
import Derived.Maps.OwnSet
import Derived.Maps.Views
import Derived.OneCell
namespace Go.Proofs.YtfiefmhnonddhaaDoor
open Go.RowKit Go.Shelf Go.Maps

/-- Two rows lie in different blocks, or one of them is nil. -/
def Apart (v u : Value) : Prop := v.ownBlock = none ∨ u.ownBlock = none ∨ v.ownBlock ≠ u.ownBlock
theorem Apart.symm {v u : Value} (h : Apart v u) : Apart u v := by
  rcases h with h | h | h
  · exact .inr (.inl h)
  · exact .inl h
  · exact .inr (.inr fun e => h e.symm)
theorem Apart.kept {v u : Value} (h : Apart v u) : u.ownBlock = none ∨ u.ownBlock ≠ v.ownBlock := by
  rcases h with h | h | h
  · cases hu : u.ownBlock with
    | none => exact .inl rfl
    | some k => exact .inr (by rw [h]; simp)
  · exact .inl h
  · exact .inr fun e => h e.symm
theorem Apart.next {v v' u : Value} {w : World} {base size n : Nat} {e : TypeId} {xs : List Value} (h : Apart v u) (hu : w.ownsRow base e size u n xs) (h' : v'.ownBlock = v.ownBlock ∨ v'.ownBlock = some w.heap.size) : Apart v' u := by
  rcases h' with h' | h'
  · unfold Apart; rw [h']; exact h
  · cases hk : u.ownBlock with
    | none => exact .inr (.inl hk)
    | some k => exact .inr (.inr (by rw [h', hk]; intro e; cases e; exact absurd (hu.lt _ hk).2 (Nat.lt_irrefl _)))
/-- Rows of different types lie in different blocks. -/
theorem own_types {w : World} {base base' size size' n n' : Nat} {e e' : TypeId} {v v' : Value} {xs xs' : List Value} (h : w.ownsRow base e size v n xs) (h' : w.ownsRow base' e' size' v' n' xs') (ne : e ≠ e') : v.ownBlock = none ∨ v.ownBlock ≠ v'.ownBlock := by
  rcases h.2 with ⟨rfl, _⟩ | ⟨g, cap, cur, rfl, _, hg, _⟩
  · exact .inl rfl
  · refine .inr fun q => ?_
    rcases h'.2 with ⟨rfl, _⟩ | ⟨g', cap', cur', rfl, _, hg', _⟩
    · simp [Value.ownBlock] at q
    · simp only [Value.ownBlock, Option.some.injEq] at q
      subst q
      rw [hg] at hg'
      simp only [Option.some.injEq, Obj.cells.injEq] at hg'
      exact ne hg'.2.1
theorem own_nomap {H : Type} {P : Program} {k : TypeId} {R : Value → Option (DataW H × List MemPlace)} {w : World} {base size n b m : Nat} {e : TypeId} {v : Value} {xs : List Value} {D : DataW H} (h : w.ownsRow base e size v n xs) (h' : w.ownsMap P k R b m D) : v.ownBlock = none ∨ v.ownBlock ≠ some b := by
  rcases h.2 with ⟨rfl, _⟩ | ⟨g, cap, cur, rfl, _, hg, _⟩
  · exact .inl rfl
  · refine .inr fun q => ?_
    simp only [Value.ownBlock, Option.some.injEq] at q
    subst q
    obtain ⟨es, clock, hb, _⟩ := h'
    rw [hg] at hb
    cases hb
/-- Rows of numbers of the call's own, each in a block of its own. -/
def OwnLs (w : World) (base : Nat) (P : List LstR) : Prop := (∀ i, i < P.length → w.ownsRow base 3 1 (lstV (lg P i)) (lg P i).xs.length (nflat (lg P i).xs)) ∧ ∀ i j, i < P.length → j < P.length → i ≠ j → Apart (lstV (lg P i)) (lstV (lg P j))
theorem OwnLs.nil (w : World) (base : Nat) : OwnLs w base [] := ⟨fun _ h => absurd h (Nat.not_lt_zero _), fun _ _ h => absurd h (Nat.not_lt_zero _)⟩
theorem OwnLs.push {w : World} {base : Nat} {P : List LstR} (h : OwnLs w base P) : OwnLs w base (P ++ [(⟨none, [], 0⟩ : LstR)]) := by
  have at_ : ∀ i, i < (P ++ [(⟨none, [], 0⟩ : LstR)]).length → (i < P.length ∧ lg (P ++ [(⟨none, [], 0⟩ : LstR)]) i = lg P i) ∨ (i = P.length ∧ lg (P ++ [(⟨none, [], 0⟩ : LstR)]) i = ⟨none, [], 0⟩) := fun i hi => by
    rw [List.length_append, List.length_singleton] at hi
    by_cases hl : i < P.length
    · exact .inl ⟨hl, lg_old _ _ _ hl⟩
    · obtain rfl : i = P.length := by omega
      exact .inr ⟨rfl, lg_new _ _⟩
  refine ⟨fun i hi => ?_, fun i j hi hj ne => ?_⟩
  · rcases at_ i hi with ⟨hl, e⟩ | ⟨_, e⟩
    · rw [e]; exact h.1 i hl
    · rw [e]; exact World.ownsRow_nil _ _ _ _
  · rcases at_ i hi with ⟨hl, e⟩ | ⟨q, e⟩
    · rcases at_ j hj with ⟨hm, e'⟩ | ⟨q', e'⟩
      · rw [e, e']; exact h.2 i j hl hm ne
      · rw [e']; exact .inr (.inl rfl)
    · rw [e]; exact .inl rfl
theorem OwnLs.kept {w w' : World} {base : Nat} {P : List LstR} {row : Option Nat} (h : OwnLs w base P) (hg : w.grownBy w' row) (hr : ∀ i, i < P.length → (lstV (lg P i)).ownBlock = none ∨ (lstV (lg P i)).ownBlock ≠ row) : OwnLs w' base P :=
  ⟨fun i hi => (h.1 i hi).kept hg (hr i hi), h.2⟩
theorem OwnLs.alloc {w : World} {base : Nat} {P : List LstR} (h : OwnLs w base P) (o : Obj) : OwnLs (w.alloc o) base P := ⟨fun i hi => (h.1 i hi).alloc o, h.2⟩
theorem OwnLs.setCell {w : World} {base : Nat} {P : List LstR} (h : OwnLs w base P) {a : Addr} (ha : ∀ i, i < P.length → (lstV (lg P i)).ownBlock ≠ some a.block) (u : Value) : OwnLs (w.setCell a u) base P :=
  ⟨fun i hi => ownsRow_setCell_other (h.1 i hi) (ha i hi) u, h.2⟩
theorem lg_set {P : List LstR} {k i : Nat} {r : LstR} (hk : k < P.length) : lg (P.set k r) i = if i = k then r else lg P i := by
  unfold lg
  rw [List.getElem?_set]
  by_cases e : k = i
  · subst e; simp [hk]
  · rw [if_neg e, if_neg (fun q => e q.symm)]
theorem OwnLs.set {w w' : World} {base k : Nat} {P : List LstR} {r : LstR} (h : OwnLs w base P) (hk : k < P.length) (hg : w.grownBy w' (lstV (lg P k)).ownBlock) (hr : w'.ownsRow base 3 1 (lstV r) r.xs.length (nflat r.xs)) (hb : (lstV r).ownBlock = (lstV (lg P k)).ownBlock ∨ (lstV r).ownBlock = some w.heap.size) : OwnLs w' base (P.set k r) := by
  refine ⟨fun i hi => ?_, fun i j hi hj ne => ?_⟩
  · rw [List.length_set] at hi
    rw [lg_set hk]
    by_cases e : i = k
    · rw [if_pos e]; exact hr
    · rw [if_neg e]; exact (h.1 i hi).kept hg (h.2 k i hk hi (fun q => e q.symm)).kept
  · rw [List.length_set] at hi hj
    rw [lg_set hk, lg_set hk]
    by_cases e : i = k
    · rw [if_pos e]
      by_cases e' : j = k
      · omega
      · rw [if_neg e']
        exact (h.2 k j hk hj (fun q => e' q.symm)).next (h.1 j hj) hb
    · rw [if_neg e]
      by_cases e' : j = k
      · rw [if_pos e']
        exact ((h.2 k i hk hi (fun q => e q.symm)).next (h.1 i hi) hb).symm
      · rw [if_neg e']; exact h.2 i j hi hj ne
theorem OwnLs.each {w : World} {base : Nat} {P : List LstR} (h : OwnLs w base P) (hl : ∀ i, i < P.length → (lg P i).xs.length ≤ 1000000) : Each w.heap.size w P := fun i hi => by
  obtain ⟨a, c, e, _, _, _, hn⟩ := num_of_row (h.1 i hi)
  refine ⟨?_, hl i hi⟩
  unfold lstV at e
  simp only [Value.slice.injEq] at e
  rw [e.1]
  exact hn
theorem lflat_set : ∀ (P : List LstR) (k : Nat) (r : LstR), lflat (P.set k r) = (lflat P).set k (lstV r)
  | [], _, _ => rfl
  | x :: P, 0, r => rfl
  | x :: P, k + 1, r => by
    have e : ∀ (y : LstR) (Q : List LstR), lflat (y :: Q) = lstV y :: lflat Q := fun _ _ => rfl
    rw [List.set_cons_succ, e, e, List.set_cons_succ, lflat_set P k r]

theorem num_append_at {ops : Array Oper} {rest : List Oper} {o : Oper} {a : Act} {w : World} {Q : Exit → Act → World → Prop} (hgd : o.guard = none) (s x : Operand)
    (ho : o.op = .call { callee := .builtin .append, args := #[s, x], argTypes := #[22, 22] })
    (base : Nat) (v : Value) (L : List Int) (hs : a.eval s = v) (hown : w.ownsRow base 3 1 v L.length (nflat L))
    (bl : Nat) (y : Int) (hx : a.eval x = .slice (some ⟨bl, 0, none⟩) 1 1) (hc : w.cell? ⟨bl, 0, none⟩ = some (.int .i64 y)) (hl : L.length ≤ 1000000) (hbase : base ≤ w.heap.size)
    (h : ∀ v' w', w'.ownsRow base 3 1 v' (L ++ [y]).length (nflat (L ++ [y])) → w.grownBy w' v.ownBlock → (v'.ownBlock = v.ownBlock ∨ v'.ownBlock = some w.heap.size) → wpList Tryd.prog ops Q rest (a.put o.dst v') w') : wpList Tryd.prog ops Q (o :: rest) a w := by
  obtain ⟨i0, hi, hz0, hz1, hz2⟩ := info_parts num_info
  refine wpList_append_own_at _ hgd s x 22 ho base 3 i0 _ 1 8 Tryd.underlying22 hi hz0 hz1 hz2 rfl (by decide) v L.length (nflat L) hs hown ⟨bl, 0, none⟩ 1 1 [.int .i64 y] hx rfl ?_ (by simp [Value.oneCell']) (by unfold maxLen; omega) (by omega) hbase ?_
  · have c0 := hc
    intro j u hj
    rw [Go.WideShapes.add_plain, Nat.zero_add]
    match j, hj with
    | 0, hj => simp at hj; subst hj; exact c0
  · intro v' w' h1 h2 _ h4
    refine h v' w' ?_ h2 h4
    rw [nflat_snoc, List.length_append]
    exact h1

theorem ownsMap_ne {H : Type} {P : Program} {k : TypeId} {R : Value → Option (DataW H × List MemPlace)} {w : World} {base size n b m : Nat} {e : TypeId} {v : Value} {xs : List Value} {D : DataW H} (h : w.ownsRow base e size v n xs) (h' : w.ownsMap P k R b m D) : some b ≠ v.ownBlock := by
  rcases own_nomap h h' with e | e
  · rw [e]; exact fun q => by cases q
  · exact fun q => e q.symm
/-- A number is appended to one row, and the row is put back: what holds then. -/
theorem step_store {wx w9 : World} {B g n c k m : Nat} {P : List LstR} {r : LstR} {y : Int} {D : DataW Unit} {v9 : Value}
    (HR : wx.ownsRow B 22 1 (.slice (some ⟨g, 0, none⟩) n c) P.length (lflat P)) (hn : n = P.length) (HO : OwnLs wx B P) (HM : wx.ownsMap Tryd.prog 5 (plainElem Tryd.prog 3) B m D) (hk : k < P.length) (hr : lg P k = r)
    (hown : w9.ownsRow B 3 1 v9 (r.xs ++ [y]).length (nflat (r.xs ++ [y]))) (hg : wx.grownBy w9 (lstV r).ownBlock) (hat : v9.ownBlock = (lstV r).ownBlock ∨ v9.ownBlock = some wx.heap.size) :
    ∃ a' c', v9 = .slice a' (r.xs ++ [y]).length c' ∧ w9.frozen? ⟨g, k, none⟩ = false ∧ w9.cell? ⟨g, k, none⟩ = some (.slice r.a r.xs.length r.c) ∧ g < w9.heap.size ∧ B ≤ g ∧ (w9.setCell ⟨g, k, none⟩ v9).ownsRow B 22 1 (.slice (some ⟨g, 0, none⟩) n c) (P.set k ⟨a', r.xs ++ [y], c'⟩).length (lflat (P.set k ⟨a', r.xs ++ [y], c'⟩)) ∧ OwnLs (w9.setCell ⟨g, k, none⟩ v9) B (P.set k ⟨a', r.xs ++ [y], c'⟩) ∧ (w9.setCell ⟨g, k, none⟩ v9).ownsMap Tryd.prog 5 (plainElem Tryd.prog 3) B m D := by
  subst hn
  obtain ⟨a', c', rfl, _⟩ := num_of_row hown
  have hO : wx.ownsRow B 3 1 (lstV r) r.xs.length (nflat r.xs) := by have := HO.1 k hk; rwa [hr] at this
  have hR9 := HR.kept hg (own_types HR hO (by decide))
  have hlt := hR9.lt g rfl
  have hS := hR9.stored k (.slice a' (r.xs ++ [y]).length c')
  have hO9 : OwnLs w9 B (P.set k ⟨a', r.xs ++ [y], c'⟩) := HO.set hk (by rw [hr]; exact hg) hown (by rw [hr]; exact hat)
  have hM9 := HM.kept hg (ownsMap_ne hO HM)
  refine ⟨a', c', rfl, hR9.frozenAt k, (by rw [hR9.cellAt k (by omega), lflat_at P k hk, hr]), hlt.2, hlt.1, ?_, hO9.setCell (fun i hi => ?_) _, hM9.setCell (fun e => ownsMap_ne hR9 hM9 (by rw [e]; rfl)) _⟩
  · rw [lflat_set, List.length_set]
    exact hS.1
  · rcases own_types (hO9.1 i hi) hR9 (by decide) with e | e
    · rw [e]; exact fun q => by cases q
    · exact e
theorem OwnLs.byMap {w w' : World} {base b m : Nat} {P : List LstR} {D : DataW Unit} (h : OwnLs w base P) (hM : w.ownsMap Tryd.prog 5 (plainElem Tryd.prog 3) b m D) (hg : w.grownBy w' (some b)) : OwnLs w' base P := h.kept hg fun i hi => own_nomap (h.1 i hi) hM
theorem OwnLs.byRow {w w' : World} {base size n : Nat} {P : List LstR} {v : Value} {xs : List Value} (h : OwnLs w base P) (hR : w.ownsRow base 22 size v n xs) (hg : w.grownBy w' v.ownBlock) : OwnLs w' base P := h.kept hg fun i hi => own_types (h.1 i hi) hR (by decide)

/-- The map gives indices below n. -/
def MapOK (D : DataW Unit) (n : Nat) : Prop := IsMap D ∧ ∀ c : Int, (Lit.int .u8 c).wf = true → Maps.has D (.int .u8 c) = true → ∃ j : Nat, j < n ∧ D.atKey (.int .u8 c) (.lit (.int .i64 0)) = .lit (.int .i64 j)
theorem MapOK.nil : MapOK (.map []) 0 := ⟨isMap_empty, fun _ _ h => by cases h⟩
theorem MapOK.put {D : DataW Unit} {n : Nat} {c : Int} (h : MapOK D n) : MapOK (D.put (.int .u8 c) (.lit (.int .i64 (n : Int)))) (n + 1) := by
  refine ⟨h.1.put _ _, fun d hd hh => ?_⟩
  by_cases e : d = c
  · subst e
    exact ⟨n, Nat.lt_succ_self _, atKey_put_same h.1 (show WideAt.IsKeyLit (.int .u8 d) from trivial) _ _⟩
  · have ne : Lit.int .u8 d ≠ Lit.int .u8 c := fun q => e (by simpa using q)
    rw [has_put_other ne] at hh
    obtain ⟨j, hj, ej⟩ := h.2 d hd hh
    exact ⟨j, by omega, by rw [atKey_put_other ne]; exact ej⟩
theorem keyedB : Keyed Tryd.prog 5 := int_keyed Tryd.underlying5

/-- A slice of bytes. -/
def Bys (n₀ : Nat) (w : World) (a : Option Addr) (C : List Int) : Prop := 0 < C.length → ∃ b off, a = some ⟨b, off, none⟩ ∧ b < n₀ ∧ ∀ i, i < C.length → w.cell? ⟨b, off + i, none⟩ = some (.int .u8 (ig C i))
theorem Bys.grow {w w' : World} {a : Option Addr} {C : List Int} (h : Bys w.heap.size w a C) (hb : Below w.heap.size w w') : Bys w'.heap.size w' a C := fun hl => by
  obtain ⟨b, off, e, hlt, hc⟩ := h hl
  exact ⟨b, off, e, Nat.lt_of_lt_of_le hlt hb.size, fun i hi => (hb.cell (p := ⟨b, off + i, none⟩) hlt).trans (hc i hi)⟩
section
open Go.ChangeShapes Go.WideShapes Go.ChangeAt Go.WideMaps Go.WideElems Go.Deep Go.Joins
variable {H : Type} {enc : TypeId × Value → H} {W : World} {base : Nat}
set_option maxRecDepth 100000 in
theorem open_bytesA {v : Value} {d : DataW H} {p : List MemPlace} (hv : Value.okWide Tryd.prog W .any base 52 v) (h : DataW.Trod enc Tryd.prog W 0 (fun _ => true) true 52 v d p) :
    ∃ (a : Option Addr) (cap : Nat) (L : List Int), v = .slice a L.length cap ∧ L.length ≤ cap ∧ cap ≤ maxLen ∧ (a = none → cap = 0) ∧ (∀ c ∈ L, 0 ≤ c ∧ c ≤ 255) ∧ Bys W.heap.size W a L := by
  obtain ⟨a0, len0, cap0, rfl⟩ := okWide_slice Tryd.underlying52 hv
  obtain ⟨fuel, hf⟩ := h
  obtain ⟨a, cap, L, h1, h2, h3, h4, h5, h6⟩ := open_rows (P := Tryd.prog) (fun r : Int => [Value.int .u8 r]) 1 (fun r => (Lit.int .u8 r).wf = true) (by decide) (fun _ => rfl) Tryd.underlying52 (by kernel_rfl) (fun n cs' y hl ht => by
    obtain ⟨m, e, _, hw⟩ := DataW.trod_int Tryd.underlying5 ht
    exact ⟨m, e, hw⟩) hf
  refine ⟨a, cap, L, h1, h2, h3, h4, fun c hc => ?_, fun hl => ?_⟩
  · have := h5 c hc
    simp [Lit.wf, IntKind.min, IntKind.max, IntKind.signed, IntKind.bits] at this
    omega
  · obtain ⟨b, off, e, hb, hc⟩ := h6 hl
    refine ⟨b, off, e, hb, fun i hi => hc i _ ?_⟩
    have e2 : ∀ X : List Int, X.flatMap (fun r : Int => [Value.int .u8 r]) = X.map (fun r => Value.int .u8 r) := fun X => by
      induction X with
      | nil => rfl
      | cons x X ih => rw [List.flatMap_cons, ih, List.map_cons]; rfl
    rw [e2, List.getElem?_map, ig_get hi]
    rfl
end
end Go.Proofs.YtfiefmhnonddhaaDoor
