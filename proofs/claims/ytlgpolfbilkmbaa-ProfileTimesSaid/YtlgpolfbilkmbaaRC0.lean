/-
  WHAT the walks of the reference's Curve (34) share: a piece in a block; append of one piece to a row of the call's own.
-/
import Derived.Test.YtlgpolfbilkmbaaCurve0
import Derived.Test.YtlgpolfbilkmbaaRTime
import Derived.Deep.Heap
namespace Go.Proofs.Ytlgpolfbilkmbaa
open Go.RowKit Go.Shelf

noncomputable def rcCode (n : Nat) : Code := ((Try.f18.body.bind (regionAt n)).getD .skip)
def C8 (w : World) (B : Nat) (x0 x1 x2 x3 x4 x5 x6 x7 : Int) : Prop := w.cell? ⟨B, 0, none⟩ = some (.int .i64 x0) ∧ w.cell? ⟨B, 1, none⟩ = some (.int .i64 x1) ∧ w.cell? ⟨B, 2, none⟩ = some (.int .i64 x2) ∧ w.cell? ⟨B, 3, none⟩ = some (.int .i64 x3) ∧ w.cell? ⟨B, 4, none⟩ = some (.int .i64 x4) ∧ w.cell? ⟨B, 5, none⟩ = some (.int .i64 x5) ∧ w.cell? ⟨B, 6, none⟩ = some (.int .i64 x6) ∧ w.cell? ⟨B, 7, none⟩ = some (.int .i64 x7)
theorem C8.carry {W w : World} {B : Nat} {x0 x1 x2 x3 x4 x5 x6 x7 : Int} (c : C8 W B x0 x1 x2 x3 x4 x5 x6 x7) (h : Below W.heap.size W w) : C8 w B x0 x1 x2 x3 x4 x5 x6 x7 := by
  have hz : B < W.heap.size := World.block_lt_of_cell? _ _ c.1
  obtain ⟨c0, c1, c2, c3, c4, c5, c6, c7⟩ := c
  exact ⟨(h.cell (p := ⟨B, 0, none⟩) hz).trans c0, (h.cell (p := ⟨B, 1, none⟩) hz).trans c1, (h.cell (p := ⟨B, 2, none⟩) hz).trans c2, (h.cell (p := ⟨B, 3, none⟩) hz).trans c3, (h.cell (p := ⟨B, 4, none⟩) hz).trans c4, (h.cell (p := ⟨B, 5, none⟩) hz).trans c5, (h.cell (p := ⟨B, 6, none⟩) hz).trans c6, (h.cell (p := ⟨B, 7, none⟩) hz).trans c7⟩
theorem C8.new (W : World) (x0 x1 x2 x3 x4 x5 x6 x7 : Int) (t : TypeId) : C8 (W.alloc (.cells #[.int .i64 x0, .int .i64 x1, .int .i64 x2, .int .i64 x3, .int .i64 x4, .int .i64 x5, .int .i64 x6, .int .i64 x7] t)) W.heap.size x0 x1 x2 x3 x4 x5 x6 x7 := ⟨by simp, by simp, by simp, by simp, by simp, by simp, by simp, by simp⟩
def NewP (w : World) (b : Nat) : Prop := C8 w b 0 0 0 0 0 0 0 0 ∧ w.frozen? ⟨b, 0, none⟩ = false ∧ w.frozen? ⟨b, 1, none⟩ = false ∧ w.frozen? ⟨b, 2, none⟩ = false ∧ w.frozen? ⟨b, 3, none⟩ = false ∧ w.frozen? ⟨b, 4, none⟩ = false ∧ w.frozen? ⟨b, 5, none⟩ = false ∧ w.frozen? ⟨b, 6, none⟩ = false ∧ w.frozen? ⟨b, 7, none⟩ = false ∧ b < w.heap.size
theorem pcarry {W w : World} {b : Nat} (h : Below W.heap.size W w) (f : NewP W b) : NewP w b := by
  obtain ⟨f0, f1, f2, f3, f4, f5, f6, f7, f8, f9⟩ := f
  exact ⟨f0.carry h, (h.frozen (p := ⟨b, 0, none⟩) f9).trans f1, (h.frozen (p := ⟨b, 1, none⟩) f9).trans f2, (h.frozen (p := ⟨b, 2, none⟩) f9).trans f3, (h.frozen (p := ⟨b, 3, none⟩) f9).trans f4, (h.frozen (p := ⟨b, 4, none⟩) f9).trans f5, (h.frozen (p := ⟨b, 5, none⟩) f9).trans f6, (h.frozen (p := ⟨b, 6, none⟩) f9).trans f7, (h.frozen (p := ⟨b, 7, none⟩) f9).trans f8, Nat.lt_of_lt_of_le f9 h.size⟩
theorem pnew (W : World) (ty : TypeId) : NewP (W.alloc (.cells #[.int .i64 0, .int .i64 0, .int .i64 0, .int .i64 0, .int .i64 0, .int .i64 0, .int .i64 0, .int .i64 0] ty)) W.heap.size := ⟨C8.new _ _ _ _ _ _ _ _ _ _, by simp, by simp, by simp, by simp, by simp, by simp, by simp, by simp, by simp⟩
theorem pnew1 {W w : World} {ty : TypeId} (h : Below (W.alloc (.cells #[.int .i64 0, .int .i64 0, .int .i64 0, .int .i64 0, .int .i64 0, .int .i64 0, .int .i64 0, .int .i64 0] ty)).heap.size (W.alloc (.cells #[.int .i64 0, .int .i64 0, .int .i64 0, .int .i64 0, .int .i64 0, .int .i64 0, .int .i64 0, .int .i64 0] ty)) w) : NewP w W.heap.size := pcarry h (pnew W ty)
theorem pnew1D {W w : World} {ty : TypeId} (h : Below (W.alloc (.cells #[.int .i64 0, .int .i64 0, .int .i64 0, .int .i64 0, .int .i64 0, .int .i64 0, .int .i64 0, .int .i64 0] ty)).drew.heap.size (W.alloc (.cells #[.int .i64 0, .int .i64 0, .int .i64 0, .int .i64 0, .int .i64 0, .int .i64 0, .int .i64 0, .int .i64 0] ty)).drew w) : NewP w W.heap.size := pnew1 (ty := ty) ⟨h.os, h.tape, h.output, h.size, h.block⟩
def RelP (W0 : World) (B : Nat) (x0 x1 x2 x3 x4 x5 x6 x7 : Int) (wx : World) : Prop := Below W0.heap.size W0 wx ∧ C8 wx B x0 x1 x2 x3 x4 x5 x6 x7
theorem relP1 {W0 w : World} (x0 x1 x2 x3 x4 x5 x6 x7 : Int) (t : TypeId) (h : Below W0.heap.size W0 w) : RelP W0 w.heap.size x0 x1 x2 x3 x4 x5 x6 x7 (w.alloc (.cells #[.int .i64 x0, .int .i64 x1, .int .i64 x2, .int .i64 x3, .int .i64 x4, .int .i64 x5, .int .i64 x6, .int .i64 x7] t)) := ⟨below_a _ h, C8.new _ _ _ _ _ _ _ _ _ _⟩
theorem set8_lt {w : World} {B i j : Nat} {v u : Value} (h : w.cell? ⟨B, i, none⟩ = some u) (hij : i ≠ j) : (w.setCell ⟨B, j, none⟩ v).cell? ⟨B, i, none⟩ = some u := by
  exact (World.cell?_setCell_other _ _ _ _ (fun x => hij (congrArg Addr.off x).symm)).trans h
theorem set8_same {w : World} {p : Addr} {v u : Value} (h : w.cell? p = some u) : (w.setCell p v).cell? p = some v := World.cell?_setCell_same _ _ _ h
theorem relP2 {W0 w : World} (B : Nat) (x0 x1 x2 x3 x4 x5 x6 x7 : Int) (h : Below W0.heap.size W0 w) (f : NewP w B) (hB : W0.heap.size ≤ B) : RelP W0 B x0 x1 x2 x3 x4 x5 x6 x7 ((((((((w.setCell ⟨B, 0, none⟩ (.int .i64 x0)).setCell ⟨B, 1, none⟩ (.int .i64 x1)).setCell ⟨B, 2, none⟩ (.int .i64 x2)).setCell ⟨B, 3, none⟩ (.int .i64 x3)).setCell ⟨B, 4, none⟩ (.int .i64 x4)).setCell ⟨B, 5, none⟩ (.int .i64 x5)).setCell ⟨B, 6, none⟩ (.int .i64 x6)).setCell ⟨B, 7, none⟩ (.int .i64 x7)) := by
  obtain ⟨⟨c0, c1, c2, c3, c4, c5, c6, c7⟩, _⟩ := f
  refine ⟨(below_s ⟨B, 7, none⟩ _ (below_s ⟨B, 6, none⟩ _ (below_s ⟨B, 5, none⟩ _ (below_s ⟨B, 4, none⟩ _ (below_s ⟨B, 3, none⟩ _ (below_s ⟨B, 2, none⟩ _ (below_s ⟨B, 1, none⟩ _ (below_s ⟨B, 0, none⟩ _ h hB) hB) hB) hB) hB) hB) hB) hB), ?_⟩
  refine ⟨?_, ?_, ?_, ?_, ?_, ?_, ?_, ?_⟩
  all_goals
    (repeat (refine set8_lt ?_ (by decide)))
    refine set8_same (u := .int .i64 0) ?_
    (repeat (refine set8_lt ?_ (by decide)))
    assumption
/-- What the store of a piece into a new block asks, cell by cell. -/
theorem pfacts {w : World} {B : Nat} (f : NewP w B) (x0 x1 x2 x3 x4 x5 x6 : Int) : w.cell? ⟨B, 0, none⟩ = some (.int .i64 0) ∧ (w.setCell ⟨B, 0, none⟩ (.int .i64 x0)).cell? ⟨B, 1, none⟩ = some (.int .i64 0) ∧ ((w.setCell ⟨B, 0, none⟩ (.int .i64 x0)).setCell ⟨B, 1, none⟩ (.int .i64 x1)).cell? ⟨B, 2, none⟩ = some (.int .i64 0) ∧ (((w.setCell ⟨B, 0, none⟩ (.int .i64 x0)).setCell ⟨B, 1, none⟩ (.int .i64 x1)).setCell ⟨B, 2, none⟩ (.int .i64 x2)).cell? ⟨B, 3, none⟩ = some (.int .i64 0) ∧ ((((w.setCell ⟨B, 0, none⟩ (.int .i64 x0)).setCell ⟨B, 1, none⟩ (.int .i64 x1)).setCell ⟨B, 2, none⟩ (.int .i64 x2)).setCell ⟨B, 3, none⟩ (.int .i64 x3)).cell? ⟨B, 4, none⟩ = some (.int .i64 0) ∧ (((((w.setCell ⟨B, 0, none⟩ (.int .i64 x0)).setCell ⟨B, 1, none⟩ (.int .i64 x1)).setCell ⟨B, 2, none⟩ (.int .i64 x2)).setCell ⟨B, 3, none⟩ (.int .i64 x3)).setCell ⟨B, 4, none⟩ (.int .i64 x4)).cell? ⟨B, 5, none⟩ = some (.int .i64 0) ∧ ((((((w.setCell ⟨B, 0, none⟩ (.int .i64 x0)).setCell ⟨B, 1, none⟩ (.int .i64 x1)).setCell ⟨B, 2, none⟩ (.int .i64 x2)).setCell ⟨B, 3, none⟩ (.int .i64 x3)).setCell ⟨B, 4, none⟩ (.int .i64 x4)).setCell ⟨B, 5, none⟩ (.int .i64 x5)).cell? ⟨B, 6, none⟩ = some (.int .i64 0) ∧ (((((((w.setCell ⟨B, 0, none⟩ (.int .i64 x0)).setCell ⟨B, 1, none⟩ (.int .i64 x1)).setCell ⟨B, 2, none⟩ (.int .i64 x2)).setCell ⟨B, 3, none⟩ (.int .i64 x3)).setCell ⟨B, 4, none⟩ (.int .i64 x4)).setCell ⟨B, 5, none⟩ (.int .i64 x5)).setCell ⟨B, 6, none⟩ (.int .i64 x6)).cell? ⟨B, 7, none⟩ = some (.int .i64 0) ∧ w.frozen? ⟨B, 0, none⟩ = false ∧ (w.setCell ⟨B, 0, none⟩ (.int .i64 x0)).frozen? ⟨B, 1, none⟩ = false ∧ ((w.setCell ⟨B, 0, none⟩ (.int .i64 x0)).setCell ⟨B, 1, none⟩ (.int .i64 x1)).frozen? ⟨B, 2, none⟩ = false ∧ (((w.setCell ⟨B, 0, none⟩ (.int .i64 x0)).setCell ⟨B, 1, none⟩ (.int .i64 x1)).setCell ⟨B, 2, none⟩ (.int .i64 x2)).frozen? ⟨B, 3, none⟩ = false ∧ ((((w.setCell ⟨B, 0, none⟩ (.int .i64 x0)).setCell ⟨B, 1, none⟩ (.int .i64 x1)).setCell ⟨B, 2, none⟩ (.int .i64 x2)).setCell ⟨B, 3, none⟩ (.int .i64 x3)).frozen? ⟨B, 4, none⟩ = false ∧ (((((w.setCell ⟨B, 0, none⟩ (.int .i64 x0)).setCell ⟨B, 1, none⟩ (.int .i64 x1)).setCell ⟨B, 2, none⟩ (.int .i64 x2)).setCell ⟨B, 3, none⟩ (.int .i64 x3)).setCell ⟨B, 4, none⟩ (.int .i64 x4)).frozen? ⟨B, 5, none⟩ = false ∧ ((((((w.setCell ⟨B, 0, none⟩ (.int .i64 x0)).setCell ⟨B, 1, none⟩ (.int .i64 x1)).setCell ⟨B, 2, none⟩ (.int .i64 x2)).setCell ⟨B, 3, none⟩ (.int .i64 x3)).setCell ⟨B, 4, none⟩ (.int .i64 x4)).setCell ⟨B, 5, none⟩ (.int .i64 x5)).frozen? ⟨B, 6, none⟩ = false ∧ (((((((w.setCell ⟨B, 0, none⟩ (.int .i64 x0)).setCell ⟨B, 1, none⟩ (.int .i64 x1)).setCell ⟨B, 2, none⟩ (.int .i64 x2)).setCell ⟨B, 3, none⟩ (.int .i64 x3)).setCell ⟨B, 4, none⟩ (.int .i64 x4)).setCell ⟨B, 5, none⟩ (.int .i64 x5)).setCell ⟨B, 6, none⟩ (.int .i64 x6)).frozen? ⟨B, 7, none⟩ = false := by
  obtain ⟨⟨c0, c1, c2, c3, c4, c5, c6, c7⟩, f0, f1, f2, f3, f4, f5, f6, f7, _⟩ := f
  exact ⟨c0, (set8_lt c1 (by decide)), (set8_lt (set8_lt c2 (by decide)) (by decide)), (set8_lt (set8_lt (set8_lt c3 (by decide)) (by decide)) (by decide)), (set8_lt (set8_lt (set8_lt (set8_lt c4 (by decide)) (by decide)) (by decide)) (by decide)), (set8_lt (set8_lt (set8_lt (set8_lt (set8_lt c5 (by decide)) (by decide)) (by decide)) (by decide)) (by decide)), (set8_lt (set8_lt (set8_lt (set8_lt (set8_lt (set8_lt c6 (by decide)) (by decide)) (by decide)) (by decide)) (by decide)) (by decide)), (set8_lt (set8_lt (set8_lt (set8_lt (set8_lt (set8_lt (set8_lt c7 (by decide)) (by decide)) (by decide)) (by decide)) (by decide)) (by decide)) (by decide)), by simpa using f0, by simpa using f1, by simpa using f2, by simpa using f3, by simpa using f4, by simpa using f5, by simpa using f6, by simpa using f7⟩
theorem pc_append {ops : Array Oper} {rest : List Oper} {o : Oper} {a : Act} {w : World} {Q : Exit → Act → World → Prop} (hgd : o.guard = none) (s x : Operand)
    (ho : o.op = .call { callee := .builtin .append, args := #[s, x], argTypes := #[32, 32] })
    (base : Nat) (v : Value) (L : List Pc) (hs : a.eval s = v) (hown : w.ownsRow base 70 8 v L.length (pcflat L))
    (bl : Nat) (y : Pc) (hx : a.eval x = .slice (some ⟨bl, 0, none⟩) 1 1) (hc : C8 w bl y.f0 y.f1 y.a0 y.a1 y.b0 y.b1 y.c0 y.c1) (hl : L.length ≤ 1000000) (hbase : base ≤ w.heap.size)
    (h : ∀ v' w', w'.ownsRow base 70 8 v' (L ++ [y]).length (pcflat (L ++ [y])) → w.grownBy w' v.ownBlock → wpList Try.prog ops Q rest (a.put o.dst v') w') : wpList Try.prog ops Q (o :: rest) a w := by
  obtain ⟨i0, hi, hz0, hz1, hz2⟩ := info_parts piece_info
  refine wpList_append_own _ hgd s x 32 ho base 70 i0 _ 8 64 Try.underlying32 hi hz0 hz1 hz2 rfl (by decide) v L.length (pcflat L) hs hown ⟨bl, 0, none⟩ 1 1 [.int .i64 y.f0, .int .i64 y.f1, .int .i64 y.a0, .int .i64 y.a1, .int .i64 y.b0, .int .i64 y.b1, .int .i64 y.c0, .int .i64 y.c1] hx rfl ?_ (by simp [Value.oneCell']) (by unfold maxLen; omega) (by omega) hbase ?_
  · obtain ⟨c0, c1, c2, c3, c4, c5, c6, c7⟩ := hc
    intro j u hj
    rw [Go.WideShapes.add_plain, Nat.zero_add]
    match j, hj with
    | 0, hj => simp at hj; subst hj; exact c0
    | 1, hj => simp at hj; subst hj; exact c1
    | 2, hj => simp at hj; subst hj; exact c2
    | 3, hj => simp at hj; subst hj; exact c3
    | 4, hj => simp at hj; subst hj; exact c4
    | 5, hj => simp at hj; subst hj; exact c5
    | 6, hj => simp at hj; subst hj; exact c6
    | 7, hj => simp at hj; subst hj; exact c7
  · intro v' w' h1 h2 _
    refine h v' w' ?_ h2
    rw [pcflat_snoc, List.length_append]
    exact h1
end Go.Proofs.Ytlgpolfbilkmbaa
