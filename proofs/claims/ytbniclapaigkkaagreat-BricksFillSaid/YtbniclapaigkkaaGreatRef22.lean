/-
  THE WALKS of the reference's Valid and Small (21), Needed (25), Fill (26).
-/
import Derived.Test.YtbniclapaigkkaaGreatRef21
import Derived.Test.YtbniclapaigkkaaGreatRefN
namespace Go.Proofs.YtbniclapaigkkaaGreat
open Go.RowKit Go.Shelf
attribute [local go_sem] Oper.semAt_some
def rsetB (r : SetR) (L : Bool) : Bool :=
  isNameB r.name && (betB r.depth 0 1048576 && (betB r.low 0 r.high && (betB r.high 0 1048576 && (betB r.length 1000 1048576 && ((r.length % 1000 == 0) && (betB r.lines.length 2 10 &&
    (betB r.pipe 0 1048576 && (betB r.arbor 0 1048576 && (betB r.purchase 1 2 && (betB r.most 1 67108864 && (betB r.brake 0 67108864 && (L && (itemsB r.items r.length && brickB r.bricks)))))))))))))
theorem rsetB_eq (r : SetR) (L : Bool) (h : betB r.lines.length 2 10 = true → (L = true ↔ ∀ j, j < r.lines.length → betB (ig r.lines j) 0 r.length = true ∧ (0 < j → ig r.lines (j - 1) < ig r.lines j))) : rsetB r L = setB r := by
  rw [Bool.eq_iff_iff, setB_iff]
  unfold rsetB
  simp only [Bool.and_eq_true, beq_iff_eq]
  constructor
  · rintro ⟨h1, h2, h3, h4, h5, h6, h7, h8, h9, h10, h11, h12, h13, h14, h15⟩
    have l1 := betB_iff.1 h3
    have l2 := betB_iff.1 h4
    have l3 := betB_iff.1 h5
    exact ⟨h1, betB_iff.1 h2, ⟨l1.1, l1.2, l2.2⟩, ⟨l3.1, l3.2, h6⟩, lines_iff2.2 ⟨h7, (h h7).1 h13⟩, betB_iff.1 h8, betB_iff.1 h9, betB_iff.1 h10, betB_iff.1 h11, betB_iff.1 h12, h14, h15⟩
  · intro q
    obtain ⟨h7, h13⟩ := lines_iff2.1 q.lines
    obtain ⟨a, b, c⟩ := q.low
    obtain ⟨d, e, g⟩ := q.length
    exact ⟨q.name, betB_iff.2 q.depth, betB_iff.2 ⟨a, b⟩, betB_iff.2 ⟨by omega, c⟩, betB_iff.2 ⟨d, e⟩, g, h7, betB_iff.2 q.pipe, betB_iff.2 q.arbor, betB_iff.2 q.purchase, betB_iff.2 q.most, betB_iff.2 q.brake, (h h7).2 h13, q.items, q.bricks⟩
set_option maxRecDepth 100000 in
set_option maxHeartbeats 32000000 in
theorem rvalid_any (r : SetR) (w : World) (hs : SetIn w r) :
    Calls Tryz.prog 8 #[.agg #[.string r.name, .int .i64 r.depth, .int .i64 r.low, .int .i64 r.high, .int .i64 r.length, .slice r.la r.lines.length r.lc, .int .i64 r.pipe, .int .i64 r.arbor, .int .i64 r.purchase, .int .i64 r.most, .int .i64 r.brake, .slice r.ia r.items.length r.ic, .slice r.ba r.bricks.length r.bc]] w fun e w' => e = .returned (.bool (setB r)) ∧ Below w.heap.size w w' := by
  obtain ⟨L, hL⟩ : ∃ L : Bool, L = true ↔ ∀ j, j < r.lines.length → betB (ig r.lines j) 0 r.length = true ∧ (0 < j → ig r.lines (j - 1) < ig r.lines j) := by
    by_cases h : ∀ j, j < r.lines.length → betB (ig r.lines j) 0 r.length = true ∧ (0 < j → ig r.lines (j - 1) < ig r.lines j)
    · exact ⟨true, fun _ => h, fun _ => rfl⟩
    · exact ⟨false, fun h => by (cases h), fun q => absurd q h⟩
  rw [← rsetB_eq r L fun _ => hL]
  obtain ⟨RR, hR⟩ : ∃ R, rsetB r L = R := ⟨_, rfl⟩
  have HF : Hid ((isNameB r.name && (betB r.depth 0 1048576 && (betB r.low 0 r.high && (betB r.high 0 1048576 && (betB r.length 1000 1048576 && ((r.length % 1000 == 0) && (betB r.lines.length 2 10 && (betB r.pipe 0 1048576 && (betB r.arbor 0 1048576 && (betB r.purchase 1 2 && (betB r.most 1 67108864 && (betB r.brake 0 67108864)))))))))))) = false → RR = false) := Lib.hid fun h => by
    rw [← hR, Bool.eq_false_iff]
    intro q
    unfold rsetB at q
    simp only [Bool.and_eq_true] at q
    obtain ⟨a1, a2, a3, a4, a5, a6, a7, a8, a9, a10, a11, a12, _⟩ := q
    rw [a1, a2, a3, a4, a5, a6, a7, a8, a9, a10, a11, a12] at h
    cases h
  have HL2 : Hid ((¬ ∀ j, j < r.lines.length → betB (ig r.lines j) 0 r.length = true ∧ (0 < j → ig r.lines (j - 1) < ig r.lines j)) → RR = false) := Lib.hid fun h => by
    rw [← hR, Bool.eq_false_iff]
    intro q
    unfold rsetB at q
    simp only [Bool.and_eq_true] at q
    obtain ⟨_, _, _, _, _, _, _, _, _, _, _, _, q, _⟩ := q
    exact h (hL.1 q)
  have HL3 : Hid ((isNameB r.name && (betB r.depth 0 1048576 && (betB r.low 0 r.high && (betB r.high 0 1048576 && (betB r.length 1000 1048576 && ((r.length % 1000 == 0) && (betB r.lines.length 2 10 && (betB r.pipe 0 1048576 && (betB r.arbor 0 1048576 && (betB r.purchase 1 2 && (betB r.most 1 67108864 && (betB r.brake 0 67108864)))))))))))) = true → (∀ j, j < r.lines.length → betB (ig r.lines j) 0 r.length = true ∧ (0 < j → ig r.lines (j - 1) < ig r.lines j)) → RR = (itemsB r.items r.length && brickB r.bricks)) := Lib.hid fun h h2 => by
    rw [← hR]
    unfold rsetB
    simp only [Bool.and_eq_true] at h
    simp only [h, hL.2 h2, Bool.true_and]
  rw [hR]
  clear hR hL
  have hb0 := below_new w (.cells #[.string r.name, .int .i64 r.depth, .int .i64 r.low, .int .i64 r.high, .int .i64 r.length, .slice r.la r.lines.length r.lc, .int .i64 r.pipe, .int .i64 r.arbor, .int .i64 r.purchase, .int .i64 r.most, .int .i64 r.brake, .slice r.ia r.items.length r.ic, .slice r.ba r.bricks.length r.bc] 26)
  have HX : Hid (∀ wx, Below (w.alloc (.cells #[.string r.name, .int .i64 r.depth, .int .i64 r.low, .int .i64 r.high, .int .i64 r.length, .slice r.la r.lines.length r.lc, .int .i64 r.pipe, .int .i64 r.arbor, .int .i64 r.purchase, .int .i64 r.most, .int .i64 r.brake, .slice r.ia r.items.length r.ic, .slice r.ba r.bricks.length r.bc] 26)).heap.size (w.alloc (.cells #[.string r.name, .int .i64 r.depth, .int .i64 r.low, .int .i64 r.high, .int .i64 r.length, .slice r.la r.lines.length r.lc, .int .i64 r.pipe, .int .i64 r.arbor, .int .i64 r.purchase, .int .i64 r.most, .int .i64 r.brake, .slice r.ia r.items.length r.ic, .slice r.ba r.bricks.length r.bc] 26)) wx → Below w.heap.size w wx) := Lib.hid fun wx h => mono_in _ h
  have HS : Hid (∀ wx, Below (w.alloc (.cells #[.string r.name, .int .i64 r.depth, .int .i64 r.low, .int .i64 r.high, .int .i64 r.length, .slice r.la r.lines.length r.lc, .int .i64 r.pipe, .int .i64 r.arbor, .int .i64 r.purchase, .int .i64 r.most, .int .i64 r.brake, .slice r.ia r.items.length r.ic, .slice r.ba r.bricks.length r.bc] 26)).heap.size (w.alloc (.cells #[.string r.name, .int .i64 r.depth, .int .i64 r.low, .int .i64 r.high, .int .i64 r.length, .slice r.la r.lines.length r.lc, .int .i64 r.pipe, .int .i64 r.arbor, .int .i64 r.purchase, .int .i64 r.most, .int .i64 r.brake, .slice r.ia r.items.length r.ic, .slice r.ba r.bricks.length r.bc] 26)) wx → SetIn wx r) := Lib.hid fun wx h => (hs.grow hb0).grow h
  have HAT : Hid (∀ wx, Below (w.alloc (.cells #[.string r.name, .int .i64 r.depth, .int .i64 r.low, .int .i64 r.high, .int .i64 r.length, .slice r.la r.lines.length r.lc, .int .i64 r.pipe, .int .i64 r.arbor, .int .i64 r.purchase, .int .i64 r.most, .int .i64 r.brake, .slice r.ia r.items.length r.ic, .slice r.ba r.bricks.length r.bc] 26)).heap.size (w.alloc (.cells #[.string r.name, .int .i64 r.depth, .int .i64 r.low, .int .i64 r.high, .int .i64 r.length, .slice r.la r.lines.length r.lc, .int .i64 r.pipe, .int .i64 r.arbor, .int .i64 r.purchase, .int .i64 r.most, .int .i64 r.brake, .slice r.ia r.items.length r.ic, .slice r.ba r.bricks.length r.bc] 26)) wx → SetAt wx w.heap.size r) := Lib.hid fun wx h => (SetAt.new w r 26).below h (by simp)
  clear hb0 hs
  cases h0 : isNameB r.name
  · have HR : Hid ((isNameB r.name && (betB r.depth 0 1048576 && (betB r.low 0 r.high && (betB r.high 0 1048576 && (betB r.length 1000 1048576 && ((r.length % 1000 == 0) && (betB r.lines.length 2 10 && (betB r.pipe 0 1048576 && (betB r.arbor 0 1048576 && (betB r.purchase 1 2 && (betB r.most 1 67108864 && (betB r.brake 0 67108864)))))))))))) = false) := Lib.hid (by simp only [h0, Bool.false_and])
    have H0 := Lib.hid h0
    clear h0
    have HR2 := Lib.hid (HF.out HR.out)
    clear HF
    go_enter Tryz.func8, Tryz.ntmps8
    go_wp2_with fail
    generalize (w.alloc (.cells #[.string r.name, .int .i64 r.depth, .int .i64 r.low, .int .i64 r.high, .int .i64 r.length, .slice r.la r.lines.length r.lc, .int .i64 r.pipe, .int .i64 r.arbor, .int .i64 r.purchase, .int .i64 r.most, .int .i64 r.brake, .slice r.ia r.items.length r.ic, .slice r.ba r.bricks.length r.bc] 26)) = W0 at *
    have hB1 := Below.refl W0.heap.size W0
    have x0 : ∀ wx, Below W0.heap.size W0 wx → wx.cell? ⟨w.heap.size, 0, none⟩ = some (.string r.name) := fun wx h => (HAT.out wx h).1
    have x1 : ∀ wx, Below W0.heap.size W0 wx → wx.cell? ⟨w.heap.size, 1, none⟩ = some (.int .i64 r.depth) := fun wx h => (HAT.out wx h).2.1
    have x2 : ∀ wx, Below W0.heap.size W0 wx → wx.cell? ⟨w.heap.size, 2, none⟩ = some (.int .i64 r.low) := fun wx h => (HAT.out wx h).2.2.1
    have x3 : ∀ wx, Below W0.heap.size W0 wx → wx.cell? ⟨w.heap.size, 3, none⟩ = some (.int .i64 r.high) := fun wx h => (HAT.out wx h).2.2.2.1
    have x4 : ∀ wx, Below W0.heap.size W0 wx → wx.cell? ⟨w.heap.size, 4, none⟩ = some (.int .i64 r.length) := fun wx h => (HAT.out wx h).2.2.2.2.1
    have x5 : ∀ wx, Below W0.heap.size W0 wx → wx.cell? ⟨w.heap.size, 5, none⟩ = some (.slice r.la r.lines.length r.lc) := fun wx h => (HAT.out wx h).2.2.2.2.2.1
    have x6 : ∀ wx, Below W0.heap.size W0 wx → wx.cell? ⟨w.heap.size, 6, none⟩ = some (.int .i64 r.pipe) := fun wx h => (HAT.out wx h).2.2.2.2.2.2.1
    have x7 : ∀ wx, Below W0.heap.size W0 wx → wx.cell? ⟨w.heap.size, 7, none⟩ = some (.int .i64 r.arbor) := fun wx h => (HAT.out wx h).2.2.2.2.2.2.2.1
    have x8 : ∀ wx, Below W0.heap.size W0 wx → wx.cell? ⟨w.heap.size, 8, none⟩ = some (.int .i64 r.purchase) := fun wx h => (HAT.out wx h).2.2.2.2.2.2.2.2.1
    have x9 : ∀ wx, Below W0.heap.size W0 wx → wx.cell? ⟨w.heap.size, 9, none⟩ = some (.int .i64 r.most) := fun wx h => (HAT.out wx h).2.2.2.2.2.2.2.2.2.1
    have x10 : ∀ wx, Below W0.heap.size W0 wx → wx.cell? ⟨w.heap.size, 10, none⟩ = some (.int .i64 r.brake) := fun wx h => (HAT.out wx h).2.2.2.2.2.2.2.2.2.2.1
    have x11 : ∀ wx, Below W0.heap.size W0 wx → wx.cell? ⟨w.heap.size, 11, none⟩ = some (.slice r.ia r.items.length r.ic) := fun wx h => (HAT.out wx h).2.2.2.2.2.2.2.2.2.2.2.1
    have x12 : ∀ wx, Below W0.heap.size W0 wx → wx.cell? ⟨w.heap.size, 12, none⟩ = some (.slice r.ba r.bricks.length r.bc) := fun wx h => (HAT.out wx h).2.2.2.2.2.2.2.2.2.2.2.2
    go_wp2_with (first
      | (go_at_call 24; (with_reducible refine (refisName_any r.name _).mono ?_); rintro e w1 ⟨rfl, rfl⟩; rw [H0.out])
      | (go_at_call 25; (with_reducible refine (rbetw_any r.depth 0 1048576 _).mono ?_); rintro e w1 ⟨rfl, rfl⟩; rw [H1.out])
      | (go_at_call 25; (with_reducible refine (rbetw_any r.low 0 r.high _).mono ?_); rintro e w1 ⟨rfl, rfl⟩; rw [H2.out])
      | (go_at_call 25; (with_reducible refine (rbetw_any r.high 0 1048576 _).mono ?_); rintro e w1 ⟨rfl, rfl⟩; rw [H3.out])
      | (go_at_call 25; (with_reducible refine (rbetw_any r.length 1000 1048576 _).mono ?_); rintro e w1 ⟨rfl, rfl⟩; rw [H4.out])
      | (go_at_call 25; (with_reducible refine (rbetw_any (r.lines.length : Int) 2 10 _).mono ?_); rintro e w1 ⟨rfl, rfl⟩; rw [H6.out])
      | (go_at_call 25; (with_reducible refine (rbetw_any r.pipe 0 1048576 _).mono ?_); rintro e w1 ⟨rfl, rfl⟩; rw [H7.out])
      | (go_at_call 25; (with_reducible refine (rbetw_any r.arbor 0 1048576 _).mono ?_); rintro e w1 ⟨rfl, rfl⟩; rw [H8.out])
      | (go_at_call 25; (with_reducible refine (rbetw_any r.purchase 1 2 _).mono ?_); rintro e w1 ⟨rfl, rfl⟩; rw [H9.out])
      | (go_at_call 25; (with_reducible refine (rbetw_any r.most 1 67108864 _).mono ?_); rintro e w1 ⟨rfl, rfl⟩; rw [H10.out])
      | (go_at_call 25; (with_reducible refine (rbetw_any r.brake 0 67108864 _).mono ?_); rintro e w1 ⟨rfl, rfl⟩; rw [H11.out]))
    go_ret
    exact ⟨ret_bool HR2.out.symm, HX.out _ hB1⟩
  cases h1 : betB r.depth 0 1048576
  · have HR : Hid ((isNameB r.name && (betB r.depth 0 1048576 && (betB r.low 0 r.high && (betB r.high 0 1048576 && (betB r.length 1000 1048576 && ((r.length % 1000 == 0) && (betB r.lines.length 2 10 && (betB r.pipe 0 1048576 && (betB r.arbor 0 1048576 && (betB r.purchase 1 2 && (betB r.most 1 67108864 && (betB r.brake 0 67108864)))))))))))) = false) := Lib.hid (by simp only [h0, h1, Bool.true_and, Bool.false_and])
    have H0 := Lib.hid h0
    have H1 := Lib.hid h1
    clear h0 h1
    have HR2 := Lib.hid (HF.out HR.out)
    clear HF
    go_enter Tryz.func8, Tryz.ntmps8
    go_wp2_with fail
    generalize (w.alloc (.cells #[.string r.name, .int .i64 r.depth, .int .i64 r.low, .int .i64 r.high, .int .i64 r.length, .slice r.la r.lines.length r.lc, .int .i64 r.pipe, .int .i64 r.arbor, .int .i64 r.purchase, .int .i64 r.most, .int .i64 r.brake, .slice r.ia r.items.length r.ic, .slice r.ba r.bricks.length r.bc] 26)) = W0 at *
    have hB1 := Below.refl W0.heap.size W0
    have x0 : ∀ wx, Below W0.heap.size W0 wx → wx.cell? ⟨w.heap.size, 0, none⟩ = some (.string r.name) := fun wx h => (HAT.out wx h).1
    have x1 : ∀ wx, Below W0.heap.size W0 wx → wx.cell? ⟨w.heap.size, 1, none⟩ = some (.int .i64 r.depth) := fun wx h => (HAT.out wx h).2.1
    have x2 : ∀ wx, Below W0.heap.size W0 wx → wx.cell? ⟨w.heap.size, 2, none⟩ = some (.int .i64 r.low) := fun wx h => (HAT.out wx h).2.2.1
    have x3 : ∀ wx, Below W0.heap.size W0 wx → wx.cell? ⟨w.heap.size, 3, none⟩ = some (.int .i64 r.high) := fun wx h => (HAT.out wx h).2.2.2.1
    have x4 : ∀ wx, Below W0.heap.size W0 wx → wx.cell? ⟨w.heap.size, 4, none⟩ = some (.int .i64 r.length) := fun wx h => (HAT.out wx h).2.2.2.2.1
    have x5 : ∀ wx, Below W0.heap.size W0 wx → wx.cell? ⟨w.heap.size, 5, none⟩ = some (.slice r.la r.lines.length r.lc) := fun wx h => (HAT.out wx h).2.2.2.2.2.1
    have x6 : ∀ wx, Below W0.heap.size W0 wx → wx.cell? ⟨w.heap.size, 6, none⟩ = some (.int .i64 r.pipe) := fun wx h => (HAT.out wx h).2.2.2.2.2.2.1
    have x7 : ∀ wx, Below W0.heap.size W0 wx → wx.cell? ⟨w.heap.size, 7, none⟩ = some (.int .i64 r.arbor) := fun wx h => (HAT.out wx h).2.2.2.2.2.2.2.1
    have x8 : ∀ wx, Below W0.heap.size W0 wx → wx.cell? ⟨w.heap.size, 8, none⟩ = some (.int .i64 r.purchase) := fun wx h => (HAT.out wx h).2.2.2.2.2.2.2.2.1
    have x9 : ∀ wx, Below W0.heap.size W0 wx → wx.cell? ⟨w.heap.size, 9, none⟩ = some (.int .i64 r.most) := fun wx h => (HAT.out wx h).2.2.2.2.2.2.2.2.2.1
    have x10 : ∀ wx, Below W0.heap.size W0 wx → wx.cell? ⟨w.heap.size, 10, none⟩ = some (.int .i64 r.brake) := fun wx h => (HAT.out wx h).2.2.2.2.2.2.2.2.2.2.1
    have x11 : ∀ wx, Below W0.heap.size W0 wx → wx.cell? ⟨w.heap.size, 11, none⟩ = some (.slice r.ia r.items.length r.ic) := fun wx h => (HAT.out wx h).2.2.2.2.2.2.2.2.2.2.2.1
    have x12 : ∀ wx, Below W0.heap.size W0 wx → wx.cell? ⟨w.heap.size, 12, none⟩ = some (.slice r.ba r.bricks.length r.bc) := fun wx h => (HAT.out wx h).2.2.2.2.2.2.2.2.2.2.2.2
    go_wp2_with (first
      | (go_at_call 24; (with_reducible refine (refisName_any r.name _).mono ?_); rintro e w1 ⟨rfl, rfl⟩; rw [H0.out])
      | (go_at_call 25; (with_reducible refine (rbetw_any r.depth 0 1048576 _).mono ?_); rintro e w1 ⟨rfl, rfl⟩; rw [H1.out])
      | (go_at_call 25; (with_reducible refine (rbetw_any r.low 0 r.high _).mono ?_); rintro e w1 ⟨rfl, rfl⟩; rw [H2.out])
      | (go_at_call 25; (with_reducible refine (rbetw_any r.high 0 1048576 _).mono ?_); rintro e w1 ⟨rfl, rfl⟩; rw [H3.out])
      | (go_at_call 25; (with_reducible refine (rbetw_any r.length 1000 1048576 _).mono ?_); rintro e w1 ⟨rfl, rfl⟩; rw [H4.out])
      | (go_at_call 25; (with_reducible refine (rbetw_any (r.lines.length : Int) 2 10 _).mono ?_); rintro e w1 ⟨rfl, rfl⟩; rw [H6.out])
      | (go_at_call 25; (with_reducible refine (rbetw_any r.pipe 0 1048576 _).mono ?_); rintro e w1 ⟨rfl, rfl⟩; rw [H7.out])
      | (go_at_call 25; (with_reducible refine (rbetw_any r.arbor 0 1048576 _).mono ?_); rintro e w1 ⟨rfl, rfl⟩; rw [H8.out])
      | (go_at_call 25; (with_reducible refine (rbetw_any r.purchase 1 2 _).mono ?_); rintro e w1 ⟨rfl, rfl⟩; rw [H9.out])
      | (go_at_call 25; (with_reducible refine (rbetw_any r.most 1 67108864 _).mono ?_); rintro e w1 ⟨rfl, rfl⟩; rw [H10.out])
      | (go_at_call 25; (with_reducible refine (rbetw_any r.brake 0 67108864 _).mono ?_); rintro e w1 ⟨rfl, rfl⟩; rw [H11.out]))
    go_ret
    exact ⟨ret_bool HR2.out.symm, HX.out _ hB1⟩
  cases h2 : betB r.low 0 r.high
  · have HR : Hid ((isNameB r.name && (betB r.depth 0 1048576 && (betB r.low 0 r.high && (betB r.high 0 1048576 && (betB r.length 1000 1048576 && ((r.length % 1000 == 0) && (betB r.lines.length 2 10 && (betB r.pipe 0 1048576 && (betB r.arbor 0 1048576 && (betB r.purchase 1 2 && (betB r.most 1 67108864 && (betB r.brake 0 67108864)))))))))))) = false) := Lib.hid (by simp only [h0, h1, h2, Bool.true_and, Bool.false_and])
    have H0 := Lib.hid h0
    have H1 := Lib.hid h1
    have H2 := Lib.hid h2
    clear h0 h1 h2
    have HR2 := Lib.hid (HF.out HR.out)
    clear HF
    go_enter Tryz.func8, Tryz.ntmps8
    go_wp2_with fail
    generalize (w.alloc (.cells #[.string r.name, .int .i64 r.depth, .int .i64 r.low, .int .i64 r.high, .int .i64 r.length, .slice r.la r.lines.length r.lc, .int .i64 r.pipe, .int .i64 r.arbor, .int .i64 r.purchase, .int .i64 r.most, .int .i64 r.brake, .slice r.ia r.items.length r.ic, .slice r.ba r.bricks.length r.bc] 26)) = W0 at *
    have hB1 := Below.refl W0.heap.size W0
    have x0 : ∀ wx, Below W0.heap.size W0 wx → wx.cell? ⟨w.heap.size, 0, none⟩ = some (.string r.name) := fun wx h => (HAT.out wx h).1
    have x1 : ∀ wx, Below W0.heap.size W0 wx → wx.cell? ⟨w.heap.size, 1, none⟩ = some (.int .i64 r.depth) := fun wx h => (HAT.out wx h).2.1
    have x2 : ∀ wx, Below W0.heap.size W0 wx → wx.cell? ⟨w.heap.size, 2, none⟩ = some (.int .i64 r.low) := fun wx h => (HAT.out wx h).2.2.1
    have x3 : ∀ wx, Below W0.heap.size W0 wx → wx.cell? ⟨w.heap.size, 3, none⟩ = some (.int .i64 r.high) := fun wx h => (HAT.out wx h).2.2.2.1
    have x4 : ∀ wx, Below W0.heap.size W0 wx → wx.cell? ⟨w.heap.size, 4, none⟩ = some (.int .i64 r.length) := fun wx h => (HAT.out wx h).2.2.2.2.1
    have x5 : ∀ wx, Below W0.heap.size W0 wx → wx.cell? ⟨w.heap.size, 5, none⟩ = some (.slice r.la r.lines.length r.lc) := fun wx h => (HAT.out wx h).2.2.2.2.2.1
    have x6 : ∀ wx, Below W0.heap.size W0 wx → wx.cell? ⟨w.heap.size, 6, none⟩ = some (.int .i64 r.pipe) := fun wx h => (HAT.out wx h).2.2.2.2.2.2.1
    have x7 : ∀ wx, Below W0.heap.size W0 wx → wx.cell? ⟨w.heap.size, 7, none⟩ = some (.int .i64 r.arbor) := fun wx h => (HAT.out wx h).2.2.2.2.2.2.2.1
    have x8 : ∀ wx, Below W0.heap.size W0 wx → wx.cell? ⟨w.heap.size, 8, none⟩ = some (.int .i64 r.purchase) := fun wx h => (HAT.out wx h).2.2.2.2.2.2.2.2.1
    have x9 : ∀ wx, Below W0.heap.size W0 wx → wx.cell? ⟨w.heap.size, 9, none⟩ = some (.int .i64 r.most) := fun wx h => (HAT.out wx h).2.2.2.2.2.2.2.2.2.1
    have x10 : ∀ wx, Below W0.heap.size W0 wx → wx.cell? ⟨w.heap.size, 10, none⟩ = some (.int .i64 r.brake) := fun wx h => (HAT.out wx h).2.2.2.2.2.2.2.2.2.2.1
    have x11 : ∀ wx, Below W0.heap.size W0 wx → wx.cell? ⟨w.heap.size, 11, none⟩ = some (.slice r.ia r.items.length r.ic) := fun wx h => (HAT.out wx h).2.2.2.2.2.2.2.2.2.2.2.1
    have x12 : ∀ wx, Below W0.heap.size W0 wx → wx.cell? ⟨w.heap.size, 12, none⟩ = some (.slice r.ba r.bricks.length r.bc) := fun wx h => (HAT.out wx h).2.2.2.2.2.2.2.2.2.2.2.2
    go_wp2_with (first
      | (go_at_call 24; (with_reducible refine (refisName_any r.name _).mono ?_); rintro e w1 ⟨rfl, rfl⟩; rw [H0.out])
      | (go_at_call 25; (with_reducible refine (rbetw_any r.depth 0 1048576 _).mono ?_); rintro e w1 ⟨rfl, rfl⟩; rw [H1.out])
      | (go_at_call 25; (with_reducible refine (rbetw_any r.low 0 r.high _).mono ?_); rintro e w1 ⟨rfl, rfl⟩; rw [H2.out])
      | (go_at_call 25; (with_reducible refine (rbetw_any r.high 0 1048576 _).mono ?_); rintro e w1 ⟨rfl, rfl⟩; rw [H3.out])
      | (go_at_call 25; (with_reducible refine (rbetw_any r.length 1000 1048576 _).mono ?_); rintro e w1 ⟨rfl, rfl⟩; rw [H4.out])
      | (go_at_call 25; (with_reducible refine (rbetw_any (r.lines.length : Int) 2 10 _).mono ?_); rintro e w1 ⟨rfl, rfl⟩; rw [H6.out])
      | (go_at_call 25; (with_reducible refine (rbetw_any r.pipe 0 1048576 _).mono ?_); rintro e w1 ⟨rfl, rfl⟩; rw [H7.out])
      | (go_at_call 25; (with_reducible refine (rbetw_any r.arbor 0 1048576 _).mono ?_); rintro e w1 ⟨rfl, rfl⟩; rw [H8.out])
      | (go_at_call 25; (with_reducible refine (rbetw_any r.purchase 1 2 _).mono ?_); rintro e w1 ⟨rfl, rfl⟩; rw [H9.out])
      | (go_at_call 25; (with_reducible refine (rbetw_any r.most 1 67108864 _).mono ?_); rintro e w1 ⟨rfl, rfl⟩; rw [H10.out])
      | (go_at_call 25; (with_reducible refine (rbetw_any r.brake 0 67108864 _).mono ?_); rintro e w1 ⟨rfl, rfl⟩; rw [H11.out]))
    go_ret
    exact ⟨ret_bool HR2.out.symm, HX.out _ hB1⟩
  cases h3 : betB r.high 0 1048576
  · have HR : Hid ((isNameB r.name && (betB r.depth 0 1048576 && (betB r.low 0 r.high && (betB r.high 0 1048576 && (betB r.length 1000 1048576 && ((r.length % 1000 == 0) && (betB r.lines.length 2 10 && (betB r.pipe 0 1048576 && (betB r.arbor 0 1048576 && (betB r.purchase 1 2 && (betB r.most 1 67108864 && (betB r.brake 0 67108864)))))))))))) = false) := Lib.hid (by simp only [h0, h1, h2, h3, Bool.true_and, Bool.false_and])
    have H0 := Lib.hid h0
    have H1 := Lib.hid h1
    have H2 := Lib.hid h2
    have H3 := Lib.hid h3
    clear h0 h1 h2 h3
    have HR2 := Lib.hid (HF.out HR.out)
    clear HF
    go_enter Tryz.func8, Tryz.ntmps8
    go_wp2_with fail
    generalize (w.alloc (.cells #[.string r.name, .int .i64 r.depth, .int .i64 r.low, .int .i64 r.high, .int .i64 r.length, .slice r.la r.lines.length r.lc, .int .i64 r.pipe, .int .i64 r.arbor, .int .i64 r.purchase, .int .i64 r.most, .int .i64 r.brake, .slice r.ia r.items.length r.ic, .slice r.ba r.bricks.length r.bc] 26)) = W0 at *
    have hB1 := Below.refl W0.heap.size W0
    have x0 : ∀ wx, Below W0.heap.size W0 wx → wx.cell? ⟨w.heap.size, 0, none⟩ = some (.string r.name) := fun wx h => (HAT.out wx h).1
    have x1 : ∀ wx, Below W0.heap.size W0 wx → wx.cell? ⟨w.heap.size, 1, none⟩ = some (.int .i64 r.depth) := fun wx h => (HAT.out wx h).2.1
    have x2 : ∀ wx, Below W0.heap.size W0 wx → wx.cell? ⟨w.heap.size, 2, none⟩ = some (.int .i64 r.low) := fun wx h => (HAT.out wx h).2.2.1
    have x3 : ∀ wx, Below W0.heap.size W0 wx → wx.cell? ⟨w.heap.size, 3, none⟩ = some (.int .i64 r.high) := fun wx h => (HAT.out wx h).2.2.2.1
    have x4 : ∀ wx, Below W0.heap.size W0 wx → wx.cell? ⟨w.heap.size, 4, none⟩ = some (.int .i64 r.length) := fun wx h => (HAT.out wx h).2.2.2.2.1
    have x5 : ∀ wx, Below W0.heap.size W0 wx → wx.cell? ⟨w.heap.size, 5, none⟩ = some (.slice r.la r.lines.length r.lc) := fun wx h => (HAT.out wx h).2.2.2.2.2.1
    have x6 : ∀ wx, Below W0.heap.size W0 wx → wx.cell? ⟨w.heap.size, 6, none⟩ = some (.int .i64 r.pipe) := fun wx h => (HAT.out wx h).2.2.2.2.2.2.1
    have x7 : ∀ wx, Below W0.heap.size W0 wx → wx.cell? ⟨w.heap.size, 7, none⟩ = some (.int .i64 r.arbor) := fun wx h => (HAT.out wx h).2.2.2.2.2.2.2.1
    have x8 : ∀ wx, Below W0.heap.size W0 wx → wx.cell? ⟨w.heap.size, 8, none⟩ = some (.int .i64 r.purchase) := fun wx h => (HAT.out wx h).2.2.2.2.2.2.2.2.1
    have x9 : ∀ wx, Below W0.heap.size W0 wx → wx.cell? ⟨w.heap.size, 9, none⟩ = some (.int .i64 r.most) := fun wx h => (HAT.out wx h).2.2.2.2.2.2.2.2.2.1
    have x10 : ∀ wx, Below W0.heap.size W0 wx → wx.cell? ⟨w.heap.size, 10, none⟩ = some (.int .i64 r.brake) := fun wx h => (HAT.out wx h).2.2.2.2.2.2.2.2.2.2.1
    have x11 : ∀ wx, Below W0.heap.size W0 wx → wx.cell? ⟨w.heap.size, 11, none⟩ = some (.slice r.ia r.items.length r.ic) := fun wx h => (HAT.out wx h).2.2.2.2.2.2.2.2.2.2.2.1
    have x12 : ∀ wx, Below W0.heap.size W0 wx → wx.cell? ⟨w.heap.size, 12, none⟩ = some (.slice r.ba r.bricks.length r.bc) := fun wx h => (HAT.out wx h).2.2.2.2.2.2.2.2.2.2.2.2
    go_wp2_with (first
      | (go_at_call 24; (with_reducible refine (refisName_any r.name _).mono ?_); rintro e w1 ⟨rfl, rfl⟩; rw [H0.out])
      | (go_at_call 25; (with_reducible refine (rbetw_any r.depth 0 1048576 _).mono ?_); rintro e w1 ⟨rfl, rfl⟩; rw [H1.out])
      | (go_at_call 25; (with_reducible refine (rbetw_any r.low 0 r.high _).mono ?_); rintro e w1 ⟨rfl, rfl⟩; rw [H2.out])
      | (go_at_call 25; (with_reducible refine (rbetw_any r.high 0 1048576 _).mono ?_); rintro e w1 ⟨rfl, rfl⟩; rw [H3.out])
      | (go_at_call 25; (with_reducible refine (rbetw_any r.length 1000 1048576 _).mono ?_); rintro e w1 ⟨rfl, rfl⟩; rw [H4.out])
      | (go_at_call 25; (with_reducible refine (rbetw_any (r.lines.length : Int) 2 10 _).mono ?_); rintro e w1 ⟨rfl, rfl⟩; rw [H6.out])
      | (go_at_call 25; (with_reducible refine (rbetw_any r.pipe 0 1048576 _).mono ?_); rintro e w1 ⟨rfl, rfl⟩; rw [H7.out])
      | (go_at_call 25; (with_reducible refine (rbetw_any r.arbor 0 1048576 _).mono ?_); rintro e w1 ⟨rfl, rfl⟩; rw [H8.out])
      | (go_at_call 25; (with_reducible refine (rbetw_any r.purchase 1 2 _).mono ?_); rintro e w1 ⟨rfl, rfl⟩; rw [H9.out])
      | (go_at_call 25; (with_reducible refine (rbetw_any r.most 1 67108864 _).mono ?_); rintro e w1 ⟨rfl, rfl⟩; rw [H10.out])
      | (go_at_call 25; (with_reducible refine (rbetw_any r.brake 0 67108864 _).mono ?_); rintro e w1 ⟨rfl, rfl⟩; rw [H11.out]))
    go_ret
    exact ⟨ret_bool HR2.out.symm, HX.out _ hB1⟩
  cases h4 : betB r.length 1000 1048576
  · have HR : Hid ((isNameB r.name && (betB r.depth 0 1048576 && (betB r.low 0 r.high && (betB r.high 0 1048576 && (betB r.length 1000 1048576 && ((r.length % 1000 == 0) && (betB r.lines.length 2 10 && (betB r.pipe 0 1048576 && (betB r.arbor 0 1048576 && (betB r.purchase 1 2 && (betB r.most 1 67108864 && (betB r.brake 0 67108864)))))))))))) = false) := Lib.hid (by simp only [h0, h1, h2, h3, h4, Bool.true_and, Bool.false_and])
    have H0 := Lib.hid h0
    have H1 := Lib.hid h1
    have H2 := Lib.hid h2
    have H3 := Lib.hid h3
    have H4 := Lib.hid h4
    clear h0 h1 h2 h3 h4
    have HR2 := Lib.hid (HF.out HR.out)
    clear HF
    go_enter Tryz.func8, Tryz.ntmps8
    go_wp2_with fail
    generalize (w.alloc (.cells #[.string r.name, .int .i64 r.depth, .int .i64 r.low, .int .i64 r.high, .int .i64 r.length, .slice r.la r.lines.length r.lc, .int .i64 r.pipe, .int .i64 r.arbor, .int .i64 r.purchase, .int .i64 r.most, .int .i64 r.brake, .slice r.ia r.items.length r.ic, .slice r.ba r.bricks.length r.bc] 26)) = W0 at *
    have hB1 := Below.refl W0.heap.size W0
    have x0 : ∀ wx, Below W0.heap.size W0 wx → wx.cell? ⟨w.heap.size, 0, none⟩ = some (.string r.name) := fun wx h => (HAT.out wx h).1
    have x1 : ∀ wx, Below W0.heap.size W0 wx → wx.cell? ⟨w.heap.size, 1, none⟩ = some (.int .i64 r.depth) := fun wx h => (HAT.out wx h).2.1
    have x2 : ∀ wx, Below W0.heap.size W0 wx → wx.cell? ⟨w.heap.size, 2, none⟩ = some (.int .i64 r.low) := fun wx h => (HAT.out wx h).2.2.1
    have x3 : ∀ wx, Below W0.heap.size W0 wx → wx.cell? ⟨w.heap.size, 3, none⟩ = some (.int .i64 r.high) := fun wx h => (HAT.out wx h).2.2.2.1
    have x4 : ∀ wx, Below W0.heap.size W0 wx → wx.cell? ⟨w.heap.size, 4, none⟩ = some (.int .i64 r.length) := fun wx h => (HAT.out wx h).2.2.2.2.1
    have x5 : ∀ wx, Below W0.heap.size W0 wx → wx.cell? ⟨w.heap.size, 5, none⟩ = some (.slice r.la r.lines.length r.lc) := fun wx h => (HAT.out wx h).2.2.2.2.2.1
    have x6 : ∀ wx, Below W0.heap.size W0 wx → wx.cell? ⟨w.heap.size, 6, none⟩ = some (.int .i64 r.pipe) := fun wx h => (HAT.out wx h).2.2.2.2.2.2.1
    have x7 : ∀ wx, Below W0.heap.size W0 wx → wx.cell? ⟨w.heap.size, 7, none⟩ = some (.int .i64 r.arbor) := fun wx h => (HAT.out wx h).2.2.2.2.2.2.2.1
    have x8 : ∀ wx, Below W0.heap.size W0 wx → wx.cell? ⟨w.heap.size, 8, none⟩ = some (.int .i64 r.purchase) := fun wx h => (HAT.out wx h).2.2.2.2.2.2.2.2.1
    have x9 : ∀ wx, Below W0.heap.size W0 wx → wx.cell? ⟨w.heap.size, 9, none⟩ = some (.int .i64 r.most) := fun wx h => (HAT.out wx h).2.2.2.2.2.2.2.2.2.1
    have x10 : ∀ wx, Below W0.heap.size W0 wx → wx.cell? ⟨w.heap.size, 10, none⟩ = some (.int .i64 r.brake) := fun wx h => (HAT.out wx h).2.2.2.2.2.2.2.2.2.2.1
    have x11 : ∀ wx, Below W0.heap.size W0 wx → wx.cell? ⟨w.heap.size, 11, none⟩ = some (.slice r.ia r.items.length r.ic) := fun wx h => (HAT.out wx h).2.2.2.2.2.2.2.2.2.2.2.1
    have x12 : ∀ wx, Below W0.heap.size W0 wx → wx.cell? ⟨w.heap.size, 12, none⟩ = some (.slice r.ba r.bricks.length r.bc) := fun wx h => (HAT.out wx h).2.2.2.2.2.2.2.2.2.2.2.2
    go_wp2_with (first
      | (go_at_call 24; (with_reducible refine (refisName_any r.name _).mono ?_); rintro e w1 ⟨rfl, rfl⟩; rw [H0.out])
      | (go_at_call 25; (with_reducible refine (rbetw_any r.depth 0 1048576 _).mono ?_); rintro e w1 ⟨rfl, rfl⟩; rw [H1.out])
      | (go_at_call 25; (with_reducible refine (rbetw_any r.low 0 r.high _).mono ?_); rintro e w1 ⟨rfl, rfl⟩; rw [H2.out])
      | (go_at_call 25; (with_reducible refine (rbetw_any r.high 0 1048576 _).mono ?_); rintro e w1 ⟨rfl, rfl⟩; rw [H3.out])
      | (go_at_call 25; (with_reducible refine (rbetw_any r.length 1000 1048576 _).mono ?_); rintro e w1 ⟨rfl, rfl⟩; rw [H4.out])
      | (go_at_call 25; (with_reducible refine (rbetw_any (r.lines.length : Int) 2 10 _).mono ?_); rintro e w1 ⟨rfl, rfl⟩; rw [H6.out])
      | (go_at_call 25; (with_reducible refine (rbetw_any r.pipe 0 1048576 _).mono ?_); rintro e w1 ⟨rfl, rfl⟩; rw [H7.out])
      | (go_at_call 25; (with_reducible refine (rbetw_any r.arbor 0 1048576 _).mono ?_); rintro e w1 ⟨rfl, rfl⟩; rw [H8.out])
      | (go_at_call 25; (with_reducible refine (rbetw_any r.purchase 1 2 _).mono ?_); rintro e w1 ⟨rfl, rfl⟩; rw [H9.out])
      | (go_at_call 25; (with_reducible refine (rbetw_any r.most 1 67108864 _).mono ?_); rintro e w1 ⟨rfl, rfl⟩; rw [H10.out])
      | (go_at_call 25; (with_reducible refine (rbetw_any r.brake 0 67108864 _).mono ?_); rintro e w1 ⟨rfl, rfl⟩; rw [H11.out]))
    go_ret
    exact ⟨ret_bool HR2.out.symm, HX.out _ hB1⟩
  have hlen := betB_iff.1 h4
  have hln2 : 0 ≤ r.length ∧ r.length ≤ 1048576 := by omega
  have HLEN := Lib.hid hln2
  cases h5 : (r.length % 1000 == 0)
  · have HR : Hid ((isNameB r.name && (betB r.depth 0 1048576 && (betB r.low 0 r.high && (betB r.high 0 1048576 && (betB r.length 1000 1048576 && ((r.length % 1000 == 0) && (betB r.lines.length 2 10 && (betB r.pipe 0 1048576 && (betB r.arbor 0 1048576 && (betB r.purchase 1 2 && (betB r.most 1 67108864 && (betB r.brake 0 67108864)))))))))))) = false) := Lib.hid (by simp only [h0, h1, h2, h3, h4, h5, Bool.true_and, Bool.false_and])
    have H0 := Lib.hid h0
    have H1 := Lib.hid h1
    have H2 := Lib.hid h2
    have H3 := Lib.hid h3
    have H4 := Lib.hid h4
    clear h0 h1 h2 h3 h4
    have h5n : (r.length % 1000 != 0) = true := by rw [bne, h5]; rfl
    have HR2 := Lib.hid (HF.out HR.out)
    clear HF
    go_enter Tryz.func8, Tryz.ntmps8
    go_wp2_with fail
    generalize (w.alloc (.cells #[.string r.name, .int .i64 r.depth, .int .i64 r.low, .int .i64 r.high, .int .i64 r.length, .slice r.la r.lines.length r.lc, .int .i64 r.pipe, .int .i64 r.arbor, .int .i64 r.purchase, .int .i64 r.most, .int .i64 r.brake, .slice r.ia r.items.length r.ic, .slice r.ba r.bricks.length r.bc] 26)) = W0 at *
    have hB1 := Below.refl W0.heap.size W0
    have x0 : ∀ wx, Below W0.heap.size W0 wx → wx.cell? ⟨w.heap.size, 0, none⟩ = some (.string r.name) := fun wx h => (HAT.out wx h).1
    have x1 : ∀ wx, Below W0.heap.size W0 wx → wx.cell? ⟨w.heap.size, 1, none⟩ = some (.int .i64 r.depth) := fun wx h => (HAT.out wx h).2.1
    have x2 : ∀ wx, Below W0.heap.size W0 wx → wx.cell? ⟨w.heap.size, 2, none⟩ = some (.int .i64 r.low) := fun wx h => (HAT.out wx h).2.2.1
    have x3 : ∀ wx, Below W0.heap.size W0 wx → wx.cell? ⟨w.heap.size, 3, none⟩ = some (.int .i64 r.high) := fun wx h => (HAT.out wx h).2.2.2.1
    have x4 : ∀ wx, Below W0.heap.size W0 wx → wx.cell? ⟨w.heap.size, 4, none⟩ = some (.int .i64 r.length) := fun wx h => (HAT.out wx h).2.2.2.2.1
    have x5 : ∀ wx, Below W0.heap.size W0 wx → wx.cell? ⟨w.heap.size, 5, none⟩ = some (.slice r.la r.lines.length r.lc) := fun wx h => (HAT.out wx h).2.2.2.2.2.1
    have x6 : ∀ wx, Below W0.heap.size W0 wx → wx.cell? ⟨w.heap.size, 6, none⟩ = some (.int .i64 r.pipe) := fun wx h => (HAT.out wx h).2.2.2.2.2.2.1
    have x7 : ∀ wx, Below W0.heap.size W0 wx → wx.cell? ⟨w.heap.size, 7, none⟩ = some (.int .i64 r.arbor) := fun wx h => (HAT.out wx h).2.2.2.2.2.2.2.1
    have x8 : ∀ wx, Below W0.heap.size W0 wx → wx.cell? ⟨w.heap.size, 8, none⟩ = some (.int .i64 r.purchase) := fun wx h => (HAT.out wx h).2.2.2.2.2.2.2.2.1
    have x9 : ∀ wx, Below W0.heap.size W0 wx → wx.cell? ⟨w.heap.size, 9, none⟩ = some (.int .i64 r.most) := fun wx h => (HAT.out wx h).2.2.2.2.2.2.2.2.2.1
    have x10 : ∀ wx, Below W0.heap.size W0 wx → wx.cell? ⟨w.heap.size, 10, none⟩ = some (.int .i64 r.brake) := fun wx h => (HAT.out wx h).2.2.2.2.2.2.2.2.2.2.1
    have x11 : ∀ wx, Below W0.heap.size W0 wx → wx.cell? ⟨w.heap.size, 11, none⟩ = some (.slice r.ia r.items.length r.ic) := fun wx h => (HAT.out wx h).2.2.2.2.2.2.2.2.2.2.2.1
    have x12 : ∀ wx, Below W0.heap.size W0 wx → wx.cell? ⟨w.heap.size, 12, none⟩ = some (.slice r.ba r.bricks.length r.bc) := fun wx h => (HAT.out wx h).2.2.2.2.2.2.2.2.2.2.2.2
    go_wp2_with (first
      | (go_at_call 24; (with_reducible refine (refisName_any r.name _).mono ?_); rintro e w1 ⟨rfl, rfl⟩; rw [H0.out])
      | (go_at_call 25; (with_reducible refine (rbetw_any r.depth 0 1048576 _).mono ?_); rintro e w1 ⟨rfl, rfl⟩; rw [H1.out])
      | (go_at_call 25; (with_reducible refine (rbetw_any r.low 0 r.high _).mono ?_); rintro e w1 ⟨rfl, rfl⟩; rw [H2.out])
      | (go_at_call 25; (with_reducible refine (rbetw_any r.high 0 1048576 _).mono ?_); rintro e w1 ⟨rfl, rfl⟩; rw [H3.out])
      | (go_at_call 25; (with_reducible refine (rbetw_any r.length 1000 1048576 _).mono ?_); rintro e w1 ⟨rfl, rfl⟩; rw [H4.out])
      | (go_at_call 25; (with_reducible refine (rbetw_any (r.lines.length : Int) 2 10 _).mono ?_); rintro e w1 ⟨rfl, rfl⟩; rw [H6.out])
      | (go_at_call 25; (with_reducible refine (rbetw_any r.pipe 0 1048576 _).mono ?_); rintro e w1 ⟨rfl, rfl⟩; rw [H7.out])
      | (go_at_call 25; (with_reducible refine (rbetw_any r.arbor 0 1048576 _).mono ?_); rintro e w1 ⟨rfl, rfl⟩; rw [H8.out])
      | (go_at_call 25; (with_reducible refine (rbetw_any r.purchase 1 2 _).mono ?_); rintro e w1 ⟨rfl, rfl⟩; rw [H9.out])
      | (go_at_call 25; (with_reducible refine (rbetw_any r.most 1 67108864 _).mono ?_); rintro e w1 ⟨rfl, rfl⟩; rw [H10.out])
      | (go_at_call 25; (with_reducible refine (rbetw_any r.brake 0 67108864 _).mono ?_); rintro e w1 ⟨rfl, rfl⟩; rw [H11.out]))
    go_ret
    exact ⟨ret_bool HR2.out.symm, HX.out _ hB1⟩
  have h5n : (r.length % 1000 != 0) = false := by rw [bne, h5]; rfl
  cases h6 : betB r.lines.length 2 10
  · have HR : Hid ((isNameB r.name && (betB r.depth 0 1048576 && (betB r.low 0 r.high && (betB r.high 0 1048576 && (betB r.length 1000 1048576 && ((r.length % 1000 == 0) && (betB r.lines.length 2 10 && (betB r.pipe 0 1048576 && (betB r.arbor 0 1048576 && (betB r.purchase 1 2 && (betB r.most 1 67108864 && (betB r.brake 0 67108864)))))))))))) = false) := Lib.hid (by simp only [h0, h1, h2, h3, h4, h5, h6, Bool.true_and, Bool.false_and])
    have H0 := Lib.hid h0
    have H1 := Lib.hid h1
    have H2 := Lib.hid h2
    have H3 := Lib.hid h3
    have H4 := Lib.hid h4
    have H6 := Lib.hid h6
    clear h0 h1 h2 h3 h4 h6
    have HR2 := Lib.hid (HF.out HR.out)
    clear HF
    go_enter Tryz.func8, Tryz.ntmps8
    go_wp2_with fail
    generalize (w.alloc (.cells #[.string r.name, .int .i64 r.depth, .int .i64 r.low, .int .i64 r.high, .int .i64 r.length, .slice r.la r.lines.length r.lc, .int .i64 r.pipe, .int .i64 r.arbor, .int .i64 r.purchase, .int .i64 r.most, .int .i64 r.brake, .slice r.ia r.items.length r.ic, .slice r.ba r.bricks.length r.bc] 26)) = W0 at *
    have hB1 := Below.refl W0.heap.size W0
    have x0 : ∀ wx, Below W0.heap.size W0 wx → wx.cell? ⟨w.heap.size, 0, none⟩ = some (.string r.name) := fun wx h => (HAT.out wx h).1
    have x1 : ∀ wx, Below W0.heap.size W0 wx → wx.cell? ⟨w.heap.size, 1, none⟩ = some (.int .i64 r.depth) := fun wx h => (HAT.out wx h).2.1
    have x2 : ∀ wx, Below W0.heap.size W0 wx → wx.cell? ⟨w.heap.size, 2, none⟩ = some (.int .i64 r.low) := fun wx h => (HAT.out wx h).2.2.1
    have x3 : ∀ wx, Below W0.heap.size W0 wx → wx.cell? ⟨w.heap.size, 3, none⟩ = some (.int .i64 r.high) := fun wx h => (HAT.out wx h).2.2.2.1
    have x4 : ∀ wx, Below W0.heap.size W0 wx → wx.cell? ⟨w.heap.size, 4, none⟩ = some (.int .i64 r.length) := fun wx h => (HAT.out wx h).2.2.2.2.1
    have x5 : ∀ wx, Below W0.heap.size W0 wx → wx.cell? ⟨w.heap.size, 5, none⟩ = some (.slice r.la r.lines.length r.lc) := fun wx h => (HAT.out wx h).2.2.2.2.2.1
    have x6 : ∀ wx, Below W0.heap.size W0 wx → wx.cell? ⟨w.heap.size, 6, none⟩ = some (.int .i64 r.pipe) := fun wx h => (HAT.out wx h).2.2.2.2.2.2.1
    have x7 : ∀ wx, Below W0.heap.size W0 wx → wx.cell? ⟨w.heap.size, 7, none⟩ = some (.int .i64 r.arbor) := fun wx h => (HAT.out wx h).2.2.2.2.2.2.2.1
    have x8 : ∀ wx, Below W0.heap.size W0 wx → wx.cell? ⟨w.heap.size, 8, none⟩ = some (.int .i64 r.purchase) := fun wx h => (HAT.out wx h).2.2.2.2.2.2.2.2.1
    have x9 : ∀ wx, Below W0.heap.size W0 wx → wx.cell? ⟨w.heap.size, 9, none⟩ = some (.int .i64 r.most) := fun wx h => (HAT.out wx h).2.2.2.2.2.2.2.2.2.1
    have x10 : ∀ wx, Below W0.heap.size W0 wx → wx.cell? ⟨w.heap.size, 10, none⟩ = some (.int .i64 r.brake) := fun wx h => (HAT.out wx h).2.2.2.2.2.2.2.2.2.2.1
    have x11 : ∀ wx, Below W0.heap.size W0 wx → wx.cell? ⟨w.heap.size, 11, none⟩ = some (.slice r.ia r.items.length r.ic) := fun wx h => (HAT.out wx h).2.2.2.2.2.2.2.2.2.2.2.1
    have x12 : ∀ wx, Below W0.heap.size W0 wx → wx.cell? ⟨w.heap.size, 12, none⟩ = some (.slice r.ba r.bricks.length r.bc) := fun wx h => (HAT.out wx h).2.2.2.2.2.2.2.2.2.2.2.2
    go_wp2_with (first
      | (go_at_call 24; (with_reducible refine (refisName_any r.name _).mono ?_); rintro e w1 ⟨rfl, rfl⟩; rw [H0.out])
      | (go_at_call 25; (with_reducible refine (rbetw_any r.depth 0 1048576 _).mono ?_); rintro e w1 ⟨rfl, rfl⟩; rw [H1.out])
      | (go_at_call 25; (with_reducible refine (rbetw_any r.low 0 r.high _).mono ?_); rintro e w1 ⟨rfl, rfl⟩; rw [H2.out])
      | (go_at_call 25; (with_reducible refine (rbetw_any r.high 0 1048576 _).mono ?_); rintro e w1 ⟨rfl, rfl⟩; rw [H3.out])
      | (go_at_call 25; (with_reducible refine (rbetw_any r.length 1000 1048576 _).mono ?_); rintro e w1 ⟨rfl, rfl⟩; rw [H4.out])
      | (go_at_call 25; (with_reducible refine (rbetw_any (r.lines.length : Int) 2 10 _).mono ?_); rintro e w1 ⟨rfl, rfl⟩; rw [H6.out])
      | (go_at_call 25; (with_reducible refine (rbetw_any r.pipe 0 1048576 _).mono ?_); rintro e w1 ⟨rfl, rfl⟩; rw [H7.out])
      | (go_at_call 25; (with_reducible refine (rbetw_any r.arbor 0 1048576 _).mono ?_); rintro e w1 ⟨rfl, rfl⟩; rw [H8.out])
      | (go_at_call 25; (with_reducible refine (rbetw_any r.purchase 1 2 _).mono ?_); rintro e w1 ⟨rfl, rfl⟩; rw [H9.out])
      | (go_at_call 25; (with_reducible refine (rbetw_any r.most 1 67108864 _).mono ?_); rintro e w1 ⟨rfl, rfl⟩; rw [H10.out])
      | (go_at_call 25; (with_reducible refine (rbetw_any r.brake 0 67108864 _).mono ?_); rintro e w1 ⟨rfl, rfl⟩; rw [H11.out]))
    go_ret
    exact ⟨ret_bool HR2.out.symm, HX.out _ hB1⟩
  cases h7 : betB r.pipe 0 1048576
  · have HR : Hid ((isNameB r.name && (betB r.depth 0 1048576 && (betB r.low 0 r.high && (betB r.high 0 1048576 && (betB r.length 1000 1048576 && ((r.length % 1000 == 0) && (betB r.lines.length 2 10 && (betB r.pipe 0 1048576 && (betB r.arbor 0 1048576 && (betB r.purchase 1 2 && (betB r.most 1 67108864 && (betB r.brake 0 67108864)))))))))))) = false) := Lib.hid (by simp only [h0, h1, h2, h3, h4, h5, h6, h7, Bool.true_and, Bool.false_and])
    have H0 := Lib.hid h0
    have H1 := Lib.hid h1
    have H2 := Lib.hid h2
    have H3 := Lib.hid h3
    have H4 := Lib.hid h4
    have H6 := Lib.hid h6
    have H7 := Lib.hid h7
    clear h0 h1 h2 h3 h4 h6 h7
    have HR2 := Lib.hid (HF.out HR.out)
    clear HF
    go_enter Tryz.func8, Tryz.ntmps8
    go_wp2_with fail
    generalize (w.alloc (.cells #[.string r.name, .int .i64 r.depth, .int .i64 r.low, .int .i64 r.high, .int .i64 r.length, .slice r.la r.lines.length r.lc, .int .i64 r.pipe, .int .i64 r.arbor, .int .i64 r.purchase, .int .i64 r.most, .int .i64 r.brake, .slice r.ia r.items.length r.ic, .slice r.ba r.bricks.length r.bc] 26)) = W0 at *
    have hB1 := Below.refl W0.heap.size W0
    have x0 : ∀ wx, Below W0.heap.size W0 wx → wx.cell? ⟨w.heap.size, 0, none⟩ = some (.string r.name) := fun wx h => (HAT.out wx h).1
    have x1 : ∀ wx, Below W0.heap.size W0 wx → wx.cell? ⟨w.heap.size, 1, none⟩ = some (.int .i64 r.depth) := fun wx h => (HAT.out wx h).2.1
    have x2 : ∀ wx, Below W0.heap.size W0 wx → wx.cell? ⟨w.heap.size, 2, none⟩ = some (.int .i64 r.low) := fun wx h => (HAT.out wx h).2.2.1
    have x3 : ∀ wx, Below W0.heap.size W0 wx → wx.cell? ⟨w.heap.size, 3, none⟩ = some (.int .i64 r.high) := fun wx h => (HAT.out wx h).2.2.2.1
    have x4 : ∀ wx, Below W0.heap.size W0 wx → wx.cell? ⟨w.heap.size, 4, none⟩ = some (.int .i64 r.length) := fun wx h => (HAT.out wx h).2.2.2.2.1
    have x5 : ∀ wx, Below W0.heap.size W0 wx → wx.cell? ⟨w.heap.size, 5, none⟩ = some (.slice r.la r.lines.length r.lc) := fun wx h => (HAT.out wx h).2.2.2.2.2.1
    have x6 : ∀ wx, Below W0.heap.size W0 wx → wx.cell? ⟨w.heap.size, 6, none⟩ = some (.int .i64 r.pipe) := fun wx h => (HAT.out wx h).2.2.2.2.2.2.1
    have x7 : ∀ wx, Below W0.heap.size W0 wx → wx.cell? ⟨w.heap.size, 7, none⟩ = some (.int .i64 r.arbor) := fun wx h => (HAT.out wx h).2.2.2.2.2.2.2.1
    have x8 : ∀ wx, Below W0.heap.size W0 wx → wx.cell? ⟨w.heap.size, 8, none⟩ = some (.int .i64 r.purchase) := fun wx h => (HAT.out wx h).2.2.2.2.2.2.2.2.1
    have x9 : ∀ wx, Below W0.heap.size W0 wx → wx.cell? ⟨w.heap.size, 9, none⟩ = some (.int .i64 r.most) := fun wx h => (HAT.out wx h).2.2.2.2.2.2.2.2.2.1
    have x10 : ∀ wx, Below W0.heap.size W0 wx → wx.cell? ⟨w.heap.size, 10, none⟩ = some (.int .i64 r.brake) := fun wx h => (HAT.out wx h).2.2.2.2.2.2.2.2.2.2.1
    have x11 : ∀ wx, Below W0.heap.size W0 wx → wx.cell? ⟨w.heap.size, 11, none⟩ = some (.slice r.ia r.items.length r.ic) := fun wx h => (HAT.out wx h).2.2.2.2.2.2.2.2.2.2.2.1
    have x12 : ∀ wx, Below W0.heap.size W0 wx → wx.cell? ⟨w.heap.size, 12, none⟩ = some (.slice r.ba r.bricks.length r.bc) := fun wx h => (HAT.out wx h).2.2.2.2.2.2.2.2.2.2.2.2
    go_wp2_with (first
      | (go_at_call 24; (with_reducible refine (refisName_any r.name _).mono ?_); rintro e w1 ⟨rfl, rfl⟩; rw [H0.out])
      | (go_at_call 25; (with_reducible refine (rbetw_any r.depth 0 1048576 _).mono ?_); rintro e w1 ⟨rfl, rfl⟩; rw [H1.out])
      | (go_at_call 25; (with_reducible refine (rbetw_any r.low 0 r.high _).mono ?_); rintro e w1 ⟨rfl, rfl⟩; rw [H2.out])
      | (go_at_call 25; (with_reducible refine (rbetw_any r.high 0 1048576 _).mono ?_); rintro e w1 ⟨rfl, rfl⟩; rw [H3.out])
      | (go_at_call 25; (with_reducible refine (rbetw_any r.length 1000 1048576 _).mono ?_); rintro e w1 ⟨rfl, rfl⟩; rw [H4.out])
      | (go_at_call 25; (with_reducible refine (rbetw_any (r.lines.length : Int) 2 10 _).mono ?_); rintro e w1 ⟨rfl, rfl⟩; rw [H6.out])
      | (go_at_call 25; (with_reducible refine (rbetw_any r.pipe 0 1048576 _).mono ?_); rintro e w1 ⟨rfl, rfl⟩; rw [H7.out])
      | (go_at_call 25; (with_reducible refine (rbetw_any r.arbor 0 1048576 _).mono ?_); rintro e w1 ⟨rfl, rfl⟩; rw [H8.out])
      | (go_at_call 25; (with_reducible refine (rbetw_any r.purchase 1 2 _).mono ?_); rintro e w1 ⟨rfl, rfl⟩; rw [H9.out])
      | (go_at_call 25; (with_reducible refine (rbetw_any r.most 1 67108864 _).mono ?_); rintro e w1 ⟨rfl, rfl⟩; rw [H10.out])
      | (go_at_call 25; (with_reducible refine (rbetw_any r.brake 0 67108864 _).mono ?_); rintro e w1 ⟨rfl, rfl⟩; rw [H11.out]))
    go_ret
    exact ⟨ret_bool HR2.out.symm, HX.out _ hB1⟩
  cases h8 : betB r.arbor 0 1048576
  · have HR : Hid ((isNameB r.name && (betB r.depth 0 1048576 && (betB r.low 0 r.high && (betB r.high 0 1048576 && (betB r.length 1000 1048576 && ((r.length % 1000 == 0) && (betB r.lines.length 2 10 && (betB r.pipe 0 1048576 && (betB r.arbor 0 1048576 && (betB r.purchase 1 2 && (betB r.most 1 67108864 && (betB r.brake 0 67108864)))))))))))) = false) := Lib.hid (by simp only [h0, h1, h2, h3, h4, h5, h6, h7, h8, Bool.true_and, Bool.false_and])
    have H0 := Lib.hid h0
    have H1 := Lib.hid h1
    have H2 := Lib.hid h2
    have H3 := Lib.hid h3
    have H4 := Lib.hid h4
    have H6 := Lib.hid h6
    have H7 := Lib.hid h7
    have H8 := Lib.hid h8
    clear h0 h1 h2 h3 h4 h6 h7 h8
    have HR2 := Lib.hid (HF.out HR.out)
    clear HF
    go_enter Tryz.func8, Tryz.ntmps8
    go_wp2_with fail
    generalize (w.alloc (.cells #[.string r.name, .int .i64 r.depth, .int .i64 r.low, .int .i64 r.high, .int .i64 r.length, .slice r.la r.lines.length r.lc, .int .i64 r.pipe, .int .i64 r.arbor, .int .i64 r.purchase, .int .i64 r.most, .int .i64 r.brake, .slice r.ia r.items.length r.ic, .slice r.ba r.bricks.length r.bc] 26)) = W0 at *
    have hB1 := Below.refl W0.heap.size W0
    have x0 : ∀ wx, Below W0.heap.size W0 wx → wx.cell? ⟨w.heap.size, 0, none⟩ = some (.string r.name) := fun wx h => (HAT.out wx h).1
    have x1 : ∀ wx, Below W0.heap.size W0 wx → wx.cell? ⟨w.heap.size, 1, none⟩ = some (.int .i64 r.depth) := fun wx h => (HAT.out wx h).2.1
    have x2 : ∀ wx, Below W0.heap.size W0 wx → wx.cell? ⟨w.heap.size, 2, none⟩ = some (.int .i64 r.low) := fun wx h => (HAT.out wx h).2.2.1
    have x3 : ∀ wx, Below W0.heap.size W0 wx → wx.cell? ⟨w.heap.size, 3, none⟩ = some (.int .i64 r.high) := fun wx h => (HAT.out wx h).2.2.2.1
    have x4 : ∀ wx, Below W0.heap.size W0 wx → wx.cell? ⟨w.heap.size, 4, none⟩ = some (.int .i64 r.length) := fun wx h => (HAT.out wx h).2.2.2.2.1
    have x5 : ∀ wx, Below W0.heap.size W0 wx → wx.cell? ⟨w.heap.size, 5, none⟩ = some (.slice r.la r.lines.length r.lc) := fun wx h => (HAT.out wx h).2.2.2.2.2.1
    have x6 : ∀ wx, Below W0.heap.size W0 wx → wx.cell? ⟨w.heap.size, 6, none⟩ = some (.int .i64 r.pipe) := fun wx h => (HAT.out wx h).2.2.2.2.2.2.1
    have x7 : ∀ wx, Below W0.heap.size W0 wx → wx.cell? ⟨w.heap.size, 7, none⟩ = some (.int .i64 r.arbor) := fun wx h => (HAT.out wx h).2.2.2.2.2.2.2.1
    have x8 : ∀ wx, Below W0.heap.size W0 wx → wx.cell? ⟨w.heap.size, 8, none⟩ = some (.int .i64 r.purchase) := fun wx h => (HAT.out wx h).2.2.2.2.2.2.2.2.1
    have x9 : ∀ wx, Below W0.heap.size W0 wx → wx.cell? ⟨w.heap.size, 9, none⟩ = some (.int .i64 r.most) := fun wx h => (HAT.out wx h).2.2.2.2.2.2.2.2.2.1
    have x10 : ∀ wx, Below W0.heap.size W0 wx → wx.cell? ⟨w.heap.size, 10, none⟩ = some (.int .i64 r.brake) := fun wx h => (HAT.out wx h).2.2.2.2.2.2.2.2.2.2.1
    have x11 : ∀ wx, Below W0.heap.size W0 wx → wx.cell? ⟨w.heap.size, 11, none⟩ = some (.slice r.ia r.items.length r.ic) := fun wx h => (HAT.out wx h).2.2.2.2.2.2.2.2.2.2.2.1
    have x12 : ∀ wx, Below W0.heap.size W0 wx → wx.cell? ⟨w.heap.size, 12, none⟩ = some (.slice r.ba r.bricks.length r.bc) := fun wx h => (HAT.out wx h).2.2.2.2.2.2.2.2.2.2.2.2
    go_wp2_with (first
      | (go_at_call 24; (with_reducible refine (refisName_any r.name _).mono ?_); rintro e w1 ⟨rfl, rfl⟩; rw [H0.out])
      | (go_at_call 25; (with_reducible refine (rbetw_any r.depth 0 1048576 _).mono ?_); rintro e w1 ⟨rfl, rfl⟩; rw [H1.out])
      | (go_at_call 25; (with_reducible refine (rbetw_any r.low 0 r.high _).mono ?_); rintro e w1 ⟨rfl, rfl⟩; rw [H2.out])
      | (go_at_call 25; (with_reducible refine (rbetw_any r.high 0 1048576 _).mono ?_); rintro e w1 ⟨rfl, rfl⟩; rw [H3.out])
      | (go_at_call 25; (with_reducible refine (rbetw_any r.length 1000 1048576 _).mono ?_); rintro e w1 ⟨rfl, rfl⟩; rw [H4.out])
      | (go_at_call 25; (with_reducible refine (rbetw_any (r.lines.length : Int) 2 10 _).mono ?_); rintro e w1 ⟨rfl, rfl⟩; rw [H6.out])
      | (go_at_call 25; (with_reducible refine (rbetw_any r.pipe 0 1048576 _).mono ?_); rintro e w1 ⟨rfl, rfl⟩; rw [H7.out])
      | (go_at_call 25; (with_reducible refine (rbetw_any r.arbor 0 1048576 _).mono ?_); rintro e w1 ⟨rfl, rfl⟩; rw [H8.out])
      | (go_at_call 25; (with_reducible refine (rbetw_any r.purchase 1 2 _).mono ?_); rintro e w1 ⟨rfl, rfl⟩; rw [H9.out])
      | (go_at_call 25; (with_reducible refine (rbetw_any r.most 1 67108864 _).mono ?_); rintro e w1 ⟨rfl, rfl⟩; rw [H10.out])
      | (go_at_call 25; (with_reducible refine (rbetw_any r.brake 0 67108864 _).mono ?_); rintro e w1 ⟨rfl, rfl⟩; rw [H11.out]))
    go_ret
    exact ⟨ret_bool HR2.out.symm, HX.out _ hB1⟩
  cases h9 : betB r.purchase 1 2
  · have HR : Hid ((isNameB r.name && (betB r.depth 0 1048576 && (betB r.low 0 r.high && (betB r.high 0 1048576 && (betB r.length 1000 1048576 && ((r.length % 1000 == 0) && (betB r.lines.length 2 10 && (betB r.pipe 0 1048576 && (betB r.arbor 0 1048576 && (betB r.purchase 1 2 && (betB r.most 1 67108864 && (betB r.brake 0 67108864)))))))))))) = false) := Lib.hid (by simp only [h0, h1, h2, h3, h4, h5, h6, h7, h8, h9, Bool.true_and, Bool.false_and])
    have H0 := Lib.hid h0
    have H1 := Lib.hid h1
    have H2 := Lib.hid h2
    have H3 := Lib.hid h3
    have H4 := Lib.hid h4
    have H6 := Lib.hid h6
    have H7 := Lib.hid h7
    have H8 := Lib.hid h8
    have H9 := Lib.hid h9
    clear h0 h1 h2 h3 h4 h6 h7 h8 h9
    have HR2 := Lib.hid (HF.out HR.out)
    clear HF
    go_enter Tryz.func8, Tryz.ntmps8
    go_wp2_with fail
    generalize (w.alloc (.cells #[.string r.name, .int .i64 r.depth, .int .i64 r.low, .int .i64 r.high, .int .i64 r.length, .slice r.la r.lines.length r.lc, .int .i64 r.pipe, .int .i64 r.arbor, .int .i64 r.purchase, .int .i64 r.most, .int .i64 r.brake, .slice r.ia r.items.length r.ic, .slice r.ba r.bricks.length r.bc] 26)) = W0 at *
    have hB1 := Below.refl W0.heap.size W0
    have x0 : ∀ wx, Below W0.heap.size W0 wx → wx.cell? ⟨w.heap.size, 0, none⟩ = some (.string r.name) := fun wx h => (HAT.out wx h).1
    have x1 : ∀ wx, Below W0.heap.size W0 wx → wx.cell? ⟨w.heap.size, 1, none⟩ = some (.int .i64 r.depth) := fun wx h => (HAT.out wx h).2.1
    have x2 : ∀ wx, Below W0.heap.size W0 wx → wx.cell? ⟨w.heap.size, 2, none⟩ = some (.int .i64 r.low) := fun wx h => (HAT.out wx h).2.2.1
    have x3 : ∀ wx, Below W0.heap.size W0 wx → wx.cell? ⟨w.heap.size, 3, none⟩ = some (.int .i64 r.high) := fun wx h => (HAT.out wx h).2.2.2.1
    have x4 : ∀ wx, Below W0.heap.size W0 wx → wx.cell? ⟨w.heap.size, 4, none⟩ = some (.int .i64 r.length) := fun wx h => (HAT.out wx h).2.2.2.2.1
    have x5 : ∀ wx, Below W0.heap.size W0 wx → wx.cell? ⟨w.heap.size, 5, none⟩ = some (.slice r.la r.lines.length r.lc) := fun wx h => (HAT.out wx h).2.2.2.2.2.1
    have x6 : ∀ wx, Below W0.heap.size W0 wx → wx.cell? ⟨w.heap.size, 6, none⟩ = some (.int .i64 r.pipe) := fun wx h => (HAT.out wx h).2.2.2.2.2.2.1
    have x7 : ∀ wx, Below W0.heap.size W0 wx → wx.cell? ⟨w.heap.size, 7, none⟩ = some (.int .i64 r.arbor) := fun wx h => (HAT.out wx h).2.2.2.2.2.2.2.1
    have x8 : ∀ wx, Below W0.heap.size W0 wx → wx.cell? ⟨w.heap.size, 8, none⟩ = some (.int .i64 r.purchase) := fun wx h => (HAT.out wx h).2.2.2.2.2.2.2.2.1
    have x9 : ∀ wx, Below W0.heap.size W0 wx → wx.cell? ⟨w.heap.size, 9, none⟩ = some (.int .i64 r.most) := fun wx h => (HAT.out wx h).2.2.2.2.2.2.2.2.2.1
    have x10 : ∀ wx, Below W0.heap.size W0 wx → wx.cell? ⟨w.heap.size, 10, none⟩ = some (.int .i64 r.brake) := fun wx h => (HAT.out wx h).2.2.2.2.2.2.2.2.2.2.1
    have x11 : ∀ wx, Below W0.heap.size W0 wx → wx.cell? ⟨w.heap.size, 11, none⟩ = some (.slice r.ia r.items.length r.ic) := fun wx h => (HAT.out wx h).2.2.2.2.2.2.2.2.2.2.2.1
    have x12 : ∀ wx, Below W0.heap.size W0 wx → wx.cell? ⟨w.heap.size, 12, none⟩ = some (.slice r.ba r.bricks.length r.bc) := fun wx h => (HAT.out wx h).2.2.2.2.2.2.2.2.2.2.2.2
    go_wp2_with (first
      | (go_at_call 24; (with_reducible refine (refisName_any r.name _).mono ?_); rintro e w1 ⟨rfl, rfl⟩; rw [H0.out])
      | (go_at_call 25; (with_reducible refine (rbetw_any r.depth 0 1048576 _).mono ?_); rintro e w1 ⟨rfl, rfl⟩; rw [H1.out])
      | (go_at_call 25; (with_reducible refine (rbetw_any r.low 0 r.high _).mono ?_); rintro e w1 ⟨rfl, rfl⟩; rw [H2.out])
      | (go_at_call 25; (with_reducible refine (rbetw_any r.high 0 1048576 _).mono ?_); rintro e w1 ⟨rfl, rfl⟩; rw [H3.out])
      | (go_at_call 25; (with_reducible refine (rbetw_any r.length 1000 1048576 _).mono ?_); rintro e w1 ⟨rfl, rfl⟩; rw [H4.out])
      | (go_at_call 25; (with_reducible refine (rbetw_any (r.lines.length : Int) 2 10 _).mono ?_); rintro e w1 ⟨rfl, rfl⟩; rw [H6.out])
      | (go_at_call 25; (with_reducible refine (rbetw_any r.pipe 0 1048576 _).mono ?_); rintro e w1 ⟨rfl, rfl⟩; rw [H7.out])
      | (go_at_call 25; (with_reducible refine (rbetw_any r.arbor 0 1048576 _).mono ?_); rintro e w1 ⟨rfl, rfl⟩; rw [H8.out])
      | (go_at_call 25; (with_reducible refine (rbetw_any r.purchase 1 2 _).mono ?_); rintro e w1 ⟨rfl, rfl⟩; rw [H9.out])
      | (go_at_call 25; (with_reducible refine (rbetw_any r.most 1 67108864 _).mono ?_); rintro e w1 ⟨rfl, rfl⟩; rw [H10.out])
      | (go_at_call 25; (with_reducible refine (rbetw_any r.brake 0 67108864 _).mono ?_); rintro e w1 ⟨rfl, rfl⟩; rw [H11.out]))
    go_ret
    exact ⟨ret_bool HR2.out.symm, HX.out _ hB1⟩
  cases h10 : betB r.most 1 67108864
  · have HR : Hid ((isNameB r.name && (betB r.depth 0 1048576 && (betB r.low 0 r.high && (betB r.high 0 1048576 && (betB r.length 1000 1048576 && ((r.length % 1000 == 0) && (betB r.lines.length 2 10 && (betB r.pipe 0 1048576 && (betB r.arbor 0 1048576 && (betB r.purchase 1 2 && (betB r.most 1 67108864 && (betB r.brake 0 67108864)))))))))))) = false) := Lib.hid (by simp only [h0, h1, h2, h3, h4, h5, h6, h7, h8, h9, h10, Bool.true_and, Bool.false_and])
    have H0 := Lib.hid h0
    have H1 := Lib.hid h1
    have H2 := Lib.hid h2
    have H3 := Lib.hid h3
    have H4 := Lib.hid h4
    have H6 := Lib.hid h6
    have H7 := Lib.hid h7
    have H8 := Lib.hid h8
    have H9 := Lib.hid h9
    have H10 := Lib.hid h10
    clear h0 h1 h2 h3 h4 h6 h7 h8 h9 h10
    have HR2 := Lib.hid (HF.out HR.out)
    clear HF
    go_enter Tryz.func8, Tryz.ntmps8
    go_wp2_with fail
    generalize (w.alloc (.cells #[.string r.name, .int .i64 r.depth, .int .i64 r.low, .int .i64 r.high, .int .i64 r.length, .slice r.la r.lines.length r.lc, .int .i64 r.pipe, .int .i64 r.arbor, .int .i64 r.purchase, .int .i64 r.most, .int .i64 r.brake, .slice r.ia r.items.length r.ic, .slice r.ba r.bricks.length r.bc] 26)) = W0 at *
    have hB1 := Below.refl W0.heap.size W0
    have x0 : ∀ wx, Below W0.heap.size W0 wx → wx.cell? ⟨w.heap.size, 0, none⟩ = some (.string r.name) := fun wx h => (HAT.out wx h).1
    have x1 : ∀ wx, Below W0.heap.size W0 wx → wx.cell? ⟨w.heap.size, 1, none⟩ = some (.int .i64 r.depth) := fun wx h => (HAT.out wx h).2.1
    have x2 : ∀ wx, Below W0.heap.size W0 wx → wx.cell? ⟨w.heap.size, 2, none⟩ = some (.int .i64 r.low) := fun wx h => (HAT.out wx h).2.2.1
    have x3 : ∀ wx, Below W0.heap.size W0 wx → wx.cell? ⟨w.heap.size, 3, none⟩ = some (.int .i64 r.high) := fun wx h => (HAT.out wx h).2.2.2.1
    have x4 : ∀ wx, Below W0.heap.size W0 wx → wx.cell? ⟨w.heap.size, 4, none⟩ = some (.int .i64 r.length) := fun wx h => (HAT.out wx h).2.2.2.2.1
    have x5 : ∀ wx, Below W0.heap.size W0 wx → wx.cell? ⟨w.heap.size, 5, none⟩ = some (.slice r.la r.lines.length r.lc) := fun wx h => (HAT.out wx h).2.2.2.2.2.1
    have x6 : ∀ wx, Below W0.heap.size W0 wx → wx.cell? ⟨w.heap.size, 6, none⟩ = some (.int .i64 r.pipe) := fun wx h => (HAT.out wx h).2.2.2.2.2.2.1
    have x7 : ∀ wx, Below W0.heap.size W0 wx → wx.cell? ⟨w.heap.size, 7, none⟩ = some (.int .i64 r.arbor) := fun wx h => (HAT.out wx h).2.2.2.2.2.2.2.1
    have x8 : ∀ wx, Below W0.heap.size W0 wx → wx.cell? ⟨w.heap.size, 8, none⟩ = some (.int .i64 r.purchase) := fun wx h => (HAT.out wx h).2.2.2.2.2.2.2.2.1
    have x9 : ∀ wx, Below W0.heap.size W0 wx → wx.cell? ⟨w.heap.size, 9, none⟩ = some (.int .i64 r.most) := fun wx h => (HAT.out wx h).2.2.2.2.2.2.2.2.2.1
    have x10 : ∀ wx, Below W0.heap.size W0 wx → wx.cell? ⟨w.heap.size, 10, none⟩ = some (.int .i64 r.brake) := fun wx h => (HAT.out wx h).2.2.2.2.2.2.2.2.2.2.1
    have x11 : ∀ wx, Below W0.heap.size W0 wx → wx.cell? ⟨w.heap.size, 11, none⟩ = some (.slice r.ia r.items.length r.ic) := fun wx h => (HAT.out wx h).2.2.2.2.2.2.2.2.2.2.2.1
    have x12 : ∀ wx, Below W0.heap.size W0 wx → wx.cell? ⟨w.heap.size, 12, none⟩ = some (.slice r.ba r.bricks.length r.bc) := fun wx h => (HAT.out wx h).2.2.2.2.2.2.2.2.2.2.2.2
    go_wp2_with (first
      | (go_at_call 24; (with_reducible refine (refisName_any r.name _).mono ?_); rintro e w1 ⟨rfl, rfl⟩; rw [H0.out])
      | (go_at_call 25; (with_reducible refine (rbetw_any r.depth 0 1048576 _).mono ?_); rintro e w1 ⟨rfl, rfl⟩; rw [H1.out])
      | (go_at_call 25; (with_reducible refine (rbetw_any r.low 0 r.high _).mono ?_); rintro e w1 ⟨rfl, rfl⟩; rw [H2.out])
      | (go_at_call 25; (with_reducible refine (rbetw_any r.high 0 1048576 _).mono ?_); rintro e w1 ⟨rfl, rfl⟩; rw [H3.out])
      | (go_at_call 25; (with_reducible refine (rbetw_any r.length 1000 1048576 _).mono ?_); rintro e w1 ⟨rfl, rfl⟩; rw [H4.out])
      | (go_at_call 25; (with_reducible refine (rbetw_any (r.lines.length : Int) 2 10 _).mono ?_); rintro e w1 ⟨rfl, rfl⟩; rw [H6.out])
      | (go_at_call 25; (with_reducible refine (rbetw_any r.pipe 0 1048576 _).mono ?_); rintro e w1 ⟨rfl, rfl⟩; rw [H7.out])
      | (go_at_call 25; (with_reducible refine (rbetw_any r.arbor 0 1048576 _).mono ?_); rintro e w1 ⟨rfl, rfl⟩; rw [H8.out])
      | (go_at_call 25; (with_reducible refine (rbetw_any r.purchase 1 2 _).mono ?_); rintro e w1 ⟨rfl, rfl⟩; rw [H9.out])
      | (go_at_call 25; (with_reducible refine (rbetw_any r.most 1 67108864 _).mono ?_); rintro e w1 ⟨rfl, rfl⟩; rw [H10.out])
      | (go_at_call 25; (with_reducible refine (rbetw_any r.brake 0 67108864 _).mono ?_); rintro e w1 ⟨rfl, rfl⟩; rw [H11.out]))
    go_ret
    exact ⟨ret_bool HR2.out.symm, HX.out _ hB1⟩
  cases h11 : betB r.brake 0 67108864
  · have HR : Hid ((isNameB r.name && (betB r.depth 0 1048576 && (betB r.low 0 r.high && (betB r.high 0 1048576 && (betB r.length 1000 1048576 && ((r.length % 1000 == 0) && (betB r.lines.length 2 10 && (betB r.pipe 0 1048576 && (betB r.arbor 0 1048576 && (betB r.purchase 1 2 && (betB r.most 1 67108864 && (betB r.brake 0 67108864)))))))))))) = false) := Lib.hid (by simp only [h0, h1, h2, h3, h4, h5, h6, h7, h8, h9, h10, h11, Bool.true_and])
    have H0 := Lib.hid h0
    have H1 := Lib.hid h1
    have H2 := Lib.hid h2
    have H3 := Lib.hid h3
    have H4 := Lib.hid h4
    have H6 := Lib.hid h6
    have H7 := Lib.hid h7
    have H8 := Lib.hid h8
    have H9 := Lib.hid h9
    have H10 := Lib.hid h10
    have H11 := Lib.hid h11
    clear h0 h1 h2 h3 h4 h6 h7 h8 h9 h10 h11
    have HR2 := Lib.hid (HF.out HR.out)
    clear HF
    go_enter Tryz.func8, Tryz.ntmps8
    go_wp2_with fail
    generalize (w.alloc (.cells #[.string r.name, .int .i64 r.depth, .int .i64 r.low, .int .i64 r.high, .int .i64 r.length, .slice r.la r.lines.length r.lc, .int .i64 r.pipe, .int .i64 r.arbor, .int .i64 r.purchase, .int .i64 r.most, .int .i64 r.brake, .slice r.ia r.items.length r.ic, .slice r.ba r.bricks.length r.bc] 26)) = W0 at *
    have hB1 := Below.refl W0.heap.size W0
    have x0 : ∀ wx, Below W0.heap.size W0 wx → wx.cell? ⟨w.heap.size, 0, none⟩ = some (.string r.name) := fun wx h => (HAT.out wx h).1
    have x1 : ∀ wx, Below W0.heap.size W0 wx → wx.cell? ⟨w.heap.size, 1, none⟩ = some (.int .i64 r.depth) := fun wx h => (HAT.out wx h).2.1
    have x2 : ∀ wx, Below W0.heap.size W0 wx → wx.cell? ⟨w.heap.size, 2, none⟩ = some (.int .i64 r.low) := fun wx h => (HAT.out wx h).2.2.1
    have x3 : ∀ wx, Below W0.heap.size W0 wx → wx.cell? ⟨w.heap.size, 3, none⟩ = some (.int .i64 r.high) := fun wx h => (HAT.out wx h).2.2.2.1
    have x4 : ∀ wx, Below W0.heap.size W0 wx → wx.cell? ⟨w.heap.size, 4, none⟩ = some (.int .i64 r.length) := fun wx h => (HAT.out wx h).2.2.2.2.1
    have x5 : ∀ wx, Below W0.heap.size W0 wx → wx.cell? ⟨w.heap.size, 5, none⟩ = some (.slice r.la r.lines.length r.lc) := fun wx h => (HAT.out wx h).2.2.2.2.2.1
    have x6 : ∀ wx, Below W0.heap.size W0 wx → wx.cell? ⟨w.heap.size, 6, none⟩ = some (.int .i64 r.pipe) := fun wx h => (HAT.out wx h).2.2.2.2.2.2.1
    have x7 : ∀ wx, Below W0.heap.size W0 wx → wx.cell? ⟨w.heap.size, 7, none⟩ = some (.int .i64 r.arbor) := fun wx h => (HAT.out wx h).2.2.2.2.2.2.2.1
    have x8 : ∀ wx, Below W0.heap.size W0 wx → wx.cell? ⟨w.heap.size, 8, none⟩ = some (.int .i64 r.purchase) := fun wx h => (HAT.out wx h).2.2.2.2.2.2.2.2.1
    have x9 : ∀ wx, Below W0.heap.size W0 wx → wx.cell? ⟨w.heap.size, 9, none⟩ = some (.int .i64 r.most) := fun wx h => (HAT.out wx h).2.2.2.2.2.2.2.2.2.1
    have x10 : ∀ wx, Below W0.heap.size W0 wx → wx.cell? ⟨w.heap.size, 10, none⟩ = some (.int .i64 r.brake) := fun wx h => (HAT.out wx h).2.2.2.2.2.2.2.2.2.2.1
    have x11 : ∀ wx, Below W0.heap.size W0 wx → wx.cell? ⟨w.heap.size, 11, none⟩ = some (.slice r.ia r.items.length r.ic) := fun wx h => (HAT.out wx h).2.2.2.2.2.2.2.2.2.2.2.1
    have x12 : ∀ wx, Below W0.heap.size W0 wx → wx.cell? ⟨w.heap.size, 12, none⟩ = some (.slice r.ba r.bricks.length r.bc) := fun wx h => (HAT.out wx h).2.2.2.2.2.2.2.2.2.2.2.2
    go_wp2_with (first
      | (go_at_call 24; (with_reducible refine (refisName_any r.name _).mono ?_); rintro e w1 ⟨rfl, rfl⟩; rw [H0.out])
      | (go_at_call 25; (with_reducible refine (rbetw_any r.depth 0 1048576 _).mono ?_); rintro e w1 ⟨rfl, rfl⟩; rw [H1.out])
      | (go_at_call 25; (with_reducible refine (rbetw_any r.low 0 r.high _).mono ?_); rintro e w1 ⟨rfl, rfl⟩; rw [H2.out])
      | (go_at_call 25; (with_reducible refine (rbetw_any r.high 0 1048576 _).mono ?_); rintro e w1 ⟨rfl, rfl⟩; rw [H3.out])
      | (go_at_call 25; (with_reducible refine (rbetw_any r.length 1000 1048576 _).mono ?_); rintro e w1 ⟨rfl, rfl⟩; rw [H4.out])
      | (go_at_call 25; (with_reducible refine (rbetw_any (r.lines.length : Int) 2 10 _).mono ?_); rintro e w1 ⟨rfl, rfl⟩; rw [H6.out])
      | (go_at_call 25; (with_reducible refine (rbetw_any r.pipe 0 1048576 _).mono ?_); rintro e w1 ⟨rfl, rfl⟩; rw [H7.out])
      | (go_at_call 25; (with_reducible refine (rbetw_any r.arbor 0 1048576 _).mono ?_); rintro e w1 ⟨rfl, rfl⟩; rw [H8.out])
      | (go_at_call 25; (with_reducible refine (rbetw_any r.purchase 1 2 _).mono ?_); rintro e w1 ⟨rfl, rfl⟩; rw [H9.out])
      | (go_at_call 25; (with_reducible refine (rbetw_any r.most 1 67108864 _).mono ?_); rintro e w1 ⟨rfl, rfl⟩; rw [H10.out])
      | (go_at_call 25; (with_reducible refine (rbetw_any r.brake 0 67108864 _).mono ?_); rintro e w1 ⟨rfl, rfl⟩; rw [H11.out]))
    go_ret
    exact ⟨ret_bool HR2.out.symm, HX.out _ hB1⟩
  have HR : Hid ((isNameB r.name && (betB r.depth 0 1048576 && (betB r.low 0 r.high && (betB r.high 0 1048576 && (betB r.length 1000 1048576 && ((r.length % 1000 == 0) && (betB r.lines.length 2 10 && (betB r.pipe 0 1048576 && (betB r.arbor 0 1048576 && (betB r.purchase 1 2 && (betB r.most 1 67108864 && (betB r.brake 0 67108864)))))))))))) = true) := Lib.hid (by simp only [h0, h1, h2, h3, h4, h5, h6, h7, h8, h9, h10, h11, Bool.and_self])
  have H0 := Lib.hid h0
  have H1 := Lib.hid h1
  have H2 := Lib.hid h2
  have H3 := Lib.hid h3
  have H4 := Lib.hid h4
  have H6 := Lib.hid h6
  have H7 := Lib.hid h7
  have H8 := Lib.hid h8
  have H9 := Lib.hid h9
  have H10 := Lib.hid h10
  have H11 := Lib.hid h11
  clear h0 h1 h2 h3 h4 h6 h7 h8 h9 h10 h11
  have HL3 := Lib.hid (HL3.out HR.out)
  clear HF
  have hl2 := betB_iff.1 H6.out
  go_enter Tryz.func8, Tryz.ntmps8
  go_wp2_with fail
  generalize (w.alloc (.cells #[.string r.name, .int .i64 r.depth, .int .i64 r.low, .int .i64 r.high, .int .i64 r.length, .slice r.la r.lines.length r.lc, .int .i64 r.pipe, .int .i64 r.arbor, .int .i64 r.purchase, .int .i64 r.most, .int .i64 r.brake, .slice r.ia r.items.length r.ic, .slice r.ba r.bricks.length r.bc] 26)) = W0 at *
  have hB1 := Below.refl W0.heap.size W0
  have x0 : ∀ wx, Below W0.heap.size W0 wx → wx.cell? ⟨w.heap.size, 0, none⟩ = some (.string r.name) := fun wx h => (HAT.out wx h).1
  have x1 : ∀ wx, Below W0.heap.size W0 wx → wx.cell? ⟨w.heap.size, 1, none⟩ = some (.int .i64 r.depth) := fun wx h => (HAT.out wx h).2.1
  have x2 : ∀ wx, Below W0.heap.size W0 wx → wx.cell? ⟨w.heap.size, 2, none⟩ = some (.int .i64 r.low) := fun wx h => (HAT.out wx h).2.2.1
  have x3 : ∀ wx, Below W0.heap.size W0 wx → wx.cell? ⟨w.heap.size, 3, none⟩ = some (.int .i64 r.high) := fun wx h => (HAT.out wx h).2.2.2.1
  have x4 : ∀ wx, Below W0.heap.size W0 wx → wx.cell? ⟨w.heap.size, 4, none⟩ = some (.int .i64 r.length) := fun wx h => (HAT.out wx h).2.2.2.2.1
  have x5 : ∀ wx, Below W0.heap.size W0 wx → wx.cell? ⟨w.heap.size, 5, none⟩ = some (.slice r.la r.lines.length r.lc) := fun wx h => (HAT.out wx h).2.2.2.2.2.1
  have x6 : ∀ wx, Below W0.heap.size W0 wx → wx.cell? ⟨w.heap.size, 6, none⟩ = some (.int .i64 r.pipe) := fun wx h => (HAT.out wx h).2.2.2.2.2.2.1
  have x7 : ∀ wx, Below W0.heap.size W0 wx → wx.cell? ⟨w.heap.size, 7, none⟩ = some (.int .i64 r.arbor) := fun wx h => (HAT.out wx h).2.2.2.2.2.2.2.1
  have x8 : ∀ wx, Below W0.heap.size W0 wx → wx.cell? ⟨w.heap.size, 8, none⟩ = some (.int .i64 r.purchase) := fun wx h => (HAT.out wx h).2.2.2.2.2.2.2.2.1
  have x9 : ∀ wx, Below W0.heap.size W0 wx → wx.cell? ⟨w.heap.size, 9, none⟩ = some (.int .i64 r.most) := fun wx h => (HAT.out wx h).2.2.2.2.2.2.2.2.2.1
  have x10 : ∀ wx, Below W0.heap.size W0 wx → wx.cell? ⟨w.heap.size, 10, none⟩ = some (.int .i64 r.brake) := fun wx h => (HAT.out wx h).2.2.2.2.2.2.2.2.2.2.1
  have x11 : ∀ wx, Below W0.heap.size W0 wx → wx.cell? ⟨w.heap.size, 11, none⟩ = some (.slice r.ia r.items.length r.ic) := fun wx h => (HAT.out wx h).2.2.2.2.2.2.2.2.2.2.2.1
  have x12 : ∀ wx, Below W0.heap.size W0 wx → wx.cell? ⟨w.heap.size, 12, none⟩ = some (.slice r.ba r.bricks.length r.bc) := fun wx h => (HAT.out wx h).2.2.2.2.2.2.2.2.2.2.2.2
  go_wp2_with (first
    | (go_at_call 24; (with_reducible refine (refisName_any r.name _).mono ?_); rintro e w1 ⟨rfl, rfl⟩; rw [H0.out])
    | (go_at_call 25; (with_reducible refine (rbetw_any r.depth 0 1048576 _).mono ?_); rintro e w1 ⟨rfl, rfl⟩; rw [H1.out])
    | (go_at_call 25; (with_reducible refine (rbetw_any r.low 0 r.high _).mono ?_); rintro e w1 ⟨rfl, rfl⟩; rw [H2.out])
    | (go_at_call 25; (with_reducible refine (rbetw_any r.high 0 1048576 _).mono ?_); rintro e w1 ⟨rfl, rfl⟩; rw [H3.out])
    | (go_at_call 25; (with_reducible refine (rbetw_any r.length 1000 1048576 _).mono ?_); rintro e w1 ⟨rfl, rfl⟩; rw [H4.out])
    | (go_at_call 25; (with_reducible refine (rbetw_any (r.lines.length : Int) 2 10 _).mono ?_); rintro e w1 ⟨rfl, rfl⟩; rw [H6.out])
    | (go_at_call 25; (with_reducible refine (rbetw_any r.pipe 0 1048576 _).mono ?_); rintro e w1 ⟨rfl, rfl⟩; rw [H7.out])
    | (go_at_call 25; (with_reducible refine (rbetw_any r.arbor 0 1048576 _).mono ?_); rintro e w1 ⟨rfl, rfl⟩; rw [H8.out])
    | (go_at_call 25; (with_reducible refine (rbetw_any r.purchase 1 2 _).mono ?_); rintro e w1 ⟨rfl, rfl⟩; rw [H9.out])
    | (go_at_call 25; (with_reducible refine (rbetw_any r.most 1 67108864 _).mono ?_); rintro e w1 ⟨rfl, rfl⟩; rw [H10.out])
    | (go_at_call 25; (with_reducible refine (rbetw_any r.brake 0 67108864 _).mono ?_); rintro e w1 ⟨rfl, rfl⟩; rw [H11.out]))
  clear h5 h5n
  go_loopw [3] (fun v wr => ∃ k : Nat, k ≤ r.lines.length ∧ v = .int .i64 k ∧ Hid (∀ j, j < k → betB (ig r.lines j) 0 r.length = true ∧ (0 < j → ig r.lines (j - 1) < ig r.lines j)) ∧ Below W0.heap.size W0 wr) (fun v _ => r.lines.length - (intOf v).toNat)
  case atStart => exact ⟨0, Nat.zero_le _, rfl, Lib.hid (fun j hj => by omega), hB1⟩
  case round =>
    obtain ⟨k, hk, rfl, HO, hB⟩ := hrel
    by_cases hlt : k < r.lines.length
    · obtain ⟨b, off, hla, hb, hc⟩ := (HS.out wr hB).lines (by omega)
      have y5 : wr.cell? ⟨w.heap.size, 5, none⟩ = some (.slice (some ⟨b, off, none⟩) r.lines.length r.lc) := by rw [← hla]; exact x5 wr hB
      have y4 := x4 wr hB
      have c0 := hc k hlt
      have HC := Lib.hid hc
      clear hla x5 x4 hc
      have HNO : Hid (¬ (betB (ig r.lines k) 0 r.length = true ∧ (0 < k → ig r.lines (k - 1) < ig r.lines k)) → RR = false) := Lib.hid fun h => HL2.out fun q => h (q k hlt)
      have HYE : Hid (betB (ig r.lines k) 0 r.length = true → (0 < k → ig r.lines (k - 1) < ig r.lines k) → ∀ j, j < k + 1 → betB (ig r.lines j) 0 r.length = true ∧ (0 < j → ig r.lines (j - 1) < ig r.lines j)) := Lib.hid fun h1 h2 j hj => by
        rcases (show j < k ∨ j = k by omega) with l | l
        · exact HO.out j l
        · subst l; exact ⟨h1, h2⟩
      have k1 : (k : Int) < r.lines.length := by omega
      obtain ⟨x, hx⟩ : ∃ x, ig r.lines k = x := ⟨_, rfl⟩
      rw [hx] at c0 HNO HYE
      clear hx
      cases hbx : betB x 0 r.length
      · have HBX := Lib.hid hbx
        have HR2 := Lib.hid (HNO.out fun h => by rw [hbx] at h; cases h.1)
        clear hbx HNO HYE
        go_wp2_with (go_quiet ((go_at_call 25; exact Calls.quiet_of_same (v := .bool false) ((rbetw_any x 0 r.length _).mono fun e w' h => ⟨h.1.trans (by rw [HBX.out]), h.2.symm⟩))))
        go_ret
        exact ⟨ret_bool HR2.out.symm, HX.out _ (below_drewN hB _)⟩
      · have HBX := Lib.hid hbx
        have HYE2 := Lib.hid (HYE.out hbx)
        clear hbx
        rcases Nat.eq_zero_or_pos k with h0 | h0
        · have HYE3 := Lib.hid (HYE2.out (fun h => absurd h (by omega)))
          have g4 : decide (0 < (k : Int)) = false := decide_eq_false (by omega)
          have g5 : decide (0 < k) = false := decide_eq_false (by omega)
          clear HNO HYE HYE2 h0
          go_wp2_with (go_quiet ((go_at_call 25; exact Calls.quiet_of_same (v := .bool true) ((rbetw_any x 0 r.length _).mono fun e w' h => ⟨h.1.trans (by rw [HBX.out]), h.2.symm⟩))))
          go_roundw
          case rel => exact ⟨k + 1, by omega, by go_num, HYE3, below_drewN hB _⟩
          case measure => simp [intOf]; omega
        · obtain ⟨q, hq⟩ : ∃ q, k - 1 = q := ⟨_, rfl⟩
          have c1 := HC.out q (by omega)
          rw [hq] at HNO HYE2
          have z5 : (k : Int) - 1 = (q : Int) := by omega
          have z6 : (q : Int) < r.lines.length := by omega
          have z7 : q < r.lines.length := by omega
          have z8 : IntKind.i64.wrap ((k : Int) - 1) = (q : Int) := by rw [z5]; exact IntWalk.i64_in _ (by omega)
          have g4 : decide (0 < (k : Int)) = true := decide_eq_true (by omega)
          have g5 : decide (0 < k) = true := decide_eq_true h0
          generalize ig r.lines q = y at *
          clear hq
          by_cases hxy : y < x
          · have g6 : decide (x ≤ y) = false := decide_eq_false (by omega)
            have HYE3 := Lib.hid (HYE2.out fun _ => hxy)
            clear HNO HYE HYE2 hxy
            go_wp2_with (go_quiet ((go_at_call 25; exact Calls.quiet_of_same (v := .bool true) ((rbetw_any x 0 r.length _).mono fun e w' h => ⟨h.1.trans (by rw [HBX.out]), h.2.symm⟩))))
            go_roundw
            case rel => exact ⟨k + 1, by omega, by go_num, HYE3, below_drewN hB _⟩
            case measure => simp [intOf]; omega
          · have g6 : decide (x ≤ y) = true := decide_eq_true (by omega)
            have HR2 := Lib.hid (HNO.out fun h => hxy (h.2 h0))
            clear HNO HYE HYE2 hxy
            go_wp2_with (go_quiet ((go_at_call 25; exact Calls.quiet_of_same (v := .bool true) ((rbetw_any x 0 r.length _).mono fun e w' h => ⟨h.1.trans (by rw [HBX.out]), h.2.symm⟩))))
            go_ret
            exact ⟨ret_bool HR2.out.symm, HX.out _ (below_drewN hB _)⟩
    · obtain rfl : k = r.lines.length := by omega
      have HR3 := Lib.hid (HL3.out HO.out)
      cases hi : itemsB r.items r.length
      · have HI2 := Lib.hid hi
        have HR2 : Hid (RR = false) := Lib.hid (by rw [HR3.out, hi]; rfl)
        clear hi HR3
        go_wp2_with (go_at_call 26; (with_reducible refine (ritems_any r _ HLEN.out (HS.out _ hB)).mono ?_); rintro e w4 ⟨rfl, hb⟩; rw [HI2.out]; have hB4 := hB.trans (hb.mono hB.size); clear hb)
        go_ret
        exact ⟨ret_bool HR2.out.symm, HX.out _ hB4⟩
      · have HI2 := Lib.hid hi
        have HR2 : Hid (RR = brickB r.bricks) := Lib.hid (by rw [HR3.out, hi]; rfl)
        clear hi HR3
        go_wp2_with (first
          | (go_at_call 26; (with_reducible refine (ritems_any r _ HLEN.out (HS.out _ hB)).mono ?_); rintro e w4 ⟨rfl, hb⟩; rw [HI2.out]; have hB4 := hB.trans (hb.mono hB.size); clear hb)
          | (go_at_call 27; (with_reducible refine (refbricks_any _ r.bricks _ _ (HS.out _ hB4).bricks).mono ?_); rintro e w5 ⟨rfl, hb⟩; have hB5 := hB4.trans (hb.mono hB4.size); clear hb))
        go_ret
        exact ⟨ret_bool HR2.out.symm, HX.out _ hB5⟩
end Go.Proofs.YtbniclapaigkkaaGreat
