/-
  THE WALK of the law BricksFill.
-/
import Derived.Test.YtbniclapaigkkaaGreatLoad
import Derived.Test.YtbniclapaigkkaaGreatSome
namespace Go.Proofs.YtbniclapaigkkaaGreat
open Go.RowKit Go.Shelf
attribute [local go_sem] Oper.semAt_some
theorem balance_load {r : SetR} {c : List Int} {la : Option Addr} {lc : Nat} {ia : Option Addr} {ic : Nat} {ba : Option Addr} {bc : Nat} {w : World} (hv : setB r = true) (hc : IsC r.bricks c) (hs : SetIn w (loadR r c la lc ia ic ba bc)) :
    Calls Tryz.prog 12 #[.agg #[.string r.name, .int .i64 r.depth, .int .i64 r.low, .int .i64 r.high, .int .i64 r.length, .slice la r.lines.length lc, .int .i64 r.pipe, .int .i64 r.arbor, .int .i64 r.purchase, .int .i64 r.most, .int .i64 r.brake, .slice ia r.items.length ic, .slice ba r.bricks.length bc]] w fun e w' => e = .returned (.tuple #[.int .i64 (neededS r - sumC r.bricks c), .int .i64 0]) ∧ Below w.heap.size w w' := by
  have h := balance_any (loadR r c la lc ia ic ba bc) w hs
  have e1 : balanceB (loadR r c la lc ia ic ba bc) = neededS r - sumC r.bricks c := by
    unfold balanceB
    rw [if_pos (load_B hv hc), load_bal (isC_len hc)]
  have e2 : weightEr (loadR r c la lc ia ic ba bc) = 0 := by unfold weightEr; rw [if_pos (load_B hv hc)]
  rw [e1, e2, show (loadR r c la lc ia ic ba bc).bricks.length = r.bricks.length from withC_len _ _] at h
  exact h
set_option maxRecDepth 100000 in
set_option maxHeartbeats 64000000 in
theorem fill_law (r : SetR) (ac : Option Addr) (c : List Int) (cc : Nat) (w : World) (hs : SetIn0 w r) (hN : Nums w.heap.size w ac c) :
    Calls Tryz.prog 3 #[.agg #[.string r.name, .int .i64 r.depth, .int .i64 r.low, .int .i64 r.high, .int .i64 r.length, .slice r.la r.lines.length r.lc, .int .i64 r.pipe, .int .i64 r.arbor, .int .i64 r.purchase, .int .i64 r.most, .int .i64 r.brake, .slice r.ia r.items.length r.ic, .slice r.ba r.bricks.length r.bc], .slice ac c.length cc] w fun e w' => e = .returned (.bool true) ∧ Below w.heap.size w w' := by
  have hb0 := below_new w (.cells #[.string r.name, .int .i64 r.depth, .int .i64 r.low, .int .i64 r.high, .int .i64 r.length, .slice r.la r.lines.length r.lc, .int .i64 r.pipe, .int .i64 r.arbor, .int .i64 r.purchase, .int .i64 r.most, .int .i64 r.brake, .slice r.ia r.items.length r.ic, .slice r.ba r.bricks.length r.bc] 26)
  have HX : Hid (∀ wx, Below (w.alloc (.cells #[.string r.name, .int .i64 r.depth, .int .i64 r.low, .int .i64 r.high, .int .i64 r.length, .slice r.la r.lines.length r.lc, .int .i64 r.pipe, .int .i64 r.arbor, .int .i64 r.purchase, .int .i64 r.most, .int .i64 r.brake, .slice r.ia r.items.length r.ic, .slice r.ba r.bricks.length r.bc] 26)).heap.size (w.alloc (.cells #[.string r.name, .int .i64 r.depth, .int .i64 r.low, .int .i64 r.high, .int .i64 r.length, .slice r.la r.lines.length r.lc, .int .i64 r.pipe, .int .i64 r.arbor, .int .i64 r.purchase, .int .i64 r.most, .int .i64 r.brake, .slice r.ia r.items.length r.ic, .slice r.ba r.bricks.length r.bc] 26)) wx → Below w.heap.size w wx) := Lib.hid fun wx h => mono_in _ h
  have HS0 : Hid (∀ wx, Below (w.alloc (.cells #[.string r.name, .int .i64 r.depth, .int .i64 r.low, .int .i64 r.high, .int .i64 r.length, .slice r.la r.lines.length r.lc, .int .i64 r.pipe, .int .i64 r.arbor, .int .i64 r.purchase, .int .i64 r.most, .int .i64 r.brake, .slice r.ia r.items.length r.ic, .slice r.ba r.bricks.length r.bc] 26)).heap.size (w.alloc (.cells #[.string r.name, .int .i64 r.depth, .int .i64 r.low, .int .i64 r.high, .int .i64 r.length, .slice r.la r.lines.length r.lc, .int .i64 r.pipe, .int .i64 r.arbor, .int .i64 r.purchase, .int .i64 r.most, .int .i64 r.brake, .slice r.ia r.items.length r.ic, .slice r.ba r.bricks.length r.bc] 26)) wx → SetIn0 wx r) := Lib.hid fun wx h => (hs.grow hb0).grow h
  have HAT : Hid (∀ wx, Below (w.alloc (.cells #[.string r.name, .int .i64 r.depth, .int .i64 r.low, .int .i64 r.high, .int .i64 r.length, .slice r.la r.lines.length r.lc, .int .i64 r.pipe, .int .i64 r.arbor, .int .i64 r.purchase, .int .i64 r.most, .int .i64 r.brake, .slice r.ia r.items.length r.ic, .slice r.ba r.bricks.length r.bc] 26)).heap.size (w.alloc (.cells #[.string r.name, .int .i64 r.depth, .int .i64 r.low, .int .i64 r.high, .int .i64 r.length, .slice r.la r.lines.length r.lc, .int .i64 r.pipe, .int .i64 r.arbor, .int .i64 r.purchase, .int .i64 r.most, .int .i64 r.brake, .slice r.ia r.items.length r.ic, .slice r.ba r.bricks.length r.bc] 26)) wx → SetAt wx w.heap.size r) := Lib.hid fun wx h => (SetAt.new w r 26).below h (by simp)
  have HNC : Hid (∀ wx, Below (w.alloc (.cells #[.string r.name, .int .i64 r.depth, .int .i64 r.low, .int .i64 r.high, .int .i64 r.length, .slice r.la r.lines.length r.lc, .int .i64 r.pipe, .int .i64 r.arbor, .int .i64 r.purchase, .int .i64 r.most, .int .i64 r.brake, .slice r.ia r.items.length r.ic, .slice r.ba r.bricks.length r.bc] 26)).heap.size (w.alloc (.cells #[.string r.name, .int .i64 r.depth, .int .i64 r.low, .int .i64 r.high, .int .i64 r.length, .slice r.la r.lines.length r.lc, .int .i64 r.pipe, .int .i64 r.arbor, .int .i64 r.purchase, .int .i64 r.most, .int .i64 r.brake, .slice r.ia r.items.length r.ic, .slice r.ba r.bricks.length r.bc] 26)) wx → Nums wx.heap.size wx ac c) := Lib.hid fun wx h => (hN.grow hb0).grow h
  clear hb0 hs hN
  cases hsm : smallB r 8
  · have HSM := Lib.hid hsm
    clear hsm
    go_enter Tryz.func3, Tryz.ntmps3
    go_wp2_with fail
    generalize (w.alloc (.cells #[.string r.name, .int .i64 r.depth, .int .i64 r.low, .int .i64 r.high, .int .i64 r.length, .slice r.la r.lines.length r.lc, .int .i64 r.pipe, .int .i64 r.arbor, .int .i64 r.purchase, .int .i64 r.most, .int .i64 r.brake, .slice r.ia r.items.length r.ic, .slice r.ba r.bricks.length r.bc] 26)) = W0 at *
    have hB := Below.refl W0.heap.size W0
    have x0 : ∀ wx, Below W0.heap.size W0 wx → wx.cell? ⟨w.heap.size, 0, none⟩ = some (.string r.name) := fun wx h => (HAT.out wx h).1
    have x1 : ∀ wx, Below W0.heap.size W0 wx → wx.cell? ⟨w.heap.size, 1, none⟩ = some (.int .i64 r.depth) := fun wx h => (HAT.out wx h).2.1
    have x2 : ∀ wx, Below W0.heap.size W0 wx → wx.cell? ⟨w.heap.size, 2, none⟩ = some (.int .i64 r.low) := fun wx h => (HAT.out wx h).2.2.1
    have x3 : ∀ wx, Below W0.heap.size W0 wx → wx.cell? ⟨w.heap.size, 3, none⟩ = some (.int .i64 r.high) := fun wx h => (HAT.out wx h).2.2.2.1
    have x4 : ∀ wx, Below W0.heap.size W0 wx → wx.cell? ⟨w.heap.size, 4, none⟩ = some (.int .i64 r.length) := fun wx h => (HAT.out wx h).2.2.2.2.1
    have x5 : ∀ wx, Below W0.heap.size W0 wx → wx.cell? ⟨w.heap.size, 5, none⟩ = some (.slice r.la r.lines.length r.lc) := fun wx h => (HAT.out wx h).2.2.2.2.2.1
    have x6 : ∀ wx, Below W0.heap.size W0 wx → wx.cell? ⟨w.heap.size, 6, none⟩ = some (.int .i64 r.pipe) := fun wx h => (HAT.out wx h).2.2.2.2.2.2.1
    have x7 : ∀ wx, Below W0.heap.size W0 wx → wx.cell? ⟨w.heap.size, 7, none⟩ = some (.int .i64 r.arbor) := fun wx h => (HAT.out wx h).2.2.2.2.2.2.2.1
    have x8 : ∀ wx, Below W0.heap.size W0 wx → wx.cell? ⟨w.heap.size, 8, none⟩ = some (.int .i64 r.purchase) := fun wx h => (HAT.out wx h).2.2.2.2.2.2.2.2.1
    have x9 : ∀ wx, Below W0.heap.size W0 wx → wx.cell? ⟨w.heap.size, 9, none⟩ = some (.int .i64 r.most) := fun wx h => (HAT.out wx h).2.2.2.2.2.2.2.2.2.1
    have x10 : ∀ wx, Below W0.heap.size W0 wx → wx.cell? ⟨w.heap.size, 10, none⟩ = some (.int .i64 r.brake) := fun wx h => (HAT.out wx h).2.2.2.2.2.2.2.2.2.2.1
    have x11 : ∀ wx, Below W0.heap.size W0 wx → wx.cell? ⟨w.heap.size, 11, none⟩ = some (.slice r.ia r.items.length r.ic) := fun wx h => (HAT.out wx h).2.2.2.2.2.2.2.2.2.2.2.1
    have x12 : ∀ wx, Below W0.heap.size W0 wx → wx.cell? ⟨w.heap.size, 12, none⟩ = some (.slice r.ba r.bricks.length r.bc) := fun wx h => (HAT.out wx h).2.2.2.2.2.2.2.2.2.2.2.2
    go_wp2_with (first
      | (go_at_call 4; (with_reducible refine (awake_any _).mono ?_); rintro e wx ⟨rfl, hb⟩; have hBn := hB.trans (hb.mono hB.size); clear hB hb; have hB := hBn; clear hBn)
      | (go_at_call 5; (with_reducible refine (small_any r 8 _ (HS0.out _ hB)).mono ?_); rintro e wx ⟨rfl, hb⟩; rw [HSM.out]; have hBn := hB.trans (hb.mono hB.size); clear hB hb; have hB := hBn; clear hBn))
    go_ret
    exact ⟨rfl, HX.out _ hB⟩
  have HSM := Lib.hid hsm
  have HS : Hid (∀ wx, Below (w.alloc (.cells #[.string r.name, .int .i64 r.depth, .int .i64 r.low, .int .i64 r.high, .int .i64 r.length, .slice r.la r.lines.length r.lc, .int .i64 r.pipe, .int .i64 r.arbor, .int .i64 r.purchase, .int .i64 r.most, .int .i64 r.brake, .slice r.ia r.items.length r.ic, .slice r.ba r.bricks.length r.bc] 26)).heap.size (w.alloc (.cells #[.string r.name, .int .i64 r.depth, .int .i64 r.low, .int .i64 r.high, .int .i64 r.length, .slice r.la r.lines.length r.lc, .int .i64 r.pipe, .int .i64 r.arbor, .int .i64 r.purchase, .int .i64 r.most, .int .i64 r.brake, .slice r.ia r.items.length r.ic, .slice r.ba r.bricks.length r.bc] 26)) wx → SetIn wx r) := Lib.hid fun wx h => small_in (HS0.out wx h) hsm
  clear hsm
  cases hf : fewB r.bricks
  · have HF := Lib.hid hf
    clear hf
    go_enter Tryz.func3, Tryz.ntmps3
    go_wp2_with fail
    generalize (w.alloc (.cells #[.string r.name, .int .i64 r.depth, .int .i64 r.low, .int .i64 r.high, .int .i64 r.length, .slice r.la r.lines.length r.lc, .int .i64 r.pipe, .int .i64 r.arbor, .int .i64 r.purchase, .int .i64 r.most, .int .i64 r.brake, .slice r.ia r.items.length r.ic, .slice r.ba r.bricks.length r.bc] 26)) = W0 at *
    have hB := Below.refl W0.heap.size W0
    have x0 : ∀ wx, Below W0.heap.size W0 wx → wx.cell? ⟨w.heap.size, 0, none⟩ = some (.string r.name) := fun wx h => (HAT.out wx h).1
    have x1 : ∀ wx, Below W0.heap.size W0 wx → wx.cell? ⟨w.heap.size, 1, none⟩ = some (.int .i64 r.depth) := fun wx h => (HAT.out wx h).2.1
    have x2 : ∀ wx, Below W0.heap.size W0 wx → wx.cell? ⟨w.heap.size, 2, none⟩ = some (.int .i64 r.low) := fun wx h => (HAT.out wx h).2.2.1
    have x3 : ∀ wx, Below W0.heap.size W0 wx → wx.cell? ⟨w.heap.size, 3, none⟩ = some (.int .i64 r.high) := fun wx h => (HAT.out wx h).2.2.2.1
    have x4 : ∀ wx, Below W0.heap.size W0 wx → wx.cell? ⟨w.heap.size, 4, none⟩ = some (.int .i64 r.length) := fun wx h => (HAT.out wx h).2.2.2.2.1
    have x5 : ∀ wx, Below W0.heap.size W0 wx → wx.cell? ⟨w.heap.size, 5, none⟩ = some (.slice r.la r.lines.length r.lc) := fun wx h => (HAT.out wx h).2.2.2.2.2.1
    have x6 : ∀ wx, Below W0.heap.size W0 wx → wx.cell? ⟨w.heap.size, 6, none⟩ = some (.int .i64 r.pipe) := fun wx h => (HAT.out wx h).2.2.2.2.2.2.1
    have x7 : ∀ wx, Below W0.heap.size W0 wx → wx.cell? ⟨w.heap.size, 7, none⟩ = some (.int .i64 r.arbor) := fun wx h => (HAT.out wx h).2.2.2.2.2.2.2.1
    have x8 : ∀ wx, Below W0.heap.size W0 wx → wx.cell? ⟨w.heap.size, 8, none⟩ = some (.int .i64 r.purchase) := fun wx h => (HAT.out wx h).2.2.2.2.2.2.2.2.1
    have x9 : ∀ wx, Below W0.heap.size W0 wx → wx.cell? ⟨w.heap.size, 9, none⟩ = some (.int .i64 r.most) := fun wx h => (HAT.out wx h).2.2.2.2.2.2.2.2.2.1
    have x10 : ∀ wx, Below W0.heap.size W0 wx → wx.cell? ⟨w.heap.size, 10, none⟩ = some (.int .i64 r.brake) := fun wx h => (HAT.out wx h).2.2.2.2.2.2.2.2.2.2.1
    have x11 : ∀ wx, Below W0.heap.size W0 wx → wx.cell? ⟨w.heap.size, 11, none⟩ = some (.slice r.ia r.items.length r.ic) := fun wx h => (HAT.out wx h).2.2.2.2.2.2.2.2.2.2.2.1
    have x12 : ∀ wx, Below W0.heap.size W0 wx → wx.cell? ⟨w.heap.size, 12, none⟩ = some (.slice r.ba r.bricks.length r.bc) := fun wx h => (HAT.out wx h).2.2.2.2.2.2.2.2.2.2.2.2
    go_wp2_with (first
      | (go_at_call 4; (with_reducible refine (awake_any _).mono ?_); rintro e wx ⟨rfl, hb⟩; have hBn := hB.trans (hb.mono hB.size); clear hB hb; have hB := hBn; clear hBn)
      | (go_at_call 5; (with_reducible refine (small_any r 8 _ (HS0.out _ hB)).mono ?_); rintro e wx ⟨rfl, hb⟩; rw [HSM.out]; have hBn := hB.trans (hb.mono hB.size); clear hB hb; have hB := hBn; clear hBn)
      | (go_at_call 6; (with_reducible refine (few_any r.ba r.bricks r.bc _ (HS.out _ hB).bricks).mono ?_); rintro e wx ⟨rfl, hb⟩; rw [HF.out]; have hBn := hB.trans (hb.mono hB.size); clear hB hb; have hB := hBn; clear hBn))
    go_ret
    exact ⟨rfl, HX.out _ hB⟩
  have HF := Lib.hid hf
  obtain ⟨_, h7⟩ := few_ok hf
  clear hf
  by_cases h20 : 20 < c.length
  · have g1 : decide ((20 : Int) < c.length) = true := decide_eq_true (by omega)
    have g2 : decide (20 < c.length) = true := decide_eq_true h20
    clear h20 h7
    go_enter Tryz.func3, Tryz.ntmps3
    go_wp2_with fail
    generalize (w.alloc (.cells #[.string r.name, .int .i64 r.depth, .int .i64 r.low, .int .i64 r.high, .int .i64 r.length, .slice r.la r.lines.length r.lc, .int .i64 r.pipe, .int .i64 r.arbor, .int .i64 r.purchase, .int .i64 r.most, .int .i64 r.brake, .slice r.ia r.items.length r.ic, .slice r.ba r.bricks.length r.bc] 26)) = W0 at *
    have hB := Below.refl W0.heap.size W0
    have x0 : ∀ wx, Below W0.heap.size W0 wx → wx.cell? ⟨w.heap.size, 0, none⟩ = some (.string r.name) := fun wx h => (HAT.out wx h).1
    have x1 : ∀ wx, Below W0.heap.size W0 wx → wx.cell? ⟨w.heap.size, 1, none⟩ = some (.int .i64 r.depth) := fun wx h => (HAT.out wx h).2.1
    have x2 : ∀ wx, Below W0.heap.size W0 wx → wx.cell? ⟨w.heap.size, 2, none⟩ = some (.int .i64 r.low) := fun wx h => (HAT.out wx h).2.2.1
    have x3 : ∀ wx, Below W0.heap.size W0 wx → wx.cell? ⟨w.heap.size, 3, none⟩ = some (.int .i64 r.high) := fun wx h => (HAT.out wx h).2.2.2.1
    have x4 : ∀ wx, Below W0.heap.size W0 wx → wx.cell? ⟨w.heap.size, 4, none⟩ = some (.int .i64 r.length) := fun wx h => (HAT.out wx h).2.2.2.2.1
    have x5 : ∀ wx, Below W0.heap.size W0 wx → wx.cell? ⟨w.heap.size, 5, none⟩ = some (.slice r.la r.lines.length r.lc) := fun wx h => (HAT.out wx h).2.2.2.2.2.1
    have x6 : ∀ wx, Below W0.heap.size W0 wx → wx.cell? ⟨w.heap.size, 6, none⟩ = some (.int .i64 r.pipe) := fun wx h => (HAT.out wx h).2.2.2.2.2.2.1
    have x7 : ∀ wx, Below W0.heap.size W0 wx → wx.cell? ⟨w.heap.size, 7, none⟩ = some (.int .i64 r.arbor) := fun wx h => (HAT.out wx h).2.2.2.2.2.2.2.1
    have x8 : ∀ wx, Below W0.heap.size W0 wx → wx.cell? ⟨w.heap.size, 8, none⟩ = some (.int .i64 r.purchase) := fun wx h => (HAT.out wx h).2.2.2.2.2.2.2.2.1
    have x9 : ∀ wx, Below W0.heap.size W0 wx → wx.cell? ⟨w.heap.size, 9, none⟩ = some (.int .i64 r.most) := fun wx h => (HAT.out wx h).2.2.2.2.2.2.2.2.2.1
    have x10 : ∀ wx, Below W0.heap.size W0 wx → wx.cell? ⟨w.heap.size, 10, none⟩ = some (.int .i64 r.brake) := fun wx h => (HAT.out wx h).2.2.2.2.2.2.2.2.2.2.1
    have x11 : ∀ wx, Below W0.heap.size W0 wx → wx.cell? ⟨w.heap.size, 11, none⟩ = some (.slice r.ia r.items.length r.ic) := fun wx h => (HAT.out wx h).2.2.2.2.2.2.2.2.2.2.2.1
    have x12 : ∀ wx, Below W0.heap.size W0 wx → wx.cell? ⟨w.heap.size, 12, none⟩ = some (.slice r.ba r.bricks.length r.bc) := fun wx h => (HAT.out wx h).2.2.2.2.2.2.2.2.2.2.2.2
    go_wp2_with (first
      | (go_at_call 4; (with_reducible refine (awake_any _).mono ?_); rintro e wx ⟨rfl, hb⟩; have hBn := hB.trans (hb.mono hB.size); clear hB hb; have hB := hBn; clear hBn)
      | (go_at_call 5; (with_reducible refine (small_any r 8 _ (HS0.out _ hB)).mono ?_); rintro e wx ⟨rfl, hb⟩; rw [HSM.out]; have hBn := hB.trans (hb.mono hB.size); clear hB hb; have hB := hBn; clear hBn)
      | (go_at_call 6; (with_reducible refine (few_any r.ba r.bricks r.bc _ (HS.out _ hB).bricks).mono ?_); rintro e wx ⟨rfl, hb⟩; rw [HF.out]; have hBn := hB.trans (hb.mono hB.size); clear hB hb; have hB := hBn; clear hBn))
    go_ret
    exact ⟨rfl, HX.out _ hB⟩
  have g1 : decide ((20 : Int) < c.length) = false := decide_eq_false (by omega)
  have g2 : decide (20 < c.length) = false := decide_eq_false h20
  clear h20
  cases hv : setB r
  · have HV := Lib.hid hv
    have HFC : Hid (fillC r = none) := Lib.hid (by unfold fillC; rw [hv]; rfl)
    have HFE : Hid (fillE r = 1) := Lib.hid (by unfold fillE; rw [hv]; rfl)
    have HS1 : Hid (listS none = ([] : List Int)) := Lib.hid rfl
    clear hv h7
    go_enter Tryz.func3, Tryz.ntmps3
    go_wp2_with fail
    generalize (w.alloc (.cells #[.string r.name, .int .i64 r.depth, .int .i64 r.low, .int .i64 r.high, .int .i64 r.length, .slice r.la r.lines.length r.lc, .int .i64 r.pipe, .int .i64 r.arbor, .int .i64 r.purchase, .int .i64 r.most, .int .i64 r.brake, .slice r.ia r.items.length r.ic, .slice r.ba r.bricks.length r.bc] 26)) = W0 at *
    have hB := Below.refl W0.heap.size W0
    have x0 : ∀ wx, Below W0.heap.size W0 wx → wx.cell? ⟨w.heap.size, 0, none⟩ = some (.string r.name) := fun wx h => (HAT.out wx h).1
    have x1 : ∀ wx, Below W0.heap.size W0 wx → wx.cell? ⟨w.heap.size, 1, none⟩ = some (.int .i64 r.depth) := fun wx h => (HAT.out wx h).2.1
    have x2 : ∀ wx, Below W0.heap.size W0 wx → wx.cell? ⟨w.heap.size, 2, none⟩ = some (.int .i64 r.low) := fun wx h => (HAT.out wx h).2.2.1
    have x3 : ∀ wx, Below W0.heap.size W0 wx → wx.cell? ⟨w.heap.size, 3, none⟩ = some (.int .i64 r.high) := fun wx h => (HAT.out wx h).2.2.2.1
    have x4 : ∀ wx, Below W0.heap.size W0 wx → wx.cell? ⟨w.heap.size, 4, none⟩ = some (.int .i64 r.length) := fun wx h => (HAT.out wx h).2.2.2.2.1
    have x5 : ∀ wx, Below W0.heap.size W0 wx → wx.cell? ⟨w.heap.size, 5, none⟩ = some (.slice r.la r.lines.length r.lc) := fun wx h => (HAT.out wx h).2.2.2.2.2.1
    have x6 : ∀ wx, Below W0.heap.size W0 wx → wx.cell? ⟨w.heap.size, 6, none⟩ = some (.int .i64 r.pipe) := fun wx h => (HAT.out wx h).2.2.2.2.2.2.1
    have x7 : ∀ wx, Below W0.heap.size W0 wx → wx.cell? ⟨w.heap.size, 7, none⟩ = some (.int .i64 r.arbor) := fun wx h => (HAT.out wx h).2.2.2.2.2.2.2.1
    have x8 : ∀ wx, Below W0.heap.size W0 wx → wx.cell? ⟨w.heap.size, 8, none⟩ = some (.int .i64 r.purchase) := fun wx h => (HAT.out wx h).2.2.2.2.2.2.2.2.1
    have x9 : ∀ wx, Below W0.heap.size W0 wx → wx.cell? ⟨w.heap.size, 9, none⟩ = some (.int .i64 r.most) := fun wx h => (HAT.out wx h).2.2.2.2.2.2.2.2.2.1
    have x10 : ∀ wx, Below W0.heap.size W0 wx → wx.cell? ⟨w.heap.size, 10, none⟩ = some (.int .i64 r.brake) := fun wx h => (HAT.out wx h).2.2.2.2.2.2.2.2.2.2.1
    have x11 : ∀ wx, Below W0.heap.size W0 wx → wx.cell? ⟨w.heap.size, 11, none⟩ = some (.slice r.ia r.items.length r.ic) := fun wx h => (HAT.out wx h).2.2.2.2.2.2.2.2.2.2.2.1
    have x12 : ∀ wx, Below W0.heap.size W0 wx → wx.cell? ⟨w.heap.size, 12, none⟩ = some (.slice r.ba r.bricks.length r.bc) := fun wx h => (HAT.out wx h).2.2.2.2.2.2.2.2.2.2.2.2
    go_wp2_with (first
      | (go_at_call 4; (with_reducible refine (awake_any _).mono ?_); rintro e wx ⟨rfl, hb⟩; have hBn := hB.trans (hb.mono hB.size); clear hB hb; have hB := hBn; clear hBn)
      | (go_at_call 5; (with_reducible refine (small_any r 8 _ (HS0.out _ hB)).mono ?_); rintro e wx ⟨rfl, hb⟩; rw [HSM.out]; have hBn := hB.trans (hb.mono hB.size); clear hB hb; have hB := hBn; clear hBn)
      | (go_at_call 6; (with_reducible refine (few_any r.ba r.bricks r.bc _ (HS.out _ hB).bricks).mono ?_); rintro e wx ⟨rfl, hb⟩; rw [HF.out]; have hBn := hB.trans (hb.mono hB.size); clear hB hb; have hB := hBn; clear hBn)
      | (go_at_call 7; (with_reducible refine (fill_any r _ (HS.out _ hB)).mono ?_); rintro e wx ⟨hx, hb⟩; obtain ⟨v, rfl, hv⟩ := hx.out; rw [HFC.out] at hv; rw [HFE.out]; obtain ⟨fa, fc, rfl, _, _, _, hS⟩ := RowV.nums hv; rw [HS1.out] at hS ⊢; have HA1 := Lib.hid hS; have hBn := hB.trans (hb.mono hB.size); clear hB hb hx hv hS; have hB := hBn; clear hBn)
      | (go_at_call 8; (with_reducible refine (rvalid_any r _ (HS.out _ hB)).mono ?_); rintro e wx ⟨rfl, hb⟩; rw [HV.out]; have HA1 := Lib.hid (HA1.out.grow hb); have hBn := hB.trans (hb.mono hB.size); clear hB hb; have hB := hBn; clear hBn))
    go_ret
    exact ⟨rfl, HX.out _ hB⟩
  have HV := Lib.hid hv
  have hk := setB_iff.1 hv
  have HK := Lib.hid hk
  have hb := hk.bricks
  obtain ⟨hl8, _, _, hok⟩ := brick_ok hb
  have H7 := Lib.hid (h7 hb)
  have hnb := needed_bd hk
  have hr : -1099511627776 ≤ neededS r ∧ neededS r ≤ 1099511627776 := by omega
  obtain ⟨q1, q2⟩ := near_is hb hok hr
  have HFE : Hid (fillE r = 0) := Lib.hid (by unfold fillE; rw [hv, if_pos rfl, q2])
  have hfc : fillC r = firstP (nearP (neededS r) r.bricks) (nearP (neededS r) r.bricks) r.bricks := by unfold fillC; rw [hv, if_pos rfl, q1]
  have hbest := first_best (nearP (neededS r) r.bricks) (nearP (neededS r) r.bricks) r.bricks
  have hsome := first_some.2 ⟨_, (nearP_spec (w := neededS r) hok).1, Int.le_refl _, Int.le_refl _⟩
  cases hq : firstP (nearP (neededS r) r.bricks) (nearP (neededS r) r.bricks) r.bricks with
  | none => rw [hq] at hsome; cases hsome
  | some p =>
    obtain ⟨S1, m⟩ := p
    rw [hq] at hbest hfc
    obtain ⟨hi1, hw1, rfl, _⟩ := hbest
    have hsx : sumC r.bricks S1 = nearP (neededS r) r.bricks := by
      unfold winB at hw1
      simp only [Bool.and_eq_true, decide_eq_true_eq] at hw1
      omega
    have HFC := Lib.hid hfc
    have HS1 : Hid (listS (some (S1, numC S1)) = S1) := Lib.hid rfl
    have HL1 : Hid (listS (firstP (nearP (neededS r) r.bricks) (nearP (neededS r) r.bricks) r.bricks) = S1) := Lib.hid (by rw [hq]; rfl)
    have HI1 := Lib.hid hi1
    have hl1 : S1.length ≤ 8 := by rw [isC_len hi1]; exact hl8
    obtain ⟨x, hx⟩ : ∃ x, neededS r - sumC r.bricks S1 = x := ⟨_, rfl⟩
    have HBX1 := Lib.hid hx
    have hrb := rest_bd hok
    have hcb := isC_bd hok hi1
    have hxb : -1000000000000 ≤ x ∧ x ≤ 1000000000000 := by omega
    obtain ⟨wn, hwn⟩ : ∃ n, weightN r.bricks c = n := ⟨_, rfl⟩
    obtain ⟨we, hwe⟩ : ∃ n, weightE r.bricks c = n := ⟨_, rfl⟩
    have HWN := Lib.hid hwn
    have HWE := Lib.hid hwe
    by_cases hi : IsC r.bricks c
    · have HI2 := Lib.hid hi
      obtain rfl : we = 0 := by rw [← hwe]; unfold weightE; rw [if_pos hb, if_pos (isC_len hi), if_pos hi]
      obtain ⟨y, hy⟩ : ∃ y, neededS r - sumC r.bricks c = y := ⟨_, rfl⟩
      have HBX2 := Lib.hid hy
      have hcb2 := isC_bd hok hi
      have hyb : -1000000000000 ≤ y ∧ y ≤ 1000000000000 := by omega
      have hnn := (nearP_spec (w := neededS r) hok).2 (sumC r.bricks c) ⟨c, hi, rfl⟩
      have hxy : max x (-x) ≤ max y (-y) := by
        rw [← hsx] at hnn
        unfold nearer farN at hnn
        split at hnn <;> split at hnn <;> omega
      have s1 : IntKind.i64.wrap (-x) = -x := IntWalk.i64_in _ (by omega)
      have s2 : IntKind.i64.wrap (-y) = -y := IntWalk.i64_in _ (by omega)
      have g3 : decide (max x (-x) ≤ max y (-y)) = true := decide_eq_true hxy
      clear hk hb hok h7 hnb hr q1 q2 hfc hsome hq hw1 hi1 hsx hx hrb hcb hwn hwe hi hy hcb2 hnn hv hxy
      go_enter Tryz.func3, Tryz.ntmps3
      go_wp2_with fail
      generalize (w.alloc (.cells #[.string r.name, .int .i64 r.depth, .int .i64 r.low, .int .i64 r.high, .int .i64 r.length, .slice r.la r.lines.length r.lc, .int .i64 r.pipe, .int .i64 r.arbor, .int .i64 r.purchase, .int .i64 r.most, .int .i64 r.brake, .slice r.ia r.items.length r.ic, .slice r.ba r.bricks.length r.bc] 26)) = W0 at *
      have hB := Below.refl W0.heap.size W0
      have x0 : ∀ wx, Below W0.heap.size W0 wx → wx.cell? ⟨w.heap.size, 0, none⟩ = some (.string r.name) := fun wx h => (HAT.out wx h).1
      have x1 : ∀ wx, Below W0.heap.size W0 wx → wx.cell? ⟨w.heap.size, 1, none⟩ = some (.int .i64 r.depth) := fun wx h => (HAT.out wx h).2.1
      have x2 : ∀ wx, Below W0.heap.size W0 wx → wx.cell? ⟨w.heap.size, 2, none⟩ = some (.int .i64 r.low) := fun wx h => (HAT.out wx h).2.2.1
      have x3 : ∀ wx, Below W0.heap.size W0 wx → wx.cell? ⟨w.heap.size, 3, none⟩ = some (.int .i64 r.high) := fun wx h => (HAT.out wx h).2.2.2.1
      have x4 : ∀ wx, Below W0.heap.size W0 wx → wx.cell? ⟨w.heap.size, 4, none⟩ = some (.int .i64 r.length) := fun wx h => (HAT.out wx h).2.2.2.2.1
      have x5 : ∀ wx, Below W0.heap.size W0 wx → wx.cell? ⟨w.heap.size, 5, none⟩ = some (.slice r.la r.lines.length r.lc) := fun wx h => (HAT.out wx h).2.2.2.2.2.1
      have x6 : ∀ wx, Below W0.heap.size W0 wx → wx.cell? ⟨w.heap.size, 6, none⟩ = some (.int .i64 r.pipe) := fun wx h => (HAT.out wx h).2.2.2.2.2.2.1
      have x7 : ∀ wx, Below W0.heap.size W0 wx → wx.cell? ⟨w.heap.size, 7, none⟩ = some (.int .i64 r.arbor) := fun wx h => (HAT.out wx h).2.2.2.2.2.2.2.1
      have x8 : ∀ wx, Below W0.heap.size W0 wx → wx.cell? ⟨w.heap.size, 8, none⟩ = some (.int .i64 r.purchase) := fun wx h => (HAT.out wx h).2.2.2.2.2.2.2.2.1
      have x9 : ∀ wx, Below W0.heap.size W0 wx → wx.cell? ⟨w.heap.size, 9, none⟩ = some (.int .i64 r.most) := fun wx h => (HAT.out wx h).2.2.2.2.2.2.2.2.2.1
      have x10 : ∀ wx, Below W0.heap.size W0 wx → wx.cell? ⟨w.heap.size, 10, none⟩ = some (.int .i64 r.brake) := fun wx h => (HAT.out wx h).2.2.2.2.2.2.2.2.2.2.1
      have x11 : ∀ wx, Below W0.heap.size W0 wx → wx.cell? ⟨w.heap.size, 11, none⟩ = some (.slice r.ia r.items.length r.ic) := fun wx h => (HAT.out wx h).2.2.2.2.2.2.2.2.2.2.2.1
      have x12 : ∀ wx, Below W0.heap.size W0 wx → wx.cell? ⟨w.heap.size, 12, none⟩ = some (.slice r.ba r.bricks.length r.bc) := fun wx h => (HAT.out wx h).2.2.2.2.2.2.2.2.2.2.2.2
      go_wp2_with (first
        | (go_at_call 4; (with_reducible refine (awake_any _).mono ?_); rintro e wx ⟨rfl, hb⟩; have hBn := hB.trans (hb.mono hB.size); clear hB hb; have hB := hBn; clear hBn)
        | (go_at_call 5; (with_reducible refine (small_any r 8 _ (HS0.out _ hB)).mono ?_); rintro e wx ⟨rfl, hb⟩; rw [HSM.out]; have hBn := hB.trans (hb.mono hB.size); clear hB hb; have hB := hBn; clear hBn)
        | (go_at_call 6; (with_reducible refine (few_any r.ba r.bricks r.bc _ (HS.out _ hB).bricks).mono ?_); rintro e wx ⟨rfl, hb⟩; rw [HF.out]; have hBn := hB.trans (hb.mono hB.size); clear hB hb; have hB := hBn; clear hBn)
        | (go_at_call 7; (with_reducible refine (fill_any r _ (HS.out _ hB)).mono ?_); rintro e wx ⟨hx, hb⟩; obtain ⟨v, rfl, hv⟩ := hx.out; rw [HFC.out] at hv; rw [HFE.out]; obtain ⟨fa, fc, rfl, _, _, _, hS⟩ := RowV.nums hv; rw [HS1.out] at hS ⊢; have HA1 := Lib.hid hS; have hBn := hB.trans (hb.mono hB.size); clear hB hb hx hv hS; have hB := hBn; clear hBn)
        | (go_at_call 8; (with_reducible refine (rvalid_any r _ (HS.out _ hB)).mono ?_); rintro e wx ⟨rfl, hb⟩; rw [HV.out]; have HA1 := Lib.hid (HA1.out.grow hb); have hBn := hB.trans (hb.mono hB.size); clear hB hb; have hB := hBn; clear hBn)
        | (go_at_call 10; (with_reducible refine (rfill_any r _ HK.out H7.out (HS.out _ hB)).mono ?_); rintro e wx ⟨hx, hb⟩; obtain ⟨v, rfl, va, vc, rfl, _, _, _, hS⟩ := hx.out; rw [HL1.out] at hS ⊢; have HT := Lib.hid hS; have HA1 := Lib.hid (HA1.out.grow hb); have hBn := hB.trans (hb.mono hB.size); clear hB hb hx hS; have hB := hBn; clear hBn)
        | (go_at_call 9; (with_reducible refine (eq_ex _ _ S1 _ _ _ _ rfl (by omega) HA1.out HT.out).mono ?_); rintro e wx ⟨rfl, hb⟩; have HA1 := Lib.hid (HA1.out.grow hb); have hBn := hB.trans (hb.mono hB.size); clear hB hb; have hB := hBn; clear hBn)
        | (go_at_call 11; (with_reducible refine (loaded_any r _ S1 _ _ HV.out HI1.out (HS.out _ hB) HA1.out).mono ?_); rintro e wx ⟨hx, hb⟩; obtain ⟨la1, lc1, ia1, ic1, ba1, bc1, rfl, hSI⟩ := hx.out; have HSL1 := Lib.hid hSI; have hBn := hB.trans (hb.mono hB.size); clear hB hb hx hSI; have hB := hBn; clear hBn)
        | (go_at_call 12; (with_reducible refine (balance_load (c := S1) HV.out HI1.out (HSL1.out.grow (below_new _ _))).mono ?_); rintro e wx ⟨rfl, hb⟩; rw [HBX1.out]; have hBn := hB.trans ((mono_in _ hb).mono hB.size); clear hB hb; have hB := hBn; clear hBn)
        | (go_at_call 13; (with_reducible refine (weight_any r.ba r.bricks r.bc ac c cc _ (HS.out _ hB).bcap (HS.out _ hB).bricks (HNC.out _ hB)).mono ?_); rintro e wx ⟨rfl, hb⟩; rw [HWN.out, HWE.out]; have hBn := hB.trans (hb.mono hB.size); clear hB hb; have hB := hBn; clear hBn)
        | (go_at_call 11; (with_reducible refine (loaded_any r _ c _ _ HV.out HI2.out (HS.out _ hB) (HNC.out _ hB)).mono ?_); rintro e wx ⟨hx, hb⟩; obtain ⟨la2, lc2, ia2, ic2, ba2, bc2, rfl, hSI⟩ := hx.out; have HSL2 := Lib.hid hSI; have hBn := hB.trans (hb.mono hB.size); clear hB hb hx hSI; have hB := hBn; clear hBn)
        | (go_at_call 12; (with_reducible refine (balance_load (c := c) HV.out HI2.out (HSL2.out.grow (below_new _ _))).mono ?_); rintro e wx ⟨rfl, hb⟩; rw [HBX2.out]; have hBn := hB.trans ((mono_in _ hb).mono hB.size); clear hB hb; have hB := hBn; clear hBn))
      go_ret
      exact ⟨rfl, HX.out _ hB⟩
    · have g3 : (we == 0) = false := by
        rw [← hwe]
        unfold weightE
        rw [if_pos hb, if_neg hi]
        split <;> rfl
      have g4 : (we != 0) = true := by rw [bne, g3]; rfl
      clear hk hb hok h7 hnb hr q1 q2 hfc hsome hq hw1 hi1 hsx hx hrb hcb hwn hwe hi hv
      go_enter Tryz.func3, Tryz.ntmps3
      go_wp2_with fail
      generalize (w.alloc (.cells #[.string r.name, .int .i64 r.depth, .int .i64 r.low, .int .i64 r.high, .int .i64 r.length, .slice r.la r.lines.length r.lc, .int .i64 r.pipe, .int .i64 r.arbor, .int .i64 r.purchase, .int .i64 r.most, .int .i64 r.brake, .slice r.ia r.items.length r.ic, .slice r.ba r.bricks.length r.bc] 26)) = W0 at *
      have hB := Below.refl W0.heap.size W0
      have x0 : ∀ wx, Below W0.heap.size W0 wx → wx.cell? ⟨w.heap.size, 0, none⟩ = some (.string r.name) := fun wx h => (HAT.out wx h).1
      have x1 : ∀ wx, Below W0.heap.size W0 wx → wx.cell? ⟨w.heap.size, 1, none⟩ = some (.int .i64 r.depth) := fun wx h => (HAT.out wx h).2.1
      have x2 : ∀ wx, Below W0.heap.size W0 wx → wx.cell? ⟨w.heap.size, 2, none⟩ = some (.int .i64 r.low) := fun wx h => (HAT.out wx h).2.2.1
      have x3 : ∀ wx, Below W0.heap.size W0 wx → wx.cell? ⟨w.heap.size, 3, none⟩ = some (.int .i64 r.high) := fun wx h => (HAT.out wx h).2.2.2.1
      have x4 : ∀ wx, Below W0.heap.size W0 wx → wx.cell? ⟨w.heap.size, 4, none⟩ = some (.int .i64 r.length) := fun wx h => (HAT.out wx h).2.2.2.2.1
      have x5 : ∀ wx, Below W0.heap.size W0 wx → wx.cell? ⟨w.heap.size, 5, none⟩ = some (.slice r.la r.lines.length r.lc) := fun wx h => (HAT.out wx h).2.2.2.2.2.1
      have x6 : ∀ wx, Below W0.heap.size W0 wx → wx.cell? ⟨w.heap.size, 6, none⟩ = some (.int .i64 r.pipe) := fun wx h => (HAT.out wx h).2.2.2.2.2.2.1
      have x7 : ∀ wx, Below W0.heap.size W0 wx → wx.cell? ⟨w.heap.size, 7, none⟩ = some (.int .i64 r.arbor) := fun wx h => (HAT.out wx h).2.2.2.2.2.2.2.1
      have x8 : ∀ wx, Below W0.heap.size W0 wx → wx.cell? ⟨w.heap.size, 8, none⟩ = some (.int .i64 r.purchase) := fun wx h => (HAT.out wx h).2.2.2.2.2.2.2.2.1
      have x9 : ∀ wx, Below W0.heap.size W0 wx → wx.cell? ⟨w.heap.size, 9, none⟩ = some (.int .i64 r.most) := fun wx h => (HAT.out wx h).2.2.2.2.2.2.2.2.2.1
      have x10 : ∀ wx, Below W0.heap.size W0 wx → wx.cell? ⟨w.heap.size, 10, none⟩ = some (.int .i64 r.brake) := fun wx h => (HAT.out wx h).2.2.2.2.2.2.2.2.2.2.1
      have x11 : ∀ wx, Below W0.heap.size W0 wx → wx.cell? ⟨w.heap.size, 11, none⟩ = some (.slice r.ia r.items.length r.ic) := fun wx h => (HAT.out wx h).2.2.2.2.2.2.2.2.2.2.2.1
      have x12 : ∀ wx, Below W0.heap.size W0 wx → wx.cell? ⟨w.heap.size, 12, none⟩ = some (.slice r.ba r.bricks.length r.bc) := fun wx h => (HAT.out wx h).2.2.2.2.2.2.2.2.2.2.2.2
      go_wp2_with (first
        | (go_at_call 4; (with_reducible refine (awake_any _).mono ?_); rintro e wx ⟨rfl, hb⟩; have hBn := hB.trans (hb.mono hB.size); clear hB hb; have hB := hBn; clear hBn)
        | (go_at_call 5; (with_reducible refine (small_any r 8 _ (HS0.out _ hB)).mono ?_); rintro e wx ⟨rfl, hb⟩; rw [HSM.out]; have hBn := hB.trans (hb.mono hB.size); clear hB hb; have hB := hBn; clear hBn)
        | (go_at_call 6; (with_reducible refine (few_any r.ba r.bricks r.bc _ (HS.out _ hB).bricks).mono ?_); rintro e wx ⟨rfl, hb⟩; rw [HF.out]; have hBn := hB.trans (hb.mono hB.size); clear hB hb; have hB := hBn; clear hBn)
        | (go_at_call 7; (with_reducible refine (fill_any r _ (HS.out _ hB)).mono ?_); rintro e wx ⟨hx, hb⟩; obtain ⟨v, rfl, hv⟩ := hx.out; rw [HFC.out] at hv; rw [HFE.out]; obtain ⟨fa, fc, rfl, _, _, _, hS⟩ := RowV.nums hv; rw [HS1.out] at hS ⊢; have HA1 := Lib.hid hS; have hBn := hB.trans (hb.mono hB.size); clear hB hb hx hv hS; have hB := hBn; clear hBn)
        | (go_at_call 8; (with_reducible refine (rvalid_any r _ (HS.out _ hB)).mono ?_); rintro e wx ⟨rfl, hb⟩; rw [HV.out]; have HA1 := Lib.hid (HA1.out.grow hb); have hBn := hB.trans (hb.mono hB.size); clear hB hb; have hB := hBn; clear hBn)
        | (go_at_call 10; (with_reducible refine (rfill_any r _ HK.out H7.out (HS.out _ hB)).mono ?_); rintro e wx ⟨hx, hb⟩; obtain ⟨v, rfl, va, vc, rfl, _, _, _, hS⟩ := hx.out; rw [HL1.out] at hS ⊢; have HT := Lib.hid hS; have HA1 := Lib.hid (HA1.out.grow hb); have hBn := hB.trans (hb.mono hB.size); clear hB hb hx hS; have hB := hBn; clear hBn)
        | (go_at_call 9; (with_reducible refine (eq_ex _ _ S1 _ _ _ _ rfl (by omega) HA1.out HT.out).mono ?_); rintro e wx ⟨rfl, hb⟩; have HA1 := Lib.hid (HA1.out.grow hb); have hBn := hB.trans (hb.mono hB.size); clear hB hb; have hB := hBn; clear hBn)
        | (go_at_call 11; (with_reducible refine (loaded_any r _ S1 _ _ HV.out HI1.out (HS.out _ hB) HA1.out).mono ?_); rintro e wx ⟨hx, hb⟩; obtain ⟨la1, lc1, ia1, ic1, ba1, bc1, rfl, hSI⟩ := hx.out; have HSL1 := Lib.hid hSI; have hBn := hB.trans (hb.mono hB.size); clear hB hb hx hSI; have hB := hBn; clear hBn)
        | (go_at_call 12; (with_reducible refine (balance_load (c := S1) HV.out HI1.out (HSL1.out.grow (below_new _ _))).mono ?_); rintro e wx ⟨rfl, hb⟩; rw [HBX1.out]; have hBn := hB.trans ((mono_in _ hb).mono hB.size); clear hB hb; have hB := hBn; clear hBn)
        | (go_at_call 13; (with_reducible refine (weight_any r.ba r.bricks r.bc ac c cc _ (HS.out _ hB).bcap (HS.out _ hB).bricks (HNC.out _ hB)).mono ?_); rintro e wx ⟨rfl, hb⟩; rw [HWN.out, HWE.out]; have hBn := hB.trans (hb.mono hB.size); clear hB hb; have hB := hBn; clear hBn))
      go_ret
      exact ⟨rfl, HX.out _ hB⟩
end Go.Proofs.YtbniclapaigkkaaGreat
