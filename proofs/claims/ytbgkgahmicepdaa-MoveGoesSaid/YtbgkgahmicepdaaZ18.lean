/-
  THE WALKS of the reference's Small (21), Needed (25), Fill (26).
  THE WALK of the reference's Small of houses.
-/
import Derived.Outline
import Derived.Deep.DeepCutAuto
import Derived.Test.YtbgkgahmicepdaaZ4
import Derived.Test.YtbgkgahmicepdaaZ17
namespace Go.Proofs.Ytbgkgahmicepdaa
open Go.RowKit Go.Shelf
attribute [local go_sem] Oper.semAt_some
def SmallP (r : SetR) (most : Int) : Prop := r.name.size ≤ 60 ∧ r.lines.length ≤ 12 ∧ ((r.items.length : Int) ≤ most ∨ 40 < r.items.length) ∧ r.items.length ≤ 45 ∧ r.bricks.length ≤ 10 ∧ (∀ j, j < r.items.length → (tg r.items j).name.size ≤ 60) ∧ ∀ j, j < r.bricks.length → (bg r.bricks j).name.size ≤ 60
instance (r : SetR) (most : Int) : Decidable (SmallP r most) := by unfold SmallP; infer_instance
def smallB (r : SetR) (most : Int) : Bool := decide (SmallP r most)
theorem small_in {w : World} {r : SetR} {most : Int} (h : SetIn0 w r) (hs : smallB r most = true) : SetIn w r := by
 obtain ⟨_, _, _, _, _, h6, h7⟩ := of_decide_eq_true hs
 refine ⟨h, fun x hx => ?_, fun x hx => ?_⟩
 ·obtain ⟨j, hj, rfl⟩ := List.getElem_of_mem hx
  have := h6 j hj
  rw [tg_eq _ j hj] at this
  omega
 ·obtain ⟨j, hj, rfl⟩ := List.getElem_of_mem hx
  have := h7 j hj
  rw [bg_eq _ j hj] at this
  omega
set_option maxRecDepth 100000 in
set_option maxHeartbeats 32000000 in
theorem small_any (r : SetR) (most : Int) (w : World) (hs : SetIn0 w r) :
  Calls Try.prog 44 #[.agg #[.string r.name, .int .i64 r.depth, .int .i64 r.low, .int .i64 r.high, .int .i64 r.length, .slice r.la r.lines.length r.lc, .int .i64 r.pipe, .int .i64 r.arbor, .int .i64 r.purchase, .int .i64 r.most, .int .i64 r.brake, .slice r.ia r.items.length r.ic, .slice r.ba r.bricks.length r.bc], .int .i64 most] w fun e w' => e = .returned (.bool (smallB r most)) ∧ Below w.heap.size w w' := by
 obtain ⟨R, hR⟩ : ∃ R, smallB r most = R := ⟨_, rfl⟩
 have HI : Hid (R = true ↔ SmallP r most) := Lib.hid (by rw [← hR]; unfold smallB; exact decide_eq_true_iff)
 rw [hR]
 clear hR
 have hb0 := below_new w (.cells #[.string r.name, .int .i64 r.depth, .int .i64 r.low, .int .i64 r.high, .int .i64 r.length, .slice r.la r.lines.length r.lc, .int .i64 r.pipe, .int .i64 r.arbor, .int .i64 r.purchase, .int .i64 r.most, .int .i64 r.brake, .slice r.ia r.items.length r.ic, .slice r.ba r.bricks.length r.bc] 84)
 have HX : Hid (∀ wx, Below (w.alloc (.cells #[.string r.name, .int .i64 r.depth, .int .i64 r.low, .int .i64 r.high, .int .i64 r.length, .slice r.la r.lines.length r.lc, .int .i64 r.pipe, .int .i64 r.arbor, .int .i64 r.purchase, .int .i64 r.most, .int .i64 r.brake, .slice r.ia r.items.length r.ic, .slice r.ba r.bricks.length r.bc] 84)).heap.size (w.alloc (.cells #[.string r.name, .int .i64 r.depth, .int .i64 r.low, .int .i64 r.high, .int .i64 r.length, .slice r.la r.lines.length r.lc, .int .i64 r.pipe, .int .i64 r.arbor, .int .i64 r.purchase, .int .i64 r.most, .int .i64 r.brake, .slice r.ia r.items.length r.ic, .slice r.ba r.bricks.length r.bc] 84)) wx → Below w.heap.size w wx) := Lib.hid fun wx h => mono_in _ h
 have HS : Hid (∀ wx, Below (w.alloc (.cells #[.string r.name, .int .i64 r.depth, .int .i64 r.low, .int .i64 r.high, .int .i64 r.length, .slice r.la r.lines.length r.lc, .int .i64 r.pipe, .int .i64 r.arbor, .int .i64 r.purchase, .int .i64 r.most, .int .i64 r.brake, .slice r.ia r.items.length r.ic, .slice r.ba r.bricks.length r.bc] 84)).heap.size (w.alloc (.cells #[.string r.name, .int .i64 r.depth, .int .i64 r.low, .int .i64 r.high, .int .i64 r.length, .slice r.la r.lines.length r.lc, .int .i64 r.pipe, .int .i64 r.arbor, .int .i64 r.purchase, .int .i64 r.most, .int .i64 r.brake, .slice r.ia r.items.length r.ic, .slice r.ba r.bricks.length r.bc] 84)) wx → SetIn0 wx r) := Lib.hid fun wx h => (hs.grow hb0).grow h
 have HAT : Hid (∀ wx, Below (w.alloc (.cells #[.string r.name, .int .i64 r.depth, .int .i64 r.low, .int .i64 r.high, .int .i64 r.length, .slice r.la r.lines.length r.lc, .int .i64 r.pipe, .int .i64 r.arbor, .int .i64 r.purchase, .int .i64 r.most, .int .i64 r.brake, .slice r.ia r.items.length r.ic, .slice r.ba r.bricks.length r.bc] 84)).heap.size (w.alloc (.cells #[.string r.name, .int .i64 r.depth, .int .i64 r.low, .int .i64 r.high, .int .i64 r.length, .slice r.la r.lines.length r.lc, .int .i64 r.pipe, .int .i64 r.arbor, .int .i64 r.purchase, .int .i64 r.most, .int .i64 r.brake, .slice r.ia r.items.length r.ic, .slice r.ba r.bricks.length r.bc] 84)) wx → SetAt wx w.heap.size r) := Lib.hid fun wx h => (SetAt.new w r 84).below h (by simp)
 clear hb0 hs
 by_cases q0 : 60 < r.name.size
 ·have ga868 : decide ((60 : Int) < (r.name.size : Int)) = true := decide_eq_true (by omega)
  have gb868 : decide (60 < r.name.size) = true := decide_eq_true (by omega)
  have HR : Hid (R = false) := Lib.hid (by
   rw [Bool.eq_false_iff]
   intro h
   obtain ⟨s1, s2, s3, s4, s5, _, _⟩ := HI.out.1 h
   omega)
  clear q0
  go_enter Try.func44, Try.ntmps44
  go_wp2_with fail
  generalize (w.alloc (.cells #[.string r.name, .int .i64 r.depth, .int .i64 r.low, .int .i64 r.high, .int .i64 r.length, .slice r.la r.lines.length r.lc, .int .i64 r.pipe, .int .i64 r.arbor, .int .i64 r.purchase, .int .i64 r.most, .int .i64 r.brake, .slice r.ia r.items.length r.ic, .slice r.ba r.bricks.length r.bc] 84)) = W0 at *
  have hB1 := Below.refl W0.heap.size W0
  have x0 : ∀ wx, Below W0.heap.size W0 wx → wx.cell? ⟨w.heap.size, 0, none⟩ = some (.string r.name) := fun wx h => (HAT.out wx h).1
  have x5 : ∀ wx, Below W0.heap.size W0 wx → wx.cell? ⟨w.heap.size, 5, none⟩ = some (.slice r.la r.lines.length r.lc) := fun wx h => (HAT.out wx h).2.2.2.2.2.1
  have x11 : ∀ wx, Below W0.heap.size W0 wx → wx.cell? ⟨w.heap.size, 11, none⟩ = some (.slice r.ia r.items.length r.ic) := fun wx h => (HAT.out wx h).2.2.2.2.2.2.2.2.2.2.2.1
  have x12 : ∀ wx, Below W0.heap.size W0 wx → wx.cell? ⟨w.heap.size, 12, none⟩ = some (.slice r.ba r.bricks.length r.bc) := fun wx h => (HAT.out wx h).2.2.2.2.2.2.2.2.2.2.2.2
  go_wp2_with fail
  go_ret
  exact ⟨ret_bool HR.out.symm, HX.out _ hB1⟩
 have ga868 : decide ((60 : Int) < (r.name.size : Int)) = false := decide_eq_false (by omega)
 have gb868 : decide (60 < r.name.size) = false := decide_eq_false (by omega)
 by_cases q1 : 12 < r.lines.length
 ·have ga686 : decide ((12 : Int) < (r.lines.length : Int)) = true := decide_eq_true (by omega)
  have gb686 : decide (12 < r.lines.length) = true := decide_eq_true (by omega)
  have HR : Hid (R = false) := Lib.hid (by
   rw [Bool.eq_false_iff]
   intro h
   obtain ⟨s1, s2, s3, s4, s5, _, _⟩ := HI.out.1 h
   omega)
  clear q0 q1
  go_enter Try.func44, Try.ntmps44
  go_wp2_with fail
  generalize (w.alloc (.cells #[.string r.name, .int .i64 r.depth, .int .i64 r.low, .int .i64 r.high, .int .i64 r.length, .slice r.la r.lines.length r.lc, .int .i64 r.pipe, .int .i64 r.arbor, .int .i64 r.purchase, .int .i64 r.most, .int .i64 r.brake, .slice r.ia r.items.length r.ic, .slice r.ba r.bricks.length r.bc] 84)) = W0 at *
  have hB1 := Below.refl W0.heap.size W0
  have x0 : ∀ wx, Below W0.heap.size W0 wx → wx.cell? ⟨w.heap.size, 0, none⟩ = some (.string r.name) := fun wx h => (HAT.out wx h).1
  have x5 : ∀ wx, Below W0.heap.size W0 wx → wx.cell? ⟨w.heap.size, 5, none⟩ = some (.slice r.la r.lines.length r.lc) := fun wx h => (HAT.out wx h).2.2.2.2.2.1
  have x11 : ∀ wx, Below W0.heap.size W0 wx → wx.cell? ⟨w.heap.size, 11, none⟩ = some (.slice r.ia r.items.length r.ic) := fun wx h => (HAT.out wx h).2.2.2.2.2.2.2.2.2.2.2.1
  have x12 : ∀ wx, Below W0.heap.size W0 wx → wx.cell? ⟨w.heap.size, 12, none⟩ = some (.slice r.ba r.bricks.length r.bc) := fun wx h => (HAT.out wx h).2.2.2.2.2.2.2.2.2.2.2.2
  go_wp2_with fail
  go_ret
  exact ⟨ret_bool HR.out.symm, HX.out _ hB1⟩
 have ga686 : decide ((12 : Int) < (r.lines.length : Int)) = false := decide_eq_false (by omega)
 have gb686 : decide (12 < r.lines.length) = false := decide_eq_false (by omega)
 by_cases q2 : most < (r.items.length : Int)
 ·have gc : decide (most < (r.items.length : Int)) = true := decide_eq_true q2
  by_cases q3 : r.items.length ≤ 40
  ·have gd : decide ((r.items.length : Int) ≤ 40) = true := decide_eq_true (by omega)
   have ge : decide (r.items.length ≤ 40) = true := decide_eq_true (by omega)
   have HR : Hid (R = false) := Lib.hid (by
    rw [Bool.eq_false_iff]
    intro h
    obtain ⟨s1, s2, s3, s4, s5, _, _⟩ := HI.out.1 h
    omega)
   clear q0 q1 q2 q3
   go_enter Try.func44, Try.ntmps44
   go_wp2_with fail
   generalize (w.alloc (.cells #[.string r.name, .int .i64 r.depth, .int .i64 r.low, .int .i64 r.high, .int .i64 r.length, .slice r.la r.lines.length r.lc, .int .i64 r.pipe, .int .i64 r.arbor, .int .i64 r.purchase, .int .i64 r.most, .int .i64 r.brake, .slice r.ia r.items.length r.ic, .slice r.ba r.bricks.length r.bc] 84)) = W0 at *
   have hB1 := Below.refl W0.heap.size W0
   have x0 : ∀ wx, Below W0.heap.size W0 wx → wx.cell? ⟨w.heap.size, 0, none⟩ = some (.string r.name) := fun wx h => (HAT.out wx h).1
   have x5 : ∀ wx, Below W0.heap.size W0 wx → wx.cell? ⟨w.heap.size, 5, none⟩ = some (.slice r.la r.lines.length r.lc) := fun wx h => (HAT.out wx h).2.2.2.2.2.1
   have x11 : ∀ wx, Below W0.heap.size W0 wx → wx.cell? ⟨w.heap.size, 11, none⟩ = some (.slice r.ia r.items.length r.ic) := fun wx h => (HAT.out wx h).2.2.2.2.2.2.2.2.2.2.2.1
   have x12 : ∀ wx, Below W0.heap.size W0 wx → wx.cell? ⟨w.heap.size, 12, none⟩ = some (.slice r.ba r.bricks.length r.bc) := fun wx h => (HAT.out wx h).2.2.2.2.2.2.2.2.2.2.2.2
   go_wp2_with fail
   go_ret
   exact ⟨ret_bool HR.out.symm, HX.out _ hB1⟩
  have gd : decide ((r.items.length : Int) ≤ 40) = false := decide_eq_false (by omega)
  have ge : decide (r.items.length ≤ 40) = false := decide_eq_false (by omega)
  by_cases q4 : 45 < r.items.length
  ·have ga102 : decide ((45 : Int) < (r.items.length : Int)) = true := decide_eq_true (by omega)
   have gb102 : decide (45 < r.items.length) = true := decide_eq_true (by omega)
   have HR : Hid (R = false) := Lib.hid (by
    rw [Bool.eq_false_iff]
    intro h
    obtain ⟨s1, s2, s3, s4, s5, _, _⟩ := HI.out.1 h
    omega)
   clear q0 q1 q2 q3 q4
   go_enter Try.func44, Try.ntmps44
   go_wp2_with fail
   generalize (w.alloc (.cells #[.string r.name, .int .i64 r.depth, .int .i64 r.low, .int .i64 r.high, .int .i64 r.length, .slice r.la r.lines.length r.lc, .int .i64 r.pipe, .int .i64 r.arbor, .int .i64 r.purchase, .int .i64 r.most, .int .i64 r.brake, .slice r.ia r.items.length r.ic, .slice r.ba r.bricks.length r.bc] 84)) = W0 at *
   have hB1 := Below.refl W0.heap.size W0
   have x0 : ∀ wx, Below W0.heap.size W0 wx → wx.cell? ⟨w.heap.size, 0, none⟩ = some (.string r.name) := fun wx h => (HAT.out wx h).1
   have x5 : ∀ wx, Below W0.heap.size W0 wx → wx.cell? ⟨w.heap.size, 5, none⟩ = some (.slice r.la r.lines.length r.lc) := fun wx h => (HAT.out wx h).2.2.2.2.2.1
   have x11 : ∀ wx, Below W0.heap.size W0 wx → wx.cell? ⟨w.heap.size, 11, none⟩ = some (.slice r.ia r.items.length r.ic) := fun wx h => (HAT.out wx h).2.2.2.2.2.2.2.2.2.2.2.1
   have x12 : ∀ wx, Below W0.heap.size W0 wx → wx.cell? ⟨w.heap.size, 12, none⟩ = some (.slice r.ba r.bricks.length r.bc) := fun wx h => (HAT.out wx h).2.2.2.2.2.2.2.2.2.2.2.2
   go_wp2_with fail
   go_ret
   exact ⟨ret_bool HR.out.symm, HX.out _ hB1⟩
  have ga102 : decide ((45 : Int) < (r.items.length : Int)) = false := decide_eq_false (by omega)
  have gb102 : decide (45 < r.items.length) = false := decide_eq_false (by omega)
  by_cases q5 : 10 < r.bricks.length
  ·have ga387 : decide ((10 : Int) < (r.bricks.length : Int)) = true := decide_eq_true (by omega)
   have gb387 : decide (10 < r.bricks.length) = true := decide_eq_true (by omega)
   have HR : Hid (R = false) := Lib.hid (by
    rw [Bool.eq_false_iff]
    intro h
    obtain ⟨s1, s2, s3, s4, s5, _, _⟩ := HI.out.1 h
    omega)
   clear q0 q1 q2 q3 q4 q5
   go_enter Try.func44, Try.ntmps44
   go_wp2_with fail
   generalize (w.alloc (.cells #[.string r.name, .int .i64 r.depth, .int .i64 r.low, .int .i64 r.high, .int .i64 r.length, .slice r.la r.lines.length r.lc, .int .i64 r.pipe, .int .i64 r.arbor, .int .i64 r.purchase, .int .i64 r.most, .int .i64 r.brake, .slice r.ia r.items.length r.ic, .slice r.ba r.bricks.length r.bc] 84)) = W0 at *
   have hB1 := Below.refl W0.heap.size W0
   have x0 : ∀ wx, Below W0.heap.size W0 wx → wx.cell? ⟨w.heap.size, 0, none⟩ = some (.string r.name) := fun wx h => (HAT.out wx h).1
   have x5 : ∀ wx, Below W0.heap.size W0 wx → wx.cell? ⟨w.heap.size, 5, none⟩ = some (.slice r.la r.lines.length r.lc) := fun wx h => (HAT.out wx h).2.2.2.2.2.1
   have x11 : ∀ wx, Below W0.heap.size W0 wx → wx.cell? ⟨w.heap.size, 11, none⟩ = some (.slice r.ia r.items.length r.ic) := fun wx h => (HAT.out wx h).2.2.2.2.2.2.2.2.2.2.2.1
   have x12 : ∀ wx, Below W0.heap.size W0 wx → wx.cell? ⟨w.heap.size, 12, none⟩ = some (.slice r.ba r.bricks.length r.bc) := fun wx h => (HAT.out wx h).2.2.2.2.2.2.2.2.2.2.2.2
   go_wp2_with fail
   go_ret
   exact ⟨ret_bool HR.out.symm, HX.out _ hB1⟩
  have ga387 : decide ((10 : Int) < (r.bricks.length : Int)) = false := decide_eq_false (by omega)
  have gb387 : decide (10 < r.bricks.length) = false := decide_eq_false (by omega)
  go_enter Try.func44, Try.ntmps44
  go_wp2_with fail
  generalize (w.alloc (.cells #[.string r.name, .int .i64 r.depth, .int .i64 r.low, .int .i64 r.high, .int .i64 r.length, .slice r.la r.lines.length r.lc, .int .i64 r.pipe, .int .i64 r.arbor, .int .i64 r.purchase, .int .i64 r.most, .int .i64 r.brake, .slice r.ia r.items.length r.ic, .slice r.ba r.bricks.length r.bc] 84)) = W0 at *
  have hB1 := Below.refl W0.heap.size W0
  have x0 : ∀ wx, Below W0.heap.size W0 wx → wx.cell? ⟨w.heap.size, 0, none⟩ = some (.string r.name) := fun wx h => (HAT.out wx h).1
  have x5 : ∀ wx, Below W0.heap.size W0 wx → wx.cell? ⟨w.heap.size, 5, none⟩ = some (.slice r.la r.lines.length r.lc) := fun wx h => (HAT.out wx h).2.2.2.2.2.1
  have x11 : ∀ wx, Below W0.heap.size W0 wx → wx.cell? ⟨w.heap.size, 11, none⟩ = some (.slice r.ia r.items.length r.ic) := fun wx h => (HAT.out wx h).2.2.2.2.2.2.2.2.2.2.2.1
  have x12 : ∀ wx, Below W0.heap.size W0 wx → wx.cell? ⟨w.heap.size, 12, none⟩ = some (.slice r.ba r.bricks.length r.bc) := fun wx h => (HAT.out wx h).2.2.2.2.2.2.2.2.2.2.2.2
  go_loop [5] (fun v => ∃ k : Nat, k ≤ r.items.length ∧ v = .int .i64 k ∧ Hid (∀ j, j < k → (tg r.items j).name.size ≤ 60)) (fun v => r.items.length - (intOf v).toNat)
  case atStart => exact ⟨0, Nat.zero_le _, rfl, Lib.hid (fun j hj => by omega)⟩
  case round =>
   obtain ⟨k, hk, rfl, HO1⟩ := hrel
   by_cases hlt : k < r.items.length
   ·obtain ⟨b, off, hia, hb, hc⟩ := (HS.out _ hB1).items (by omega)
    have y := x11 W0 hB1
    rw [hia] at y
    have c0 := (hc k hlt).1
    clear hc hia x11
    have k1 : (k : Int) < r.items.length := by omega
    obtain ⟨s, hs⟩ : ∃ s, (tg r.items k).name = s := ⟨_, rfl⟩
    rw [hs] at c0
    by_cases q : 60 < s.size
    ·have ga : decide ((60 : Int) < (s.size : Int)) = true := decide_eq_true (by omega)
     have gb : decide (60 < s.size) = true := decide_eq_true (by omega)
     have HR : Hid (R = false) := Lib.hid (by
      rw [Bool.eq_false_iff]
      intro h
      have := (HI.out.1 h).2.2.2.2.2.1 k hlt
      rw [hs] at this
      omega)
     clear q hs
     go_wp2_with fail
     go_ret
     exact ⟨ret_bool HR.out.symm, HX.out _ hB1⟩
    ·have ga : decide ((60 : Int) < (s.size : Int)) = false := decide_eq_false (by omega)
     have gb : decide (60 < s.size) = false := decide_eq_false (by omega)
     have HN : Hid (∀ j, j < k + 1 → (tg r.items j).name.size ≤ 60) := Lib.hid fun j hj => by
      rcases (show j < k ∨ j = k by omega) with l | l
      ·exact HO1.out j l
      ·subst l; rw [hs]; omega
     clear q hs
     go_wp2_with fail
     go_round
     case rel => exact ⟨k + 1, by omega, by go_num, HN⟩
     case measure => simp [intOf]; omega
   ·obtain rfl : k = r.items.length := by omega
    go_wp2_with fail
    go_loop [6] (fun v => ∃ k : Nat, k ≤ r.bricks.length ∧ v = .int .i64 k ∧ Hid (∀ j, j < k → (bg r.bricks j).name.size ≤ 60)) (fun v => r.bricks.length - (intOf v).toNat)
    case atStart => exact ⟨0, Nat.zero_le _, rfl, Lib.hid (fun j hj => by omega)⟩
    case round =>
     obtain ⟨k, hk, rfl, HO2⟩ := hrel
     by_cases hlt : k < r.bricks.length
     ·obtain ⟨b, off, hia, hb, hc⟩ := (HS.out _ hB1).bricks (by omega)
      have y := x12 W0 hB1
      rw [hia] at y
      have c0 := (hc k hlt).1
      clear hc hia x12
      have k1 : (k : Int) < r.bricks.length := by omega
      obtain ⟨s, hs⟩ : ∃ s, (bg r.bricks k).name = s := ⟨_, rfl⟩
      rw [hs] at c0
      by_cases q : 60 < s.size
      ·have ga : decide ((60 : Int) < (s.size : Int)) = true := decide_eq_true (by omega)
       have gb : decide (60 < s.size) = true := decide_eq_true (by omega)
       have HR : Hid (R = false) := Lib.hid (by
        rw [Bool.eq_false_iff]
        intro h
        have := (HI.out.1 h).2.2.2.2.2.2 k hlt
        rw [hs] at this
        omega)
       clear q hs
       go_wp2_with fail
       go_ret
       exact ⟨ret_bool HR.out.symm, HX.out _ hB1⟩
      ·have ga : decide ((60 : Int) < (s.size : Int)) = false := decide_eq_false (by omega)
       have gb : decide (60 < s.size) = false := decide_eq_false (by omega)
       have HN : Hid (∀ j, j < k + 1 → (bg r.bricks j).name.size ≤ 60) := Lib.hid fun j hj => by
        rcases (show j < k ∨ j = k by omega) with l | l
        ·exact HO2.out j l
        ·subst l; rw [hs]; omega
       clear q hs
       go_wp2_with fail
       go_round
       case rel => exact ⟨k + 1, by omega, by go_num, HN⟩
       case measure => simp [intOf]; omega
     ·obtain rfl : k = r.bricks.length := by omega
      have HR : Hid (R = true) := Lib.hid (HI.out.2 ⟨by omega, by omega, by omega, by omega, by omega, HO1.out, HO2.out⟩)
      go_wp2_with fail
      go_ret
      exact ⟨ret_bool HR.out.symm, HX.out _ hB1⟩
 ·have gc : decide (most < (r.items.length : Int)) = false := decide_eq_false q2
  by_cases q4 : 45 < r.items.length
  ·have ga102 : decide ((45 : Int) < (r.items.length : Int)) = true := decide_eq_true (by omega)
   have gb102 : decide (45 < r.items.length) = true := decide_eq_true (by omega)
   have HR : Hid (R = false) := Lib.hid (by
    rw [Bool.eq_false_iff]
    intro h
    obtain ⟨s1, s2, s3, s4, s5, _, _⟩ := HI.out.1 h
    omega)
   clear q0 q1 q2 q4
   go_enter Try.func44, Try.ntmps44
   go_wp2_with fail
   generalize (w.alloc (.cells #[.string r.name, .int .i64 r.depth, .int .i64 r.low, .int .i64 r.high, .int .i64 r.length, .slice r.la r.lines.length r.lc, .int .i64 r.pipe, .int .i64 r.arbor, .int .i64 r.purchase, .int .i64 r.most, .int .i64 r.brake, .slice r.ia r.items.length r.ic, .slice r.ba r.bricks.length r.bc] 84)) = W0 at *
   have hB1 := Below.refl W0.heap.size W0
   have x0 : ∀ wx, Below W0.heap.size W0 wx → wx.cell? ⟨w.heap.size, 0, none⟩ = some (.string r.name) := fun wx h => (HAT.out wx h).1
   have x5 : ∀ wx, Below W0.heap.size W0 wx → wx.cell? ⟨w.heap.size, 5, none⟩ = some (.slice r.la r.lines.length r.lc) := fun wx h => (HAT.out wx h).2.2.2.2.2.1
   have x11 : ∀ wx, Below W0.heap.size W0 wx → wx.cell? ⟨w.heap.size, 11, none⟩ = some (.slice r.ia r.items.length r.ic) := fun wx h => (HAT.out wx h).2.2.2.2.2.2.2.2.2.2.2.1
   have x12 : ∀ wx, Below W0.heap.size W0 wx → wx.cell? ⟨w.heap.size, 12, none⟩ = some (.slice r.ba r.bricks.length r.bc) := fun wx h => (HAT.out wx h).2.2.2.2.2.2.2.2.2.2.2.2
   go_wp2_with fail
   go_ret
   exact ⟨ret_bool HR.out.symm, HX.out _ hB1⟩
  have ga102 : decide ((45 : Int) < (r.items.length : Int)) = false := decide_eq_false (by omega)
  have gb102 : decide (45 < r.items.length) = false := decide_eq_false (by omega)
  by_cases q5 : 10 < r.bricks.length
  ·have ga387 : decide ((10 : Int) < (r.bricks.length : Int)) = true := decide_eq_true (by omega)
   have gb387 : decide (10 < r.bricks.length) = true := decide_eq_true (by omega)
   have HR : Hid (R = false) := Lib.hid (by
    rw [Bool.eq_false_iff]
    intro h
    obtain ⟨s1, s2, s3, s4, s5, _, _⟩ := HI.out.1 h
    omega)
   clear q0 q1 q2 q4 q5
   go_enter Try.func44, Try.ntmps44
   go_wp2_with fail
   generalize (w.alloc (.cells #[.string r.name, .int .i64 r.depth, .int .i64 r.low, .int .i64 r.high, .int .i64 r.length, .slice r.la r.lines.length r.lc, .int .i64 r.pipe, .int .i64 r.arbor, .int .i64 r.purchase, .int .i64 r.most, .int .i64 r.brake, .slice r.ia r.items.length r.ic, .slice r.ba r.bricks.length r.bc] 84)) = W0 at *
   have hB1 := Below.refl W0.heap.size W0
   have x0 : ∀ wx, Below W0.heap.size W0 wx → wx.cell? ⟨w.heap.size, 0, none⟩ = some (.string r.name) := fun wx h => (HAT.out wx h).1
   have x5 : ∀ wx, Below W0.heap.size W0 wx → wx.cell? ⟨w.heap.size, 5, none⟩ = some (.slice r.la r.lines.length r.lc) := fun wx h => (HAT.out wx h).2.2.2.2.2.1
   have x11 : ∀ wx, Below W0.heap.size W0 wx → wx.cell? ⟨w.heap.size, 11, none⟩ = some (.slice r.ia r.items.length r.ic) := fun wx h => (HAT.out wx h).2.2.2.2.2.2.2.2.2.2.2.1
   have x12 : ∀ wx, Below W0.heap.size W0 wx → wx.cell? ⟨w.heap.size, 12, none⟩ = some (.slice r.ba r.bricks.length r.bc) := fun wx h => (HAT.out wx h).2.2.2.2.2.2.2.2.2.2.2.2
   go_wp2_with fail
   go_ret
   exact ⟨ret_bool HR.out.symm, HX.out _ hB1⟩
  have ga387 : decide ((10 : Int) < (r.bricks.length : Int)) = false := decide_eq_false (by omega)
  have gb387 : decide (10 < r.bricks.length) = false := decide_eq_false (by omega)
  go_enter Try.func44, Try.ntmps44
  go_wp2_with fail
  generalize (w.alloc (.cells #[.string r.name, .int .i64 r.depth, .int .i64 r.low, .int .i64 r.high, .int .i64 r.length, .slice r.la r.lines.length r.lc, .int .i64 r.pipe, .int .i64 r.arbor, .int .i64 r.purchase, .int .i64 r.most, .int .i64 r.brake, .slice r.ia r.items.length r.ic, .slice r.ba r.bricks.length r.bc] 84)) = W0 at *
  have hB1 := Below.refl W0.heap.size W0
  have x0 : ∀ wx, Below W0.heap.size W0 wx → wx.cell? ⟨w.heap.size, 0, none⟩ = some (.string r.name) := fun wx h => (HAT.out wx h).1
  have x5 : ∀ wx, Below W0.heap.size W0 wx → wx.cell? ⟨w.heap.size, 5, none⟩ = some (.slice r.la r.lines.length r.lc) := fun wx h => (HAT.out wx h).2.2.2.2.2.1
  have x11 : ∀ wx, Below W0.heap.size W0 wx → wx.cell? ⟨w.heap.size, 11, none⟩ = some (.slice r.ia r.items.length r.ic) := fun wx h => (HAT.out wx h).2.2.2.2.2.2.2.2.2.2.2.1
  have x12 : ∀ wx, Below W0.heap.size W0 wx → wx.cell? ⟨w.heap.size, 12, none⟩ = some (.slice r.ba r.bricks.length r.bc) := fun wx h => (HAT.out wx h).2.2.2.2.2.2.2.2.2.2.2.2
  go_loop [5] (fun v => ∃ k : Nat, k ≤ r.items.length ∧ v = .int .i64 k ∧ Hid (∀ j, j < k → (tg r.items j).name.size ≤ 60)) (fun v => r.items.length - (intOf v).toNat)
  case atStart => exact ⟨0, Nat.zero_le _, rfl, Lib.hid (fun j hj => by omega)⟩
  case round =>
   obtain ⟨k, hk, rfl, HO1⟩ := hrel
   by_cases hlt : k < r.items.length
   ·obtain ⟨b, off, hia, hb, hc⟩ := (HS.out _ hB1).items (by omega)
    have y := x11 W0 hB1
    rw [hia] at y
    have c0 := (hc k hlt).1
    clear hc hia x11
    have k1 : (k : Int) < r.items.length := by omega
    obtain ⟨s, hs⟩ : ∃ s, (tg r.items k).name = s := ⟨_, rfl⟩
    rw [hs] at c0
    by_cases q : 60 < s.size
    ·have ga : decide ((60 : Int) < (s.size : Int)) = true := decide_eq_true (by omega)
     have gb : decide (60 < s.size) = true := decide_eq_true (by omega)
     have HR : Hid (R = false) := Lib.hid (by
      rw [Bool.eq_false_iff]
      intro h
      have := (HI.out.1 h).2.2.2.2.2.1 k hlt
      rw [hs] at this
      omega)
     clear q hs
     go_wp2_with fail
     go_ret
     exact ⟨ret_bool HR.out.symm, HX.out _ hB1⟩
    ·have ga : decide ((60 : Int) < (s.size : Int)) = false := decide_eq_false (by omega)
     have gb : decide (60 < s.size) = false := decide_eq_false (by omega)
     have HN : Hid (∀ j, j < k + 1 → (tg r.items j).name.size ≤ 60) := Lib.hid fun j hj => by
      rcases (show j < k ∨ j = k by omega) with l | l
      ·exact HO1.out j l
      ·subst l; rw [hs]; omega
     clear q hs
     go_wp2_with fail
     go_round
     case rel => exact ⟨k + 1, by omega, by go_num, HN⟩
     case measure => simp [intOf]; omega
   ·obtain rfl : k = r.items.length := by omega
    go_wp2_with fail
    go_loop [6] (fun v => ∃ k : Nat, k ≤ r.bricks.length ∧ v = .int .i64 k ∧ Hid (∀ j, j < k → (bg r.bricks j).name.size ≤ 60)) (fun v => r.bricks.length - (intOf v).toNat)
    case atStart => exact ⟨0, Nat.zero_le _, rfl, Lib.hid (fun j hj => by omega)⟩
    case round =>
     obtain ⟨k, hk, rfl, HO2⟩ := hrel
     by_cases hlt : k < r.bricks.length
     ·obtain ⟨b, off, hia, hb, hc⟩ := (HS.out _ hB1).bricks (by omega)
      have y := x12 W0 hB1
      rw [hia] at y
      have c0 := (hc k hlt).1
      clear hc hia x12
      have k1 : (k : Int) < r.bricks.length := by omega
      obtain ⟨s, hs⟩ : ∃ s, (bg r.bricks k).name = s := ⟨_, rfl⟩
      rw [hs] at c0
      by_cases q : 60 < s.size
      ·have ga : decide ((60 : Int) < (s.size : Int)) = true := decide_eq_true (by omega)
       have gb : decide (60 < s.size) = true := decide_eq_true (by omega)
       have HR : Hid (R = false) := Lib.hid (by
        rw [Bool.eq_false_iff]
        intro h
        have := (HI.out.1 h).2.2.2.2.2.2 k hlt
        rw [hs] at this
        omega)
       clear q hs
       go_wp2_with fail
       go_ret
       exact ⟨ret_bool HR.out.symm, HX.out _ hB1⟩
      ·have ga : decide ((60 : Int) < (s.size : Int)) = false := decide_eq_false (by omega)
       have gb : decide (60 < s.size) = false := decide_eq_false (by omega)
       have HN : Hid (∀ j, j < k + 1 → (bg r.bricks j).name.size ≤ 60) := Lib.hid fun j hj => by
        rcases (show j < k ∨ j = k by omega) with l | l
        ·exact HO2.out j l
        ·subst l; rw [hs]; omega
       clear q hs
       go_wp2_with fail
       go_round
       case rel => exact ⟨k + 1, by omega, by go_num, HN⟩
       case measure => simp [intOf]; omega
     ·obtain rfl : k = r.bricks.length := by omega
      have HR : Hid (R = true) := Lib.hid (HI.out.2 ⟨by omega, by omega, by omega, by omega, by omega, HO1.out, HO2.out⟩)
      go_wp2_with fail
      go_ret
      exact ⟨ret_bool HR.out.symm, HX.out _ hB1⟩
end Go.Proofs.Ytbgkgahmicepdaa
namespace Go.Proofs.Ytbgkgahmicepdaa
open Go.RowKit Go.Shelf
attribute [local go_sem] Oper.semAt_some
def SmallH (h : HouseR) (most : Int) : Prop := (h.sets.length : Int) ≤ most ∧ (h.roofs.length : Int) ≤ most + 10 ∧ h.name.size ≤ 60 ∧ (∀ i, i < h.sets.length → smallB (hg h.sets i) 8 = true) ∧ ∀ i, i < h.roofs.length → (rg h.roofs i).name.size ≤ 60
noncomputable def smallHB (h : HouseR) (most : Int) : Bool := @decide (SmallH h most) (Classical.propDecidable _)
theorem smallH_iff {h : HouseR} {most : Int} : smallHB h most = true ↔ SmallH h most := @decide_eq_true_iff (SmallH h most) (Classical.propDecidable _)
theorem smallH_no {h : HouseR} {most : Int} (n : ¬ SmallH h most) : smallHB h most = false := by
 cases e : smallHB h most
 ·rfl
 ·exact absurd (smallH_iff.1 e) n
theorem smallH_in {w : World} {h : HouseR} {most : Int} (hm : most ≤ 900) (x : HouseIn0 w h) (s : SmallH h most) : HouseIn w h :=
 ⟨x, fun i hi => small_in (x.each i hi) (s.2.2.2.1 i hi), by have := s.1; omega, by have := s.2.1; omega⟩
set_option maxRecDepth 100000 in
set_option maxHeartbeats 16000000 in
theorem smallH_any (h : HouseR) (most : Int) (m0 : 0 ≤ most) (m1 : most ≤ 900) (w : World) (hh : HouseIn0 w h) :
  Calls Try.prog 20 #[.agg #[.string h.name, .int .i64 h.height, .slice h.sa h.sets.length h.sc, .slice h.ra h.roofs.length h.rc], .int .i64 most] w fun e w' => e = .returned (.bool (smallHB h most)) ∧ Below w.heap.size w w' := by
 have HH := Lib.hid hh
 have hcap := hh.scap
 have hrcap := hh.rcap
 have hat := HouseAt.new w h 25
 obtain ⟨sa, hsa⟩ : ∃ a, h.sa = a := ⟨_, rfl⟩
 obtain ⟨ra, hra⟩ : ∃ a, h.ra = a := ⟨_, rfl⟩
 have HSA := Lib.hid hsa
 have HRA := Lib.hid hra
 rw [hsa, hra] at hat ⊢
 have HAT := Lib.hid hat
 have hW0 := below_new w (.cells #[.string h.name, .int .i64 h.height, .slice sa h.sets.length h.sc, .slice ra h.roofs.length h.rc] 25)
 have mw : IntKind.i64.wrap (most + 10) = most + 10 := IntWalk.i64_in _ (by omega)
 clear hh hat hsa hra
 cases h1 : decide (most < (h.sets.length : Int))
 case true =>
  have H1 := Lib.hid h1
  have HZ := Lib.hid (smallH_no (h := h) (most := most) (fun q => by have := q.1; have e := of_decide_eq_true H1.out; omega))
  go_enter Try.func20, Try.ntmps20
  go_upto_region 1 with (fail)
  generalize w.alloc (.cells #[.string h.name, .int .i64 h.height, .slice sa h.sets.length h.sc, .slice ra h.roofs.length h.rc] 25) = W0 at *
  obtain ⟨k0, k1, k2, k3⟩ := HAT.out
  rw [HSA.out] at k2
  rw [HRA.out] at k3
  go_wp2_with fail
  go_ret
  exact ⟨ret_bool HZ.out.symm, hW0⟩
 have H1 := Lib.hid h1
 cases h2 : decide (most + 10 < (h.roofs.length : Int))
 case true =>
  have H2 := Lib.hid h2
  have HZ := Lib.hid (smallH_no (h := h) (most := most) (fun q => by have := q.2.1; have e := of_decide_eq_true H2.out; omega))
  go_enter Try.func20, Try.ntmps20
  go_upto_region 1 with (fail)
  generalize w.alloc (.cells #[.string h.name, .int .i64 h.height, .slice sa h.sets.length h.sc, .slice ra h.roofs.length h.rc] 25) = W0 at *
  obtain ⟨k0, k1, k2, k3⟩ := HAT.out
  rw [HSA.out] at k2
  rw [HRA.out] at k3
  go_wp2_with fail
  go_ret
  exact ⟨ret_bool HZ.out.symm, hW0⟩
 have H2 := Lib.hid h2
 cases h3 : decide ((60 : Int) < (h.name.size : Int))
 case true =>
  have H3 := Lib.hid h3
  have HZ := Lib.hid (smallH_no (h := h) (most := most) (fun q => by have := q.2.2.1; have e := of_decide_eq_true H3.out; omega))
  go_enter Try.func20, Try.ntmps20
  go_upto_region 1 with (fail)
  generalize w.alloc (.cells #[.string h.name, .int .i64 h.height, .slice sa h.sets.length h.sc, .slice ra h.roofs.length h.rc] 25) = W0 at *
  obtain ⟨k0, k1, k2, k3⟩ := HAT.out
  rw [HSA.out] at k2
  rw [HRA.out] at k3
  go_wp2_with fail
  go_ret
  exact ⟨ret_bool HZ.out.symm, hW0⟩
 have H3 := Lib.hid h3
 have hsl : h.sets.length ≤ 900 := by have := of_decide_eq_false H1.out; omega
 have hrl : h.roofs.length ≤ 910 := by have := of_decide_eq_false H2.out; omega
 go_enter Try.func20, Try.ntmps20
 go_upto_region 1 with (fail)
 generalize w.alloc (.cells #[.string h.name, .int .i64 h.height, .slice sa h.sets.length h.sc, .slice ra h.roofs.length h.rc] 25) = W0 at *
 obtain ⟨k0, k1, k2, k3⟩ := HAT.out
 rw [HSA.out] at k2
 rw [HRA.out] at k3
 go_wp2_with fail
 have hz : w.heap.size < W0.heap.size := World.block_lt_of_cell? _ _ k0
 clear k0 k1 k2 k3 h1 h2 h3
 go_loopw [5] (fun i wr => ∃ k : Nat, k ≤ h.sets.length ∧ i = .int .i64 k ∧ Hid (∀ j, j < k → smallB (hg h.sets j) 8 = true) ∧ Below W0.heap.size W0 wr) (fun i _ => h.sets.length - (intOf i).toNat)
 case atStart => exact ⟨0, Nat.zero_le _, rfl, Lib.hid (fun _ h => absurd h (Nat.not_lt_zero _)), Below.refl _ _⟩
 case round =>
  obtain ⟨k, hk, rfl, HO, hB⟩ := hrel
  have HAW := Lib.hid (HAT.out.carry hB)
  by_cases hlt : k < h.sets.length
  ·have HHR := Lib.hid (HH.out.grow (hW0.trans (hB.mono hW0.size)))
   obtain ⟨b, off, esa, hb, hc⟩ := HHR.out.sets (by omega)
   obtain rfl : sa = some ⟨b, off, none⟩ := HSA.out.symm.trans esa
   have HSET := Lib.hid (HHR.out.each k hlt)
   obtain ⟨c0, c1, c2, c3, c4, c5, c6, c7, c8, c9, c10, c11, c12⟩ := hc k hlt
   obtain ⟨k0, k1, k2, k3⟩ := HAW.out
   rw [HSA.out] at k2
   rw [HRA.out] at k3
   have i0 : 0 ≤ (k : Int) := by omega
   have i1 : (k : Int) < (h.sets.length : Int) := by omega
   have s1 : IntKind.i64.wrap ((k : Int) + 1) = (k : Int) + 1 := IntWalk.i64_in _ (by omega)
   have HN : Hid (smallB (hg h.sets k) 8 = false → smallHB h most = false) := Lib.hid fun e => smallH_no fun q => by have := q.2.2.2.1 k hlt; rw [e] at this; cases this
   have HO2 : Hid (smallB (hg h.sets k) 8 = true → ∀ j, j < k + 1 → smallB (hg h.sets j) 8 = true) := Lib.hid fun q j hj => by
    rcases Nat.lt_or_eq_of_le (Nat.le_of_lt_succ hj) with l | l
    ·exact HO.out j l
    ·subst l; exact q
   generalize hg h.sets k = x at *
   have HBV := Lib.hid (small_any x 8 wr HSET.out)
   clear hc HO esa
   cases h6 : smallB x 8
   ·have HZ := Lib.hid (HN.out h6)
    rw [h6] at HBV
    clear h6
    go_wp2_with (go_at_call 44; (with_reducible refine HBV.out.mono ?_); rintro e w3 ⟨rfl, hb3⟩)
    go_ret
    exact ⟨ret_bool HZ.out.symm, hW0.trans ((hB.trans (hb3.mono hB.size)).mono hW0.size)⟩
   ·have HY := Lib.hid (HO2.out h6)
    rw [h6] at HBV
    clear h6
    go_wp2_with (go_at_call 44; (with_reducible refine HBV.out.mono ?_); rintro e w3 ⟨rfl, hb3⟩)
    go_roundw
    case rel => exact ⟨k + 1, by omega, by go_num, HY, hB.trans (hb3.mono hB.size)⟩
    case measure => simp [intOf]; omega
  ·obtain rfl : k = h.sets.length := by omega
   have HS := Lib.hid HO.out
   have HBQ := Lib.hid hB
   obtain ⟨k0, k1, k2, k3⟩ := HAW.out
   rw [HSA.out] at k2
   rw [HRA.out] at k3
   clear HO hB
   go_wp2_with fail
   clear k0 k1 k2 k3
   go_loopw [6] (fun i wx => ∃ k : Nat, k ≤ h.roofs.length ∧ i = .int .i64 k ∧ Hid (∀ j, j < k → (rg h.roofs j).name.size ≤ 60) ∧ Below wr.heap.size wr wx) (fun i _ => h.roofs.length - (intOf i).toNat)
   case atStart => exact ⟨0, Nat.zero_le _, rfl, Lib.hid (fun _ h => absurd h (Nat.not_lt_zero _)), Below.refl _ _⟩
   case round =>
    obtain ⟨k, hk, rfl, HO, hB⟩ := hrel
    have HAX := Lib.hid (HAW.out.carry hB)
    obtain ⟨k0, k1, k2, k3⟩ := HAX.out
    rw [HSA.out] at k2
    rw [HRA.out] at k3
    by_cases hlt : k < h.roofs.length
    ·have hBW := hW0.trans ((HBQ.out.trans (hB.mono HBQ.out.size)).mono hW0.size)
     have HHR := Lib.hid (HH.out.grow hBW)
     obtain ⟨b, off, era, hb, hc⟩ := HHR.out.roofs (by omega)
     obtain rfl : ra = some ⟨b, off, none⟩ := HRA.out.symm.trans era
     obtain ⟨c0, c1, c2, c3⟩ := hc k hlt
     have i0 : 0 ≤ (k : Int) := by omega
     have i1 : (k : Int) < (h.roofs.length : Int) := by omega
     have s1 : IntKind.i64.wrap ((k : Int) + 1) = (k : Int) + 1 := IntWalk.i64_in _ (by omega)
     clear hc era
     by_cases h6 : (60 : Int) < ((rg h.roofs k).name.size : Int)
     ·have g6 := decide_eq_true h6
      have HZ := Lib.hid (smallH_no (h := h) (most := most) fun q => by have := q.2.2.2.2 k hlt; omega)
      clear h6
      go_wp2_with fail
      go_ret
      exact ⟨ret_bool HZ.out.symm, hBW⟩
     ·have g6 := decide_eq_false h6
      have HY : Hid (∀ j, j < k + 1 → (rg h.roofs j).name.size ≤ 60) := Lib.hid fun j hj => by
       rcases Nat.lt_or_eq_of_le (Nat.le_of_lt_succ hj) with l | l
       ·exact HO.out j l
       ·subst l; omega
      clear h6
      go_wp2_with fail
      go_roundw
      case rel => exact ⟨k + 1, by omega, by go_num, HY, hB⟩
      case measure => simp [intOf]; omega
    ·obtain rfl : k = h.roofs.length := by omega
     have HR : Hid (smallHB h most = true) := Lib.hid (smallH_iff.2 ⟨by have := of_decide_eq_false H1.out; omega, by have := of_decide_eq_false H2.out; omega, by have := of_decide_eq_false H3.out; omega, HS.out, HO.out⟩)
     have hBW := hW0.trans ((HBQ.out.trans (hB.mono HBQ.out.size)).mono hW0.size)
     go_wp2_with fail
     go_ret
     exact ⟨ret_bool HR.out.symm, hBW⟩
end Go.Proofs.Ytbgkgahmicepdaa
