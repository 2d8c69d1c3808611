/-
  THE WALKS of the reference's Small (21), Needed (25), Fill (26).
-/
import Derived.Test.YtbniclapaigkkaaGreatRef22
namespace Go.Proofs.YtbniclapaigkkaaGreat
open Go.RowKit Go.Shelf
attribute [local go_sem] Oper.semAt_some
/-- A set is small: few items, short names. -/
def SmallP (r : SetR) (most : Int) : Prop := r.name.size ≤ 60 ∧ r.lines.length ≤ 12 ∧ ((r.items.length : Int) ≤ most ∨ 40 < r.items.length) ∧ r.items.length ≤ 45 ∧ r.bricks.length ≤ 10 ∧ (∀ j, j < r.items.length → (tg r.items j).name.size ≤ 60) ∧ ∀ j, j < r.bricks.length → (bg r.bricks j).name.size ≤ 60
instance (r : SetR) (most : Int) : Decidable (SmallP r most) := by unfold SmallP; infer_instance
def smallB (r : SetR) (most : Int) : Bool := decide (SmallP r most)
theorem small_in {w : World} {r : SetR} {most : Int} (h : SetIn0 w r) (hs : smallB r most = true) : SetIn w r := by
  obtain ⟨_, _, _, _, _, h6, h7⟩ := of_decide_eq_true hs
  refine ⟨h, fun x hx => ?_, fun x hx => ?_⟩
  · obtain ⟨j, hj, rfl⟩ := List.getElem_of_mem hx
    have := h6 j hj
    rw [tg_eq _ j hj] at this
    omega
  · obtain ⟨j, hj, rfl⟩ := List.getElem_of_mem hx
    have := h7 j hj
    rw [bg_eq _ j hj] at this
    omega
set_option maxRecDepth 100000 in
set_option maxHeartbeats 32000000 in
theorem small_any (r : SetR) (most : Int) (w : World) (hs : SetIn0 w r) :
    Calls Tryz.prog 5 #[.agg #[.string r.name, .int .i64 r.depth, .int .i64 r.low, .int .i64 r.high, .int .i64 r.length, .slice r.la r.lines.length r.lc, .int .i64 r.pipe, .int .i64 r.arbor, .int .i64 r.purchase, .int .i64 r.most, .int .i64 r.brake, .slice r.ia r.items.length r.ic, .slice r.ba r.bricks.length r.bc], .int .i64 most] w fun e w' => e = .returned (.bool (smallB r most)) ∧ Below w.heap.size w w' := by
  obtain ⟨R, hR⟩ : ∃ R, smallB r most = R := ⟨_, rfl⟩
  have HI : Hid (R = true ↔ SmallP r most) := Lib.hid (by rw [← hR]; unfold smallB; exact decide_eq_true_iff)
  rw [hR]
  clear hR
  have hb0 := below_new w (.cells #[.string r.name, .int .i64 r.depth, .int .i64 r.low, .int .i64 r.high, .int .i64 r.length, .slice r.la r.lines.length r.lc, .int .i64 r.pipe, .int .i64 r.arbor, .int .i64 r.purchase, .int .i64 r.most, .int .i64 r.brake, .slice r.ia r.items.length r.ic, .slice r.ba r.bricks.length r.bc] 26)
  have HX : Hid (∀ wx, Below (w.alloc (.cells #[.string r.name, .int .i64 r.depth, .int .i64 r.low, .int .i64 r.high, .int .i64 r.length, .slice r.la r.lines.length r.lc, .int .i64 r.pipe, .int .i64 r.arbor, .int .i64 r.purchase, .int .i64 r.most, .int .i64 r.brake, .slice r.ia r.items.length r.ic, .slice r.ba r.bricks.length r.bc] 26)).heap.size (w.alloc (.cells #[.string r.name, .int .i64 r.depth, .int .i64 r.low, .int .i64 r.high, .int .i64 r.length, .slice r.la r.lines.length r.lc, .int .i64 r.pipe, .int .i64 r.arbor, .int .i64 r.purchase, .int .i64 r.most, .int .i64 r.brake, .slice r.ia r.items.length r.ic, .slice r.ba r.bricks.length r.bc] 26)) wx → Below w.heap.size w wx) := Lib.hid fun wx h => mono_in _ h
  have HS : Hid (∀ wx, Below (w.alloc (.cells #[.string r.name, .int .i64 r.depth, .int .i64 r.low, .int .i64 r.high, .int .i64 r.length, .slice r.la r.lines.length r.lc, .int .i64 r.pipe, .int .i64 r.arbor, .int .i64 r.purchase, .int .i64 r.most, .int .i64 r.brake, .slice r.ia r.items.length r.ic, .slice r.ba r.bricks.length r.bc] 26)).heap.size (w.alloc (.cells #[.string r.name, .int .i64 r.depth, .int .i64 r.low, .int .i64 r.high, .int .i64 r.length, .slice r.la r.lines.length r.lc, .int .i64 r.pipe, .int .i64 r.arbor, .int .i64 r.purchase, .int .i64 r.most, .int .i64 r.brake, .slice r.ia r.items.length r.ic, .slice r.ba r.bricks.length r.bc] 26)) wx → SetIn0 wx r) := Lib.hid fun wx h => (hs.grow hb0).grow h
  have HAT : Hid (∀ wx, Below (w.alloc (.cells #[.string r.name, .int .i64 r.depth, .int .i64 r.low, .int .i64 r.high, .int .i64 r.length, .slice r.la r.lines.length r.lc, .int .i64 r.pipe, .int .i64 r.arbor, .int .i64 r.purchase, .int .i64 r.most, .int .i64 r.brake, .slice r.ia r.items.length r.ic, .slice r.ba r.bricks.length r.bc] 26)).heap.size (w.alloc (.cells #[.string r.name, .int .i64 r.depth, .int .i64 r.low, .int .i64 r.high, .int .i64 r.length, .slice r.la r.lines.length r.lc, .int .i64 r.pipe, .int .i64 r.arbor, .int .i64 r.purchase, .int .i64 r.most, .int .i64 r.brake, .slice r.ia r.items.length r.ic, .slice r.ba r.bricks.length r.bc] 26)) wx → SetAt wx w.heap.size r) := Lib.hid fun wx h => (SetAt.new w r 26).below h (by simp)
  clear hb0 hs
  by_cases q0 : 60 < r.name.size
  · have ga868 : decide ((60 : Int) < (r.name.size : Int)) = true := decide_eq_true (by omega)
    have gb868 : decide (60 < r.name.size) = true := decide_eq_true (by omega)
    have HR : Hid (R = false) := Lib.hid (by
      rw [Bool.eq_false_iff]
      intro h
      obtain ⟨s1, s2, s3, s4, s5, _, _⟩ := HI.out.1 h
      omega)
    clear q0
    go_enter Tryz.func5, Tryz.ntmps5
    go_wp2_with fail
    generalize (w.alloc (.cells #[.string r.name, .int .i64 r.depth, .int .i64 r.low, .int .i64 r.high, .int .i64 r.length, .slice r.la r.lines.length r.lc, .int .i64 r.pipe, .int .i64 r.arbor, .int .i64 r.purchase, .int .i64 r.most, .int .i64 r.brake, .slice r.ia r.items.length r.ic, .slice r.ba r.bricks.length r.bc] 26)) = W0 at *
    have hB1 := Below.refl W0.heap.size W0
    have x0 : ∀ wx, Below W0.heap.size W0 wx → wx.cell? ⟨w.heap.size, 0, none⟩ = some (.string r.name) := fun wx h => (HAT.out wx h).1
    have x5 : ∀ wx, Below W0.heap.size W0 wx → wx.cell? ⟨w.heap.size, 5, none⟩ = some (.slice r.la r.lines.length r.lc) := fun wx h => (HAT.out wx h).2.2.2.2.2.1
    have x11 : ∀ wx, Below W0.heap.size W0 wx → wx.cell? ⟨w.heap.size, 11, none⟩ = some (.slice r.ia r.items.length r.ic) := fun wx h => (HAT.out wx h).2.2.2.2.2.2.2.2.2.2.2.1
    have x12 : ∀ wx, Below W0.heap.size W0 wx → wx.cell? ⟨w.heap.size, 12, none⟩ = some (.slice r.ba r.bricks.length r.bc) := fun wx h => (HAT.out wx h).2.2.2.2.2.2.2.2.2.2.2.2
    go_wp2_with fail
    go_ret
    exact ⟨ret_bool HR.out.symm, HX.out _ hB1⟩
  have ga868 : decide ((60 : Int) < (r.name.size : Int)) = false := decide_eq_false (by omega)
  have gb868 : decide (60 < r.name.size) = false := decide_eq_false (by omega)
  by_cases q1 : 12 < r.lines.length
  · have ga686 : decide ((12 : Int) < (r.lines.length : Int)) = true := decide_eq_true (by omega)
    have gb686 : decide (12 < r.lines.length) = true := decide_eq_true (by omega)
    have HR : Hid (R = false) := Lib.hid (by
      rw [Bool.eq_false_iff]
      intro h
      obtain ⟨s1, s2, s3, s4, s5, _, _⟩ := HI.out.1 h
      omega)
    clear q0 q1
    go_enter Tryz.func5, Tryz.ntmps5
    go_wp2_with fail
    generalize (w.alloc (.cells #[.string r.name, .int .i64 r.depth, .int .i64 r.low, .int .i64 r.high, .int .i64 r.length, .slice r.la r.lines.length r.lc, .int .i64 r.pipe, .int .i64 r.arbor, .int .i64 r.purchase, .int .i64 r.most, .int .i64 r.brake, .slice r.ia r.items.length r.ic, .slice r.ba r.bricks.length r.bc] 26)) = W0 at *
    have hB1 := Below.refl W0.heap.size W0
    have x0 : ∀ wx, Below W0.heap.size W0 wx → wx.cell? ⟨w.heap.size, 0, none⟩ = some (.string r.name) := fun wx h => (HAT.out wx h).1
    have x5 : ∀ wx, Below W0.heap.size W0 wx → wx.cell? ⟨w.heap.size, 5, none⟩ = some (.slice r.la r.lines.length r.lc) := fun wx h => (HAT.out wx h).2.2.2.2.2.1
    have x11 : ∀ wx, Below W0.heap.size W0 wx → wx.cell? ⟨w.heap.size, 11, none⟩ = some (.slice r.ia r.items.length r.ic) := fun wx h => (HAT.out wx h).2.2.2.2.2.2.2.2.2.2.2.1
    have x12 : ∀ wx, Below W0.heap.size W0 wx → wx.cell? ⟨w.heap.size, 12, none⟩ = some (.slice r.ba r.bricks.length r.bc) := fun wx h => (HAT.out wx h).2.2.2.2.2.2.2.2.2.2.2.2
    go_wp2_with fail
    go_ret
    exact ⟨ret_bool HR.out.symm, HX.out _ hB1⟩
  have ga686 : decide ((12 : Int) < (r.lines.length : Int)) = false := decide_eq_false (by omega)
  have gb686 : decide (12 < r.lines.length) = false := decide_eq_false (by omega)
  by_cases q2 : most < (r.items.length : Int)
  · have gc : decide (most < (r.items.length : Int)) = true := decide_eq_true q2
    by_cases q3 : r.items.length ≤ 40
    · have gd : decide ((r.items.length : Int) ≤ 40) = true := decide_eq_true (by omega)
      have ge : decide (r.items.length ≤ 40) = true := decide_eq_true (by omega)
      have HR : Hid (R = false) := Lib.hid (by
        rw [Bool.eq_false_iff]
        intro h
        obtain ⟨s1, s2, s3, s4, s5, _, _⟩ := HI.out.1 h
        omega)
      clear q0 q1 q2 q3
      go_enter Tryz.func5, Tryz.ntmps5
      go_wp2_with fail
      generalize (w.alloc (.cells #[.string r.name, .int .i64 r.depth, .int .i64 r.low, .int .i64 r.high, .int .i64 r.length, .slice r.la r.lines.length r.lc, .int .i64 r.pipe, .int .i64 r.arbor, .int .i64 r.purchase, .int .i64 r.most, .int .i64 r.brake, .slice r.ia r.items.length r.ic, .slice r.ba r.bricks.length r.bc] 26)) = W0 at *
      have hB1 := Below.refl W0.heap.size W0
      have x0 : ∀ wx, Below W0.heap.size W0 wx → wx.cell? ⟨w.heap.size, 0, none⟩ = some (.string r.name) := fun wx h => (HAT.out wx h).1
      have x5 : ∀ wx, Below W0.heap.size W0 wx → wx.cell? ⟨w.heap.size, 5, none⟩ = some (.slice r.la r.lines.length r.lc) := fun wx h => (HAT.out wx h).2.2.2.2.2.1
      have x11 : ∀ wx, Below W0.heap.size W0 wx → wx.cell? ⟨w.heap.size, 11, none⟩ = some (.slice r.ia r.items.length r.ic) := fun wx h => (HAT.out wx h).2.2.2.2.2.2.2.2.2.2.2.1
      have x12 : ∀ wx, Below W0.heap.size W0 wx → wx.cell? ⟨w.heap.size, 12, none⟩ = some (.slice r.ba r.bricks.length r.bc) := fun wx h => (HAT.out wx h).2.2.2.2.2.2.2.2.2.2.2.2
      go_wp2_with fail
      go_ret
      exact ⟨ret_bool HR.out.symm, HX.out _ hB1⟩
    have gd : decide ((r.items.length : Int) ≤ 40) = false := decide_eq_false (by omega)
    have ge : decide (r.items.length ≤ 40) = false := decide_eq_false (by omega)
    by_cases q4 : 45 < r.items.length
    · have ga102 : decide ((45 : Int) < (r.items.length : Int)) = true := decide_eq_true (by omega)
      have gb102 : decide (45 < r.items.length) = true := decide_eq_true (by omega)
      have HR : Hid (R = false) := Lib.hid (by
        rw [Bool.eq_false_iff]
        intro h
        obtain ⟨s1, s2, s3, s4, s5, _, _⟩ := HI.out.1 h
        omega)
      clear q0 q1 q2 q3 q4
      go_enter Tryz.func5, Tryz.ntmps5
      go_wp2_with fail
      generalize (w.alloc (.cells #[.string r.name, .int .i64 r.depth, .int .i64 r.low, .int .i64 r.high, .int .i64 r.length, .slice r.la r.lines.length r.lc, .int .i64 r.pipe, .int .i64 r.arbor, .int .i64 r.purchase, .int .i64 r.most, .int .i64 r.brake, .slice r.ia r.items.length r.ic, .slice r.ba r.bricks.length r.bc] 26)) = W0 at *
      have hB1 := Below.refl W0.heap.size W0
      have x0 : ∀ wx, Below W0.heap.size W0 wx → wx.cell? ⟨w.heap.size, 0, none⟩ = some (.string r.name) := fun wx h => (HAT.out wx h).1
      have x5 : ∀ wx, Below W0.heap.size W0 wx → wx.cell? ⟨w.heap.size, 5, none⟩ = some (.slice r.la r.lines.length r.lc) := fun wx h => (HAT.out wx h).2.2.2.2.2.1
      have x11 : ∀ wx, Below W0.heap.size W0 wx → wx.cell? ⟨w.heap.size, 11, none⟩ = some (.slice r.ia r.items.length r.ic) := fun wx h => (HAT.out wx h).2.2.2.2.2.2.2.2.2.2.2.1
      have x12 : ∀ wx, Below W0.heap.size W0 wx → wx.cell? ⟨w.heap.size, 12, none⟩ = some (.slice r.ba r.bricks.length r.bc) := fun wx h => (HAT.out wx h).2.2.2.2.2.2.2.2.2.2.2.2
      go_wp2_with fail
      go_ret
      exact ⟨ret_bool HR.out.symm, HX.out _ hB1⟩
    have ga102 : decide ((45 : Int) < (r.items.length : Int)) = false := decide_eq_false (by omega)
    have gb102 : decide (45 < r.items.length) = false := decide_eq_false (by omega)
    by_cases q5 : 10 < r.bricks.length
    · have ga387 : decide ((10 : Int) < (r.bricks.length : Int)) = true := decide_eq_true (by omega)
      have gb387 : decide (10 < r.bricks.length) = true := decide_eq_true (by omega)
      have HR : Hid (R = false) := Lib.hid (by
        rw [Bool.eq_false_iff]
        intro h
        obtain ⟨s1, s2, s3, s4, s5, _, _⟩ := HI.out.1 h
        omega)
      clear q0 q1 q2 q3 q4 q5
      go_enter Tryz.func5, Tryz.ntmps5
      go_wp2_with fail
      generalize (w.alloc (.cells #[.string r.name, .int .i64 r.depth, .int .i64 r.low, .int .i64 r.high, .int .i64 r.length, .slice r.la r.lines.length r.lc, .int .i64 r.pipe, .int .i64 r.arbor, .int .i64 r.purchase, .int .i64 r.most, .int .i64 r.brake, .slice r.ia r.items.length r.ic, .slice r.ba r.bricks.length r.bc] 26)) = W0 at *
      have hB1 := Below.refl W0.heap.size W0
      have x0 : ∀ wx, Below W0.heap.size W0 wx → wx.cell? ⟨w.heap.size, 0, none⟩ = some (.string r.name) := fun wx h => (HAT.out wx h).1
      have x5 : ∀ wx, Below W0.heap.size W0 wx → wx.cell? ⟨w.heap.size, 5, none⟩ = some (.slice r.la r.lines.length r.lc) := fun wx h => (HAT.out wx h).2.2.2.2.2.1
      have x11 : ∀ wx, Below W0.heap.size W0 wx → wx.cell? ⟨w.heap.size, 11, none⟩ = some (.slice r.ia r.items.length r.ic) := fun wx h => (HAT.out wx h).2.2.2.2.2.2.2.2.2.2.2.1
      have x12 : ∀ wx, Below W0.heap.size W0 wx → wx.cell? ⟨w.heap.size, 12, none⟩ = some (.slice r.ba r.bricks.length r.bc) := fun wx h => (HAT.out wx h).2.2.2.2.2.2.2.2.2.2.2.2
      go_wp2_with fail
      go_ret
      exact ⟨ret_bool HR.out.symm, HX.out _ hB1⟩
    have ga387 : decide ((10 : Int) < (r.bricks.length : Int)) = false := decide_eq_false (by omega)
    have gb387 : decide (10 < r.bricks.length) = false := decide_eq_false (by omega)
    go_enter Tryz.func5, Tryz.ntmps5
    go_wp2_with fail
    generalize (w.alloc (.cells #[.string r.name, .int .i64 r.depth, .int .i64 r.low, .int .i64 r.high, .int .i64 r.length, .slice r.la r.lines.length r.lc, .int .i64 r.pipe, .int .i64 r.arbor, .int .i64 r.purchase, .int .i64 r.most, .int .i64 r.brake, .slice r.ia r.items.length r.ic, .slice r.ba r.bricks.length r.bc] 26)) = W0 at *
    have hB1 := Below.refl W0.heap.size W0
    have x0 : ∀ wx, Below W0.heap.size W0 wx → wx.cell? ⟨w.heap.size, 0, none⟩ = some (.string r.name) := fun wx h => (HAT.out wx h).1
    have x5 : ∀ wx, Below W0.heap.size W0 wx → wx.cell? ⟨w.heap.size, 5, none⟩ = some (.slice r.la r.lines.length r.lc) := fun wx h => (HAT.out wx h).2.2.2.2.2.1
    have x11 : ∀ wx, Below W0.heap.size W0 wx → wx.cell? ⟨w.heap.size, 11, none⟩ = some (.slice r.ia r.items.length r.ic) := fun wx h => (HAT.out wx h).2.2.2.2.2.2.2.2.2.2.2.1
    have x12 : ∀ wx, Below W0.heap.size W0 wx → wx.cell? ⟨w.heap.size, 12, none⟩ = some (.slice r.ba r.bricks.length r.bc) := fun wx h => (HAT.out wx h).2.2.2.2.2.2.2.2.2.2.2.2
    go_loop [5] (fun v => ∃ k : Nat, k ≤ r.items.length ∧ v = .int .i64 k ∧ Hid (∀ j, j < k → (tg r.items j).name.size ≤ 60)) (fun v => r.items.length - (intOf v).toNat)
    case atStart => exact ⟨0, Nat.zero_le _, rfl, Lib.hid (fun j hj => by omega)⟩
    case round =>
      obtain ⟨k, hk, rfl, HO1⟩ := hrel
      by_cases hlt : k < r.items.length
      · obtain ⟨b, off, hia, hb, hc⟩ := (HS.out _ hB1).items (by omega)
        have y := x11 W0 hB1
        rw [hia] at y
        have c0 := (hc k hlt).1
        clear hc hia x11
        have k1 : (k : Int) < r.items.length := by omega
        obtain ⟨s, hs⟩ : ∃ s, (tg r.items k).name = s := ⟨_, rfl⟩
        rw [hs] at c0
        by_cases q : 60 < s.size
        · have ga : decide ((60 : Int) < (s.size : Int)) = true := decide_eq_true (by omega)
          have gb : decide (60 < s.size) = true := decide_eq_true (by omega)
          have HR : Hid (R = false) := Lib.hid (by
            rw [Bool.eq_false_iff]
            intro h
            have := (HI.out.1 h).2.2.2.2.2.1 k hlt
            rw [hs] at this
            omega)
          clear q hs
          go_wp2_with fail
          go_ret
          exact ⟨ret_bool HR.out.symm, HX.out _ hB1⟩
        · have ga : decide ((60 : Int) < (s.size : Int)) = false := decide_eq_false (by omega)
          have gb : decide (60 < s.size) = false := decide_eq_false (by omega)
          have HN : Hid (∀ j, j < k + 1 → (tg r.items j).name.size ≤ 60) := Lib.hid fun j hj => by
            rcases (show j < k ∨ j = k by omega) with l | l
            · exact HO1.out j l
            · subst l; rw [hs]; omega
          clear q hs
          go_wp2_with fail
          go_round
          case rel => exact ⟨k + 1, by omega, by go_num, HN⟩
          case measure => simp [intOf]; omega
      · obtain rfl : k = r.items.length := by omega
        go_wp2_with fail
        go_loop [6] (fun v => ∃ k : Nat, k ≤ r.bricks.length ∧ v = .int .i64 k ∧ Hid (∀ j, j < k → (bg r.bricks j).name.size ≤ 60)) (fun v => r.bricks.length - (intOf v).toNat)
        case atStart => exact ⟨0, Nat.zero_le _, rfl, Lib.hid (fun j hj => by omega)⟩
        case round =>
          obtain ⟨k, hk, rfl, HO2⟩ := hrel
          by_cases hlt : k < r.bricks.length
          · obtain ⟨b, off, hia, hb, hc⟩ := (HS.out _ hB1).bricks (by omega)
            have y := x12 W0 hB1
            rw [hia] at y
            have c0 := (hc k hlt).1
            clear hc hia x12
            have k1 : (k : Int) < r.bricks.length := by omega
            obtain ⟨s, hs⟩ : ∃ s, (bg r.bricks k).name = s := ⟨_, rfl⟩
            rw [hs] at c0
            by_cases q : 60 < s.size
            · have ga : decide ((60 : Int) < (s.size : Int)) = true := decide_eq_true (by omega)
              have gb : decide (60 < s.size) = true := decide_eq_true (by omega)
              have HR : Hid (R = false) := Lib.hid (by
                rw [Bool.eq_false_iff]
                intro h
                have := (HI.out.1 h).2.2.2.2.2.2 k hlt
                rw [hs] at this
                omega)
              clear q hs
              go_wp2_with fail
              go_ret
              exact ⟨ret_bool HR.out.symm, HX.out _ hB1⟩
            · have ga : decide ((60 : Int) < (s.size : Int)) = false := decide_eq_false (by omega)
              have gb : decide (60 < s.size) = false := decide_eq_false (by omega)
              have HN : Hid (∀ j, j < k + 1 → (bg r.bricks j).name.size ≤ 60) := Lib.hid fun j hj => by
                rcases (show j < k ∨ j = k by omega) with l | l
                · exact HO2.out j l
                · subst l; rw [hs]; omega
              clear q hs
              go_wp2_with fail
              go_round
              case rel => exact ⟨k + 1, by omega, by go_num, HN⟩
              case measure => simp [intOf]; omega
          · obtain rfl : k = r.bricks.length := by omega
            have HR : Hid (R = true) := Lib.hid (HI.out.2 ⟨by omega, by omega, by omega, by omega, by omega, HO1.out, HO2.out⟩)
            go_wp2_with fail
            go_ret
            exact ⟨ret_bool HR.out.symm, HX.out _ hB1⟩
  · have gc : decide (most < (r.items.length : Int)) = false := decide_eq_false q2
    by_cases q4 : 45 < r.items.length
    · have ga102 : decide ((45 : Int) < (r.items.length : Int)) = true := decide_eq_true (by omega)
      have gb102 : decide (45 < r.items.length) = true := decide_eq_true (by omega)
      have HR : Hid (R = false) := Lib.hid (by
        rw [Bool.eq_false_iff]
        intro h
        obtain ⟨s1, s2, s3, s4, s5, _, _⟩ := HI.out.1 h
        omega)
      clear q0 q1 q2 q4
      go_enter Tryz.func5, Tryz.ntmps5
      go_wp2_with fail
      generalize (w.alloc (.cells #[.string r.name, .int .i64 r.depth, .int .i64 r.low, .int .i64 r.high, .int .i64 r.length, .slice r.la r.lines.length r.lc, .int .i64 r.pipe, .int .i64 r.arbor, .int .i64 r.purchase, .int .i64 r.most, .int .i64 r.brake, .slice r.ia r.items.length r.ic, .slice r.ba r.bricks.length r.bc] 26)) = W0 at *
      have hB1 := Below.refl W0.heap.size W0
      have x0 : ∀ wx, Below W0.heap.size W0 wx → wx.cell? ⟨w.heap.size, 0, none⟩ = some (.string r.name) := fun wx h => (HAT.out wx h).1
      have x5 : ∀ wx, Below W0.heap.size W0 wx → wx.cell? ⟨w.heap.size, 5, none⟩ = some (.slice r.la r.lines.length r.lc) := fun wx h => (HAT.out wx h).2.2.2.2.2.1
      have x11 : ∀ wx, Below W0.heap.size W0 wx → wx.cell? ⟨w.heap.size, 11, none⟩ = some (.slice r.ia r.items.length r.ic) := fun wx h => (HAT.out wx h).2.2.2.2.2.2.2.2.2.2.2.1
      have x12 : ∀ wx, Below W0.heap.size W0 wx → wx.cell? ⟨w.heap.size, 12, none⟩ = some (.slice r.ba r.bricks.length r.bc) := fun wx h => (HAT.out wx h).2.2.2.2.2.2.2.2.2.2.2.2
      go_wp2_with fail
      go_ret
      exact ⟨ret_bool HR.out.symm, HX.out _ hB1⟩
    have ga102 : decide ((45 : Int) < (r.items.length : Int)) = false := decide_eq_false (by omega)
    have gb102 : decide (45 < r.items.length) = false := decide_eq_false (by omega)
    by_cases q5 : 10 < r.bricks.length
    · have ga387 : decide ((10 : Int) < (r.bricks.length : Int)) = true := decide_eq_true (by omega)
      have gb387 : decide (10 < r.bricks.length) = true := decide_eq_true (by omega)
      have HR : Hid (R = false) := Lib.hid (by
        rw [Bool.eq_false_iff]
        intro h
        obtain ⟨s1, s2, s3, s4, s5, _, _⟩ := HI.out.1 h
        omega)
      clear q0 q1 q2 q4 q5
      go_enter Tryz.func5, Tryz.ntmps5
      go_wp2_with fail
      generalize (w.alloc (.cells #[.string r.name, .int .i64 r.depth, .int .i64 r.low, .int .i64 r.high, .int .i64 r.length, .slice r.la r.lines.length r.lc, .int .i64 r.pipe, .int .i64 r.arbor, .int .i64 r.purchase, .int .i64 r.most, .int .i64 r.brake, .slice r.ia r.items.length r.ic, .slice r.ba r.bricks.length r.bc] 26)) = W0 at *
      have hB1 := Below.refl W0.heap.size W0
      have x0 : ∀ wx, Below W0.heap.size W0 wx → wx.cell? ⟨w.heap.size, 0, none⟩ = some (.string r.name) := fun wx h => (HAT.out wx h).1
      have x5 : ∀ wx, Below W0.heap.size W0 wx → wx.cell? ⟨w.heap.size, 5, none⟩ = some (.slice r.la r.lines.length r.lc) := fun wx h => (HAT.out wx h).2.2.2.2.2.1
      have x11 : ∀ wx, Below W0.heap.size W0 wx → wx.cell? ⟨w.heap.size, 11, none⟩ = some (.slice r.ia r.items.length r.ic) := fun wx h => (HAT.out wx h).2.2.2.2.2.2.2.2.2.2.2.1
      have x12 : ∀ wx, Below W0.heap.size W0 wx → wx.cell? ⟨w.heap.size, 12, none⟩ = some (.slice r.ba r.bricks.length r.bc) := fun wx h => (HAT.out wx h).2.2.2.2.2.2.2.2.2.2.2.2
      go_wp2_with fail
      go_ret
      exact ⟨ret_bool HR.out.symm, HX.out _ hB1⟩
    have ga387 : decide ((10 : Int) < (r.bricks.length : Int)) = false := decide_eq_false (by omega)
    have gb387 : decide (10 < r.bricks.length) = false := decide_eq_false (by omega)
    go_enter Tryz.func5, Tryz.ntmps5
    go_wp2_with fail
    generalize (w.alloc (.cells #[.string r.name, .int .i64 r.depth, .int .i64 r.low, .int .i64 r.high, .int .i64 r.length, .slice r.la r.lines.length r.lc, .int .i64 r.pipe, .int .i64 r.arbor, .int .i64 r.purchase, .int .i64 r.most, .int .i64 r.brake, .slice r.ia r.items.length r.ic, .slice r.ba r.bricks.length r.bc] 26)) = W0 at *
    have hB1 := Below.refl W0.heap.size W0
    have x0 : ∀ wx, Below W0.heap.size W0 wx → wx.cell? ⟨w.heap.size, 0, none⟩ = some (.string r.name) := fun wx h => (HAT.out wx h).1
    have x5 : ∀ wx, Below W0.heap.size W0 wx → wx.cell? ⟨w.heap.size, 5, none⟩ = some (.slice r.la r.lines.length r.lc) := fun wx h => (HAT.out wx h).2.2.2.2.2.1
    have x11 : ∀ wx, Below W0.heap.size W0 wx → wx.cell? ⟨w.heap.size, 11, none⟩ = some (.slice r.ia r.items.length r.ic) := fun wx h => (HAT.out wx h).2.2.2.2.2.2.2.2.2.2.2.1
    have x12 : ∀ wx, Below W0.heap.size W0 wx → wx.cell? ⟨w.heap.size, 12, none⟩ = some (.slice r.ba r.bricks.length r.bc) := fun wx h => (HAT.out wx h).2.2.2.2.2.2.2.2.2.2.2.2
    go_loop [5] (fun v => ∃ k : Nat, k ≤ r.items.length ∧ v = .int .i64 k ∧ Hid (∀ j, j < k → (tg r.items j).name.size ≤ 60)) (fun v => r.items.length - (intOf v).toNat)
    case atStart => exact ⟨0, Nat.zero_le _, rfl, Lib.hid (fun j hj => by omega)⟩
    case round =>
      obtain ⟨k, hk, rfl, HO1⟩ := hrel
      by_cases hlt : k < r.items.length
      · obtain ⟨b, off, hia, hb, hc⟩ := (HS.out _ hB1).items (by omega)
        have y := x11 W0 hB1
        rw [hia] at y
        have c0 := (hc k hlt).1
        clear hc hia x11
        have k1 : (k : Int) < r.items.length := by omega
        obtain ⟨s, hs⟩ : ∃ s, (tg r.items k).name = s := ⟨_, rfl⟩
        rw [hs] at c0
        by_cases q : 60 < s.size
        · have ga : decide ((60 : Int) < (s.size : Int)) = true := decide_eq_true (by omega)
          have gb : decide (60 < s.size) = true := decide_eq_true (by omega)
          have HR : Hid (R = false) := Lib.hid (by
            rw [Bool.eq_false_iff]
            intro h
            have := (HI.out.1 h).2.2.2.2.2.1 k hlt
            rw [hs] at this
            omega)
          clear q hs
          go_wp2_with fail
          go_ret
          exact ⟨ret_bool HR.out.symm, HX.out _ hB1⟩
        · have ga : decide ((60 : Int) < (s.size : Int)) = false := decide_eq_false (by omega)
          have gb : decide (60 < s.size) = false := decide_eq_false (by omega)
          have HN : Hid (∀ j, j < k + 1 → (tg r.items j).name.size ≤ 60) := Lib.hid fun j hj => by
            rcases (show j < k ∨ j = k by omega) with l | l
            · exact HO1.out j l
            · subst l; rw [hs]; omega
          clear q hs
          go_wp2_with fail
          go_round
          case rel => exact ⟨k + 1, by omega, by go_num, HN⟩
          case measure => simp [intOf]; omega
      · obtain rfl : k = r.items.length := by omega
        go_wp2_with fail
        go_loop [6] (fun v => ∃ k : Nat, k ≤ r.bricks.length ∧ v = .int .i64 k ∧ Hid (∀ j, j < k → (bg r.bricks j).name.size ≤ 60)) (fun v => r.bricks.length - (intOf v).toNat)
        case atStart => exact ⟨0, Nat.zero_le _, rfl, Lib.hid (fun j hj => by omega)⟩
        case round =>
          obtain ⟨k, hk, rfl, HO2⟩ := hrel
          by_cases hlt : k < r.bricks.length
          · obtain ⟨b, off, hia, hb, hc⟩ := (HS.out _ hB1).bricks (by omega)
            have y := x12 W0 hB1
            rw [hia] at y
            have c0 := (hc k hlt).1
            clear hc hia x12
            have k1 : (k : Int) < r.bricks.length := by omega
            obtain ⟨s, hs⟩ : ∃ s, (bg r.bricks k).name = s := ⟨_, rfl⟩
            rw [hs] at c0
            by_cases q : 60 < s.size
            · have ga : decide ((60 : Int) < (s.size : Int)) = true := decide_eq_true (by omega)
              have gb : decide (60 < s.size) = true := decide_eq_true (by omega)
              have HR : Hid (R = false) := Lib.hid (by
                rw [Bool.eq_false_iff]
                intro h
                have := (HI.out.1 h).2.2.2.2.2.2 k hlt
                rw [hs] at this
                omega)
              clear q hs
              go_wp2_with fail
              go_ret
              exact ⟨ret_bool HR.out.symm, HX.out _ hB1⟩
            · have ga : decide ((60 : Int) < (s.size : Int)) = false := decide_eq_false (by omega)
              have gb : decide (60 < s.size) = false := decide_eq_false (by omega)
              have HN : Hid (∀ j, j < k + 1 → (bg r.bricks j).name.size ≤ 60) := Lib.hid fun j hj => by
                rcases (show j < k ∨ j = k by omega) with l | l
                · exact HO2.out j l
                · subst l; rw [hs]; omega
              clear q hs
              go_wp2_with fail
              go_round
              case rel => exact ⟨k + 1, by omega, by go_num, HN⟩
              case measure => simp [intOf]; omega
          · obtain rfl : k = r.bricks.length := by omega
            have HR : Hid (R = true) := Lib.hid (HI.out.2 ⟨by omega, by omega, by omega, by omega, by omega, HO1.out, HO2.out⟩)
            go_wp2_with fail
            go_ret
            exact ⟨ret_bool HR.out.symm, HX.out _ hB1⟩
set_option maxRecDepth 100000 in
set_option maxHeartbeats 8000000 in
theorem rneeded_any (r : SetR) (w : World) (hk : SetOK r) (hs : SetIn w r) :
    Calls Tryz.prog 29 #[.agg #[.string r.name, .int .i64 r.depth, .int .i64 r.low, .int .i64 r.high, .int .i64 r.length, .slice r.la r.lines.length r.lc, .int .i64 r.pipe, .int .i64 r.arbor, .int .i64 r.purchase, .int .i64 r.most, .int .i64 r.brake, .slice r.ia r.items.length r.ic, .slice r.ba r.bricks.length r.bc]] w fun e w' => e = .returned (.int .i64 (neededS r)) ∧ Below w.heap.size w w' := by
  have HN : Hid (r.purchase * weightS r - r.arbor = neededS r) := Lib.hid (by unfold neededS; rw [Int.mul_comm])
  have h1 := weight_bd hk
  have h2 := hk.purchase
  have h3 := hk.arbor
  have hb1 : 0 ≤ r.purchase * weightS r ∧ r.purchase * weightS r ≤ 2282909334 := by
    rcases (show r.purchase = 1 ∨ r.purchase = 2 by omega) with e | e <;> rw [e] <;> omega
  have s1 : IntKind.i64.wrap (r.purchase * weightS r) = r.purchase * weightS r := IntWalk.i64_in _ (by omega)
  have s2 : IntKind.i64.wrap (r.purchase * weightS r - r.arbor) = r.purchase * weightS r - r.arbor := IntWalk.i64_in _ (by omega)
  have HK := Lib.hid hk
  clear hk hb1 h1 h2 h3
  have hb0 := below_new w (.cells #[.string r.name, .int .i64 r.depth, .int .i64 r.low, .int .i64 r.high, .int .i64 r.length, .slice r.la r.lines.length r.lc, .int .i64 r.pipe, .int .i64 r.arbor, .int .i64 r.purchase, .int .i64 r.most, .int .i64 r.brake, .slice r.ia r.items.length r.ic, .slice r.ba r.bricks.length r.bc] 26)
  have HX : Hid (∀ wx, Below (w.alloc (.cells #[.string r.name, .int .i64 r.depth, .int .i64 r.low, .int .i64 r.high, .int .i64 r.length, .slice r.la r.lines.length r.lc, .int .i64 r.pipe, .int .i64 r.arbor, .int .i64 r.purchase, .int .i64 r.most, .int .i64 r.brake, .slice r.ia r.items.length r.ic, .slice r.ba r.bricks.length r.bc] 26)).heap.size (w.alloc (.cells #[.string r.name, .int .i64 r.depth, .int .i64 r.low, .int .i64 r.high, .int .i64 r.length, .slice r.la r.lines.length r.lc, .int .i64 r.pipe, .int .i64 r.arbor, .int .i64 r.purchase, .int .i64 r.most, .int .i64 r.brake, .slice r.ia r.items.length r.ic, .slice r.ba r.bricks.length r.bc] 26)) wx → Below w.heap.size w wx) := Lib.hid fun wx h => mono_in _ h
  have HS : Hid (∀ wx, Below (w.alloc (.cells #[.string r.name, .int .i64 r.depth, .int .i64 r.low, .int .i64 r.high, .int .i64 r.length, .slice r.la r.lines.length r.lc, .int .i64 r.pipe, .int .i64 r.arbor, .int .i64 r.purchase, .int .i64 r.most, .int .i64 r.brake, .slice r.ia r.items.length r.ic, .slice r.ba r.bricks.length r.bc] 26)).heap.size (w.alloc (.cells #[.string r.name, .int .i64 r.depth, .int .i64 r.low, .int .i64 r.high, .int .i64 r.length, .slice r.la r.lines.length r.lc, .int .i64 r.pipe, .int .i64 r.arbor, .int .i64 r.purchase, .int .i64 r.most, .int .i64 r.brake, .slice r.ia r.items.length r.ic, .slice r.ba r.bricks.length r.bc] 26)) wx → SetIn wx r) := Lib.hid fun wx h => (hs.grow hb0).grow h
  have HAT : Hid (∀ wx, Below (w.alloc (.cells #[.string r.name, .int .i64 r.depth, .int .i64 r.low, .int .i64 r.high, .int .i64 r.length, .slice r.la r.lines.length r.lc, .int .i64 r.pipe, .int .i64 r.arbor, .int .i64 r.purchase, .int .i64 r.most, .int .i64 r.brake, .slice r.ia r.items.length r.ic, .slice r.ba r.bricks.length r.bc] 26)).heap.size (w.alloc (.cells #[.string r.name, .int .i64 r.depth, .int .i64 r.low, .int .i64 r.high, .int .i64 r.length, .slice r.la r.lines.length r.lc, .int .i64 r.pipe, .int .i64 r.arbor, .int .i64 r.purchase, .int .i64 r.most, .int .i64 r.brake, .slice r.ia r.items.length r.ic, .slice r.ba r.bricks.length r.bc] 26)) wx → SetAt wx w.heap.size r) := Lib.hid fun wx h => (SetAt.new w r 26).below h (by simp)
  clear hb0 hs
  go_enter Tryz.func29, Tryz.ntmps29
  go_wp2_with fail
  generalize (w.alloc (.cells #[.string r.name, .int .i64 r.depth, .int .i64 r.low, .int .i64 r.high, .int .i64 r.length, .slice r.la r.lines.length r.lc, .int .i64 r.pipe, .int .i64 r.arbor, .int .i64 r.purchase, .int .i64 r.most, .int .i64 r.brake, .slice r.ia r.items.length r.ic, .slice r.ba r.bricks.length r.bc] 26)) = W0 at *
  have hB1 := Below.refl W0.heap.size W0
  have x0 : ∀ wx, Below W0.heap.size W0 wx → wx.cell? ⟨w.heap.size, 0, none⟩ = some (.string r.name) := fun wx h => (HAT.out wx h).1
  have x1 : ∀ wx, Below W0.heap.size W0 wx → wx.cell? ⟨w.heap.size, 1, none⟩ = some (.int .i64 r.depth) := fun wx h => (HAT.out wx h).2.1
  have x2 : ∀ wx, Below W0.heap.size W0 wx → wx.cell? ⟨w.heap.size, 2, none⟩ = some (.int .i64 r.low) := fun wx h => (HAT.out wx h).2.2.1
  have x3 : ∀ wx, Below W0.heap.size W0 wx → wx.cell? ⟨w.heap.size, 3, none⟩ = some (.int .i64 r.high) := fun wx h => (HAT.out wx h).2.2.2.1
  have x4 : ∀ wx, Below W0.heap.size W0 wx → wx.cell? ⟨w.heap.size, 4, none⟩ = some (.int .i64 r.length) := fun wx h => (HAT.out wx h).2.2.2.2.1
  have x5 : ∀ wx, Below W0.heap.size W0 wx → wx.cell? ⟨w.heap.size, 5, none⟩ = some (.slice r.la r.lines.length r.lc) := fun wx h => (HAT.out wx h).2.2.2.2.2.1
  have x6 : ∀ wx, Below W0.heap.size W0 wx → wx.cell? ⟨w.heap.size, 6, none⟩ = some (.int .i64 r.pipe) := fun wx h => (HAT.out wx h).2.2.2.2.2.2.1
  have x7 : ∀ wx, Below W0.heap.size W0 wx → wx.cell? ⟨w.heap.size, 7, none⟩ = some (.int .i64 r.arbor) := fun wx h => (HAT.out wx h).2.2.2.2.2.2.2.1
  have x8 : ∀ wx, Below W0.heap.size W0 wx → wx.cell? ⟨w.heap.size, 8, none⟩ = some (.int .i64 r.purchase) := fun wx h => (HAT.out wx h).2.2.2.2.2.2.2.2.1
  have x9 : ∀ wx, Below W0.heap.size W0 wx → wx.cell? ⟨w.heap.size, 9, none⟩ = some (.int .i64 r.most) := fun wx h => (HAT.out wx h).2.2.2.2.2.2.2.2.2.1
  have x10 : ∀ wx, Below W0.heap.size W0 wx → wx.cell? ⟨w.heap.size, 10, none⟩ = some (.int .i64 r.brake) := fun wx h => (HAT.out wx h).2.2.2.2.2.2.2.2.2.2.1
  have x11 : ∀ wx, Below W0.heap.size W0 wx → wx.cell? ⟨w.heap.size, 11, none⟩ = some (.slice r.ia r.items.length r.ic) := fun wx h => (HAT.out wx h).2.2.2.2.2.2.2.2.2.2.2.1
  have x12 : ∀ wx, Below W0.heap.size W0 wx → wx.cell? ⟨w.heap.size, 12, none⟩ = some (.slice r.ba r.bricks.length r.bc) := fun wx h => (HAT.out wx h).2.2.2.2.2.2.2.2.2.2.2.2
  refine wp_region_held_drew (S := (fun w' => Below W0.heap.size W0 w')) (by kernel_rfl) (hB1.drew) (fun hHeld => ?_)
  refine wpAnyH_take (i := 0) (oi := _) (v := ?_) rfl (by kernel_rfl) (by kernel_rfl) (by kernel_rfl) (fun _ _ _ h => h) (Or.inl ⟨by rfl, ?_⟩) (by assumption) ?_
  rotate_left
  · (intro w hSw; (try dsimp only at hSw); (try simp only [List.getElem_toArray, List.getElem_cons_zero]); go_simp; try with_reducible rfl)
  simp only [Act.put, List.setIfInBounds_toArray, List.set_cons_zero, List.set_cons_succ, List.getElem_toArray, List.getElem_cons_zero]
  refine wpAnyH_take (i := 1) (oi := _) (v := ?_) rfl (by kernel_rfl) (by kernel_rfl) (by kernel_rfl) (fun _ _ _ h => h) (Or.inl ⟨by rfl, ?_⟩) (by assumption) ?_
  rotate_left
  · (intro w hSw; (try dsimp only at hSw); (try simp only [List.getElem_toArray, List.getElem_cons_succ, List.getElem_cons_zero]); go_simp; try with_reducible rfl)
  simp only [Act.put, List.setIfInBounds_toArray, List.set_cons_zero, List.set_cons_succ, List.getElem_toArray, List.getElem_cons_succ, List.getElem_cons_zero]
  refine wpAnyH_take (i := 2) (oi := _) (v := ?_) rfl (by kernel_rfl) (by kernel_rfl) (by kernel_rfl) (fun _ _ _ h => h) (Or.inl ⟨by rfl, ?_⟩) (by assumption) ?_
  rotate_left
  · (intro w hSw; (try dsimp only at hSw); (try simp only [List.getElem_toArray, List.getElem_cons_succ, List.getElem_cons_zero]); go_simp; try with_reducible rfl)
  simp only [Act.put, List.setIfInBounds_toArray, List.set_cons_zero, List.set_cons_succ, List.getElem_toArray, List.getElem_cons_succ, List.getElem_cons_zero]
  refine wpAnyH_take (i := 5) (oi := _) (v := ?_) rfl (by kernel_rfl) (by kernel_rfl) (by kernel_rfl) (fun _ _ _ h => h) (Or.inl ⟨by rfl, ?_⟩) (by assumption) ?_
  rotate_left
  · (intro w hSw; (try dsimp only at hSw); (try simp only [List.getElem_toArray, List.getElem_cons_succ, List.getElem_cons_zero]); go_simp; try with_reducible rfl)
  simp only [Act.put, List.setIfInBounds_toArray, List.set_cons_zero, List.set_cons_succ, List.getElem_toArray, List.getElem_cons_succ, List.getElem_cons_zero]
  refine wpAnyH_take (i := 6) (oi := _) (v := ?_) rfl (by kernel_rfl) (by kernel_rfl) (by kernel_rfl) (fun _ _ _ h => h) (Or.inl ⟨by rfl, ?_⟩) (by assumption) ?_
  rotate_left
  · (intro w hSw; (try dsimp only at hSw); (try simp only [List.getElem_toArray, List.getElem_cons_succ, List.getElem_cons_zero]); go_simp; try with_reducible rfl)
  simp only [Act.put, List.setIfInBounds_toArray, List.set_cons_zero, List.set_cons_succ, List.getElem_toArray, List.getElem_cons_succ, List.getElem_cons_zero]
  refine wpAnyH_ready (rs := [3]) (by kernel_rfl) (by simp) ?_
  refine AllReadyH.cons (o := _) rfl (fun K hK => ?_) AllReadyH.nil
  try simp only [List.getElem_toArray, List.getElem_cons_succ, List.getElem_cons_zero]
  go_simp
  (go_at_call 52; go_split_ands; (with_reducible refine (rweight_any r _ HK.out (HS.out _ hHeld)).mono ?_); rintro e w2 ⟨rfl, hb⟩)
  go_wp2_with fail
  refine hK.out _ _ (hHeld.trans (hb.mono hHeld.size)) (fun hHeld => ?_)
  clear hK K
  try simp only [Act.put, List.setIfInBounds_toArray, List.set_cons_zero, List.set_cons_succ, List.getElem_toArray, List.getElem_cons_succ, List.getElem_cons_zero]
  refine wpAnyH_take (i := 4) (oi := _) (v := ?_) rfl (by kernel_rfl) (by kernel_rfl) (by kernel_rfl) (fun _ _ _ h => h) (Or.inl ⟨by rfl, ?_⟩) (by assumption) ?_
  rotate_left
  · (intro w hSw; (try dsimp only at hSw); (try simp only [List.getElem_toArray, List.getElem_cons_succ, List.getElem_cons_zero]); go_simp; try with_reducible rfl)
  simp only [Act.put, List.setIfInBounds_toArray, List.set_cons_zero, List.set_cons_succ, List.getElem_toArray, List.getElem_cons_succ, List.getElem_cons_zero]
  refine wpAnyH_take (i := 7) (oi := _) (v := ?_) rfl (by kernel_rfl) (by kernel_rfl) (by kernel_rfl) (fun _ _ _ h => h) (Or.inl ⟨by rfl, ?_⟩) (by assumption) ?_
  rotate_left
  · (intro w hSw; (try dsimp only at hSw); (try simp only [List.getElem_toArray, List.getElem_cons_succ, List.getElem_cons_zero]); go_simp; try with_reducible rfl)
  simp only [Act.put, List.setIfInBounds_toArray, List.set_cons_zero, List.set_cons_succ, List.getElem_toArray, List.getElem_cons_succ, List.getElem_cons_zero]
  refine wpAnyH_take (i := 8) (oi := _) (v := ?_) rfl (by kernel_rfl) (by kernel_rfl) (by kernel_rfl) (fun _ _ _ h => h) (Or.inl ⟨by rfl, ?_⟩) (by assumption) ?_
  rotate_left
  · (intro w hSw; (try dsimp only at hSw); (try simp only [List.getElem_toArray, List.getElem_cons_succ, List.getElem_cons_zero]); go_simp; try with_reducible rfl)
  simp only [Act.put, List.setIfInBounds_toArray, List.set_cons_zero, List.set_cons_succ, List.getElem_toArray, List.getElem_cons_succ, List.getElem_cons_zero]
  refine wpAnyH_done (by kernel_rfl) ?_ _
  go_wp2_with fail
  go_ret
  exact ⟨ret_int HN.out, HX.out _ hHeld⟩
set_option maxRecDepth 100000 in
set_option maxHeartbeats 8000000 in
theorem rfill_any (r : SetR) (w : World) (hk : SetOK r) (h7 : countP r.bricks ≤ 700) (hs : SetIn w r) :
    Calls Tryz.prog 10 #[.agg #[.string r.name, .int .i64 r.depth, .int .i64 r.low, .int .i64 r.high, .int .i64 r.length, .slice r.la r.lines.length r.lc, .int .i64 r.pipe, .int .i64 r.arbor, .int .i64 r.purchase, .int .i64 r.most, .int .i64 r.brake, .slice r.ia r.items.length r.ic, .slice r.ba r.bricks.length r.bc]] w fun e w' => Hid (∃ v, e = .returned v ∧ NumsV w'.heap.size w' v (listS (firstP (nearP (neededS r) r.bricks) (nearP (neededS r) r.bricks) r.bricks))) ∧ Below w.heap.size w w' := by
  have hn := needed_bd hk
  have HNB : Hid (-1099511627776 ≤ neededS r ∧ neededS r ≤ 1099511627776) := Lib.hid (by omega)
  obtain ⟨hl8, _, _, hok⟩ := brick_ok hk.bricks
  have HOK := Lib.hid hok
  have H7 := Lib.hid h7
  have HK := Lib.hid hk
  clear hk hok h7 hn
  have hb0 := below_new w (.cells #[.string r.name, .int .i64 r.depth, .int .i64 r.low, .int .i64 r.high, .int .i64 r.length, .slice r.la r.lines.length r.lc, .int .i64 r.pipe, .int .i64 r.arbor, .int .i64 r.purchase, .int .i64 r.most, .int .i64 r.brake, .slice r.ia r.items.length r.ic, .slice r.ba r.bricks.length r.bc] 26)
  have HX : Hid (∀ wx, Below (w.alloc (.cells #[.string r.name, .int .i64 r.depth, .int .i64 r.low, .int .i64 r.high, .int .i64 r.length, .slice r.la r.lines.length r.lc, .int .i64 r.pipe, .int .i64 r.arbor, .int .i64 r.purchase, .int .i64 r.most, .int .i64 r.brake, .slice r.ia r.items.length r.ic, .slice r.ba r.bricks.length r.bc] 26)).heap.size (w.alloc (.cells #[.string r.name, .int .i64 r.depth, .int .i64 r.low, .int .i64 r.high, .int .i64 r.length, .slice r.la r.lines.length r.lc, .int .i64 r.pipe, .int .i64 r.arbor, .int .i64 r.purchase, .int .i64 r.most, .int .i64 r.brake, .slice r.ia r.items.length r.ic, .slice r.ba r.bricks.length r.bc] 26)) wx → Below w.heap.size w wx) := Lib.hid fun wx h => mono_in _ h
  have HS : Hid (∀ wx, Below (w.alloc (.cells #[.string r.name, .int .i64 r.depth, .int .i64 r.low, .int .i64 r.high, .int .i64 r.length, .slice r.la r.lines.length r.lc, .int .i64 r.pipe, .int .i64 r.arbor, .int .i64 r.purchase, .int .i64 r.most, .int .i64 r.brake, .slice r.ia r.items.length r.ic, .slice r.ba r.bricks.length r.bc] 26)).heap.size (w.alloc (.cells #[.string r.name, .int .i64 r.depth, .int .i64 r.low, .int .i64 r.high, .int .i64 r.length, .slice r.la r.lines.length r.lc, .int .i64 r.pipe, .int .i64 r.arbor, .int .i64 r.purchase, .int .i64 r.most, .int .i64 r.brake, .slice r.ia r.items.length r.ic, .slice r.ba r.bricks.length r.bc] 26)) wx → SetIn wx r) := Lib.hid fun wx h => (hs.grow hb0).grow h
  have HAT : Hid (∀ wx, Below (w.alloc (.cells #[.string r.name, .int .i64 r.depth, .int .i64 r.low, .int .i64 r.high, .int .i64 r.length, .slice r.la r.lines.length r.lc, .int .i64 r.pipe, .int .i64 r.arbor, .int .i64 r.purchase, .int .i64 r.most, .int .i64 r.brake, .slice r.ia r.items.length r.ic, .slice r.ba r.bricks.length r.bc] 26)).heap.size (w.alloc (.cells #[.string r.name, .int .i64 r.depth, .int .i64 r.low, .int .i64 r.high, .int .i64 r.length, .slice r.la r.lines.length r.lc, .int .i64 r.pipe, .int .i64 r.arbor, .int .i64 r.purchase, .int .i64 r.most, .int .i64 r.brake, .slice r.ia r.items.length r.ic, .slice r.ba r.bricks.length r.bc] 26)) wx → SetAt wx w.heap.size r) := Lib.hid fun wx h => (SetAt.new w r 26).below h (by simp)
  clear hb0 hs
  go_enter Tryz.func10, Tryz.ntmps10
  go_wp2_with fail
  generalize (w.alloc (.cells #[.string r.name, .int .i64 r.depth, .int .i64 r.low, .int .i64 r.high, .int .i64 r.length, .slice r.la r.lines.length r.lc, .int .i64 r.pipe, .int .i64 r.arbor, .int .i64 r.purchase, .int .i64 r.most, .int .i64 r.brake, .slice r.ia r.items.length r.ic, .slice r.ba r.bricks.length r.bc] 26)) = W0 at *
  have hB1 := Below.refl W0.heap.size W0
  have x0 : ∀ wx, Below W0.heap.size W0 wx → wx.cell? ⟨w.heap.size, 0, none⟩ = some (.string r.name) := fun wx h => (HAT.out wx h).1
  have x1 : ∀ wx, Below W0.heap.size W0 wx → wx.cell? ⟨w.heap.size, 1, none⟩ = some (.int .i64 r.depth) := fun wx h => (HAT.out wx h).2.1
  have x2 : ∀ wx, Below W0.heap.size W0 wx → wx.cell? ⟨w.heap.size, 2, none⟩ = some (.int .i64 r.low) := fun wx h => (HAT.out wx h).2.2.1
  have x3 : ∀ wx, Below W0.heap.size W0 wx → wx.cell? ⟨w.heap.size, 3, none⟩ = some (.int .i64 r.high) := fun wx h => (HAT.out wx h).2.2.2.1
  have x4 : ∀ wx, Below W0.heap.size W0 wx → wx.cell? ⟨w.heap.size, 4, none⟩ = some (.int .i64 r.length) := fun wx h => (HAT.out wx h).2.2.2.2.1
  have x5 : ∀ wx, Below W0.heap.size W0 wx → wx.cell? ⟨w.heap.size, 5, none⟩ = some (.slice r.la r.lines.length r.lc) := fun wx h => (HAT.out wx h).2.2.2.2.2.1
  have x6 : ∀ wx, Below W0.heap.size W0 wx → wx.cell? ⟨w.heap.size, 6, none⟩ = some (.int .i64 r.pipe) := fun wx h => (HAT.out wx h).2.2.2.2.2.2.1
  have x7 : ∀ wx, Below W0.heap.size W0 wx → wx.cell? ⟨w.heap.size, 7, none⟩ = some (.int .i64 r.arbor) := fun wx h => (HAT.out wx h).2.2.2.2.2.2.2.1
  have x8 : ∀ wx, Below W0.heap.size W0 wx → wx.cell? ⟨w.heap.size, 8, none⟩ = some (.int .i64 r.purchase) := fun wx h => (HAT.out wx h).2.2.2.2.2.2.2.2.1
  have x9 : ∀ wx, Below W0.heap.size W0 wx → wx.cell? ⟨w.heap.size, 9, none⟩ = some (.int .i64 r.most) := fun wx h => (HAT.out wx h).2.2.2.2.2.2.2.2.2.1
  have x10 : ∀ wx, Below W0.heap.size W0 wx → wx.cell? ⟨w.heap.size, 10, none⟩ = some (.int .i64 r.brake) := fun wx h => (HAT.out wx h).2.2.2.2.2.2.2.2.2.2.1
  have x11 : ∀ wx, Below W0.heap.size W0 wx → wx.cell? ⟨w.heap.size, 11, none⟩ = some (.slice r.ia r.items.length r.ic) := fun wx h => (HAT.out wx h).2.2.2.2.2.2.2.2.2.2.2.1
  have x12 : ∀ wx, Below W0.heap.size W0 wx → wx.cell? ⟨w.heap.size, 12, none⟩ = some (.slice r.ba r.bricks.length r.bc) := fun wx h => (HAT.out wx h).2.2.2.2.2.2.2.2.2.2.2.2
  refine wp_region_held_drew (S := (fun w' => Below W0.heap.size W0 w')) (by kernel_rfl) (hB1.drew) (fun hHeld => ?_)
  refine wpAnyH_take (i := 0) (oi := _) (v := ?_) rfl (by kernel_rfl) (by kernel_rfl) (by kernel_rfl) (fun _ _ _ h => h) (Or.inl ⟨by rfl, ?_⟩) (by assumption) ?_
  rotate_left
  · (intro w hSw; (try dsimp only at hSw); (try simp only [List.getElem_toArray, List.getElem_cons_zero]); go_simp; try with_reducible rfl)
  simp only [Act.put, List.setIfInBounds_toArray, List.set_cons_zero, List.set_cons_succ, List.getElem_toArray, List.getElem_cons_zero]
  refine wpAnyH_take (i := 1) (oi := _) (v := ?_) rfl (by kernel_rfl) (by kernel_rfl) (by kernel_rfl) (fun _ _ _ h => h) (Or.inl ⟨by rfl, ?_⟩) (by assumption) ?_
  rotate_left
  · (intro w hSw; (try dsimp only at hSw); (try simp only [List.getElem_toArray, List.getElem_cons_succ, List.getElem_cons_zero]); go_simp; try with_reducible rfl)
  simp only [Act.put, List.setIfInBounds_toArray, List.set_cons_zero, List.set_cons_succ, List.getElem_toArray, List.getElem_cons_succ, List.getElem_cons_zero]
  refine wpAnyH_take (i := 2) (oi := _) (v := ?_) rfl (by kernel_rfl) (by kernel_rfl) (by kernel_rfl) (fun _ _ _ h => h) (Or.inl ⟨by rfl, ?_⟩) (by assumption) ?_
  rotate_left
  · (intro w hSw; (try dsimp only at hSw); (try simp only [List.getElem_toArray, List.getElem_cons_succ, List.getElem_cons_zero]); go_simp; try with_reducible rfl)
  simp only [Act.put, List.setIfInBounds_toArray, List.set_cons_zero, List.set_cons_succ, List.getElem_toArray, List.getElem_cons_succ, List.getElem_cons_zero]
  refine wpAnyH_ready (rs := [3]) (by kernel_rfl) (by simp) ?_
  refine AllReadyH.cons (o := _) rfl (fun K hK => ?_) AllReadyH.nil
  try simp only [List.getElem_toArray, List.getElem_cons_succ, List.getElem_cons_zero]
  go_simp
  (go_at_call 29; go_split_ands; (with_reducible refine (rneeded_any r _ HK.out (HS.out _ hHeld)).mono ?_); rintro e w2 ⟨rfl, hb⟩)
  go_wp2_with fail
  refine hK.out _ _ (hHeld.trans (hb.mono hHeld.size)) (fun hHeld => ?_)
  clear hK K
  try simp only [Act.put, List.setIfInBounds_toArray, List.set_cons_zero, List.set_cons_succ, List.getElem_toArray, List.getElem_cons_succ, List.getElem_cons_zero]
  refine wpAnyH_ready (rs := [4]) (by kernel_rfl) (by simp) ?_
  refine AllReadyH.cons (o := _) rfl (fun K hK => ?_) AllReadyH.nil
  try simp only [List.getElem_toArray, List.getElem_cons_succ, List.getElem_cons_zero]
  go_simp
  (go_at_call 28; go_split_ands; (with_reducible refine (refnear_any (neededS r) r.ba r.bricks r.bc _ HNB.out HOK.out hl8 H7.out (HS.out _ hHeld).bricks).mono ?_); rintro e w3 ⟨hx, hb⟩; obtain ⟨v, rfl, hv⟩ := hx.out; have HV := Lib.hid hv; clear hx hv)
  go_wp2_with fail
  refine hK.out _ _ (hHeld.trans (hb.mono hHeld.size)) (fun hHeld => ?_)
  clear hK K
  try simp only [Act.put, List.setIfInBounds_toArray, List.set_cons_zero, List.set_cons_succ, List.getElem_toArray, List.getElem_cons_succ, List.getElem_cons_zero]
  refine wpAnyH_take (i := 5) (oi := _) (v := ?_) rfl (by kernel_rfl) (by kernel_rfl) (by kernel_rfl) (fun _ _ _ h => h) (Or.inl ⟨by rfl, ?_⟩) (by assumption) ?_
  rotate_left
  · (intro w hSw; (try dsimp only at hSw); (try simp only [List.getElem_toArray, List.getElem_cons_succ, List.getElem_cons_zero]); go_simp; try with_reducible rfl)
  simp only [Act.put, List.setIfInBounds_toArray, List.set_cons_zero, List.set_cons_succ, List.getElem_toArray, List.getElem_cons_succ, List.getElem_cons_zero]
  refine wpAnyH_done (by kernel_rfl) ?_ _
  go_wp2_with fail
  go_ret
  exact ⟨Lib.hid ⟨_, rfl, HV.out⟩, HX.out _ hHeld⟩
end Go.Proofs.YtbniclapaigkkaaGreat
