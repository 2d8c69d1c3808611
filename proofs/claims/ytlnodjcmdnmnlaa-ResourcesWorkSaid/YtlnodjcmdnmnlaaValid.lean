/-
  THE WALKS of valid, Within (package resources), Valid, Beyond (reference 42).
-/
import Derived.Test.YtlnodjcmdnmnlaaStepsP
import Derived.IntWalk
import Derived.Outline
namespace Go.Proofs.Ytlnodjcmdnmnlaa
open Go.RowKit Go.Shelf

def stepB (L : List (Int × Int)) (k : Nat) : Bool := decide ((og L k).1 ≤ 1099511627776) && (decide (k = 0) || decide ((og L (k - 1)).1 < (og L k).1)) && decide (0 ≤ (og L k).2) && decide ((og L k).2 ≤ 1099511627776)
def okS (L : List (Int × Int)) : Nat → Bool
  | 0 => true
  | k + 1 => okS L k && stepB L k
def validB (L : List (Int × Int)) : Bool := decide (1 ≤ L.length) && decide (L.length ≤ 10000) && decide ((og L 0).1 = 0) && okS L L.length
theorem okS_false (L : List (Int × Int)) (k n : Nat) (hk : k < n) (h : stepB L k = false) : okS L n = false := by
  induction n with
  | zero => omega
  | succ n ih =>
    simp only [okS]
    rcases Nat.lt_or_ge k n with l | l
    · rw [ih l]; rfl
    · obtain rfl : k = n := by omega
      rw [h, Bool.and_false]
theorem okS_at (L : List (Int × Int)) (n : Nat) (h : okS L n = true) (k : Nat) (hk : k < n) : stepB L k = true := by
  cases e : stepB L k
  · rw [okS_false L k n hk e] at h; cases h
  · rfl
theorem okS_of (L : List (Int × Int)) (n : Nat) (h : ∀ k, k < n → stepB L k = true) : okS L n = true := by
  induction n with
  | zero => rfl
  | succ n ih => simp only [okS]; rw [ih fun k hk => h k (by omega), h n (by omega)]; rfl
theorem valid_step {L : List (Int × Int)} (h : validB L = true) : 1 ≤ L.length ∧ L.length ≤ 10000 ∧ (og L 0).1 = 0 ∧ ∀ k, k < L.length → (og L k).1 ≤ 1099511627776 ∧ (0 < k → (og L (k - 1)).1 < (og L k).1) ∧ 0 ≤ (og L k).2 ∧ (og L k).2 ≤ 1099511627776 := by
  unfold validB at h
  simp only [Bool.and_eq_true, decide_eq_true_eq] at h
  obtain ⟨⟨⟨h1, h2⟩, h3⟩, h4⟩ := h
  refine ⟨h1, h2, h3, fun k hk => ?_⟩
  have := okS_at L _ h4 k hk
  unfold stepB at this
  simp only [Bool.and_eq_true, Bool.or_eq_true, decide_eq_true_eq] at this
  omega
theorem valid_of {L : List (Int × Int)} (h1 : 1 ≤ L.length) (h2 : L.length ≤ 10000) (h3 : (og L 0).1 = 0) (h : ∀ k, k < L.length → (og L k).1 ≤ 1099511627776 ∧ (0 < k → (og L (k - 1)).1 < (og L k).1) ∧ 0 ≤ (og L k).2 ∧ (og L k).2 ≤ 1099511627776) : validB L = true := by
  unfold validB
  rw [decide_eq_true h1, decide_eq_true h2, decide_eq_true h3, okS_of L _ fun k hk => ?_]
  · rfl
  · obtain ⟨a, b, c, d⟩ := h k hk
    unfold stepB
    simp only [Bool.and_eq_true, Bool.or_eq_true, decide_eq_true_eq]
    refine ⟨⟨⟨a, ?_⟩, c⟩, d⟩
    rcases Nat.eq_zero_or_pos k with e | e
    · exact .inl e
    · exact .inr (b e)

set_option maxRecDepth 100000 in
set_option maxHeartbeats 16000000 in
theorem valid_any (a : Option Addr) (L : List (Int × Int)) (cap : Nat) (w : World) (hl : L.length ≤ 1000000) (hL : Loads w.heap.size w a L) :
    Calls Try.prog 30 #[.slice a L.length cap] w fun e w' => e = .returned (.bool (validB L)) ∧ Below w.heap.size w w' := by
  have HL := Lib.hid hL; clear hL
  by_cases h1 : 1 ≤ L.length
  · by_cases h2 : L.length ≤ 10000
    · obtain ⟨b0, off0, e0, hb0, hc0⟩ := HL.out (by omega)
      have g0 := (hc0 0 (by omega)).1
      have HE0 := Lib.hid e0
      rw [Nat.zero_mul, Nat.add_zero] at g0
      clear hc0 e0
      by_cases h3 : (og L 0).1 = 0
      · rw [h3] at g0
        have HV : Hid (validB L = okS L L.length) := Lib.hid (by unfold validB; rw [decide_eq_true h1, decide_eq_true h2, decide_eq_true h3]; rfl)
        clear h3
        obtain rfl := HE0.out
        clear HE0
        go_enter Try.func30, Try.ntmps30
        go_wp2_with fail
        clear g0
        go_loopw [22] (fun i wr => ∃ k : Nat, k ≤ L.length ∧ i = .int .i64 k ∧ Below w.heap.size w wr ∧ Hid (okS L k = true)) (fun i _ => L.length - (intOf i).toNat)
        case atStart => exact ⟨0, Nat.zero_le _, rfl, Below.refl _ _, Lib.hid rfl⟩
        case round =>
          obtain ⟨k, hk, rfl, hB, HO⟩ := hrel
          have hbs := hB.size
          by_cases hlt : k < L.length
          · obtain ⟨_, _, e, hb, hc⟩ := HL.out (by omega)
            cases e
            have D0 : ∀ j, j < L.length → wr.cell? ⟨b0, off0 + j * 2, none⟩ = some (.int .i64 (og L j).1) := fun j hj => (hB.cell (p := ⟨b0, off0 + j * 2, none⟩) hb).trans (hc j hj).1
            have D1 : ∀ j, j < L.length → wr.cell? ⟨b0, off0 + j * 2 + 1, none⟩ = some (.int .i64 (og L j).2) := fun j hj => (hB.cell (p := ⟨b0, off0 + j * 2 + 1, none⟩) hb).trans (hc j hj).2
            have hbw : b0 < wr.heap.size := Nat.lt_of_lt_of_le hb hbs
            have d0 := D0 k hlt
            have d1 := D1 k hlt
            have d2 := D0 (k - 1) (by omega)
            clear hc D0 D1
            by_cases hA : 1099511627776 < (og L k).1
            · have HF : Hid (validB L = false) := Lib.hid (by unfold validB; rw [okS_false L k _ hlt (by unfold stepB; rw [decide_eq_false (show ¬ (og L k).1 ≤ 1099511627776 by omega)]; simp), Bool.and_false])
              have z0 : decide (1099511627776 < (og L k).1) = true := decide_eq_true hA
              go_wp2_with fail
              go_quiet (fail)
              clear z0
              go_wp2_with fail
              go_ret
              exact ⟨ret_bool HF.out.symm, below_drewN (hB.alloc hbs _) _⟩
            · by_cases hk0 : 0 < k
              · by_cases hQ : (og L k).1 ≤ (og L (k - 1)).1
                · have HF : Hid (validB L = false) := Lib.hid (by unfold validB; rw [okS_false L k _ hlt (by unfold stepB; rw [decide_eq_false (show ¬ k = 0 by omega), decide_eq_false (show ¬ (og L (k - 1)).1 < (og L k).1 by omega)]; simp), Bool.and_false])
                  have z0 : decide (1099511627776 < (og L k).1) = false := decide_eq_false hA
                  have z1 : decide ((og L k).1 ≤ (og L (k - 1)).1) = true := decide_eq_true hQ
                  have y0 : decide ((0 : Int) < (k : Int)) = true := decide_eq_true (by omega)
                  have y1 : decide (0 < k) = true := decide_eq_true (by omega)
                  have y2 : IntKind.i64.wrap ((k : Int) - 1) = (k : Int) - 1 := IntWalk.i64_in _ (by omega)
                  have y3 : ((k : Int) - 1).toNat = k - 1 := by omega
                  have y4 : (0 : Int) ≤ (k : Int) - 1 := by omega
                  have y5 : k - 1 < L.length := by omega
                  have y6 : (1 : Int) ≤ (k : Int) := by omega
                  have y7 : (k : Int) - 1 < (L.length : Int) := by omega
                  go_wp2_with fail
                  go_quiet (fail)
                  clear z0 z1 y0 y1 y2 y3 y4 y5 y6 y7
                  go_wp2_with fail
                  go_ret
                  exact ⟨ret_bool HF.out.symm, below_drewN (hB.alloc hbs _) _⟩
                · by_cases hN : (og L k).2 < 0
                  · have HF : Hid (validB L = false) := Lib.hid (by unfold validB; rw [okS_false L k _ hlt (by unfold stepB; rw [decide_eq_false (show ¬ 0 ≤ (og L k).2 by omega)]; simp), Bool.and_false])
                    have z0 : decide (1099511627776 < (og L k).1) = false := decide_eq_false hA
                    have z1 : decide ((og L k).1 ≤ (og L (k - 1)).1) = false := decide_eq_false hQ
                    have z2 : decide ((og L k).2 < 0) = true := decide_eq_true hN
                    have y0 : decide ((0 : Int) < (k : Int)) = true := decide_eq_true (by omega)
                    have y1 : decide (0 < k) = true := decide_eq_true (by omega)
                    have y2 : IntKind.i64.wrap ((k : Int) - 1) = (k : Int) - 1 := IntWalk.i64_in _ (by omega)
                    have y3 : ((k : Int) - 1).toNat = k - 1 := by omega
                    have y4 : (0 : Int) ≤ (k : Int) - 1 := by omega
                    have y5 : k - 1 < L.length := by omega
                    have y6 : (1 : Int) ≤ (k : Int) := by omega
                    have y7 : (k : Int) - 1 < (L.length : Int) := by omega
                    go_wp2_with fail
                    go_quiet (fail)
                    clear z0 z1 z2 y0 y1 y2 y3 y4 y5 y6 y7
                    go_wp2_with fail
                    go_ret
                    exact ⟨ret_bool HF.out.symm, below_drewN (hB.alloc hbs _) _⟩
                  · by_cases hW : 1099511627776 < (og L k).2
                    · have HF : Hid (validB L = false) := Lib.hid (by unfold validB; rw [okS_false L k _ hlt (by unfold stepB; rw [decide_eq_false (show ¬ (og L k).2 ≤ 1099511627776 by omega), Bool.and_false]), Bool.and_false])
                      have z0 : decide (1099511627776 < (og L k).1) = false := decide_eq_false hA
                      have z1 : decide ((og L k).1 ≤ (og L (k - 1)).1) = false := decide_eq_false hQ
                      have z2 : decide ((og L k).2 < 0) = false := decide_eq_false hN
                      have z3 : decide (1099511627776 < (og L k).2) = true := decide_eq_true hW
                      have y0 : decide ((0 : Int) < (k : Int)) = true := decide_eq_true (by omega)
                      have y1 : decide (0 < k) = true := decide_eq_true (by omega)
                      have y2 : IntKind.i64.wrap ((k : Int) - 1) = (k : Int) - 1 := IntWalk.i64_in _ (by omega)
                      have y3 : ((k : Int) - 1).toNat = k - 1 := by omega
                      have y4 : (0 : Int) ≤ (k : Int) - 1 := by omega
                      have y5 : k - 1 < L.length := by omega
                      have y6 : (1 : Int) ≤ (k : Int) := by omega
                      have y7 : (k : Int) - 1 < (L.length : Int) := by omega
                      go_wp2_with fail
                      go_quiet (fail)
                      clear z0 z1 z2 z3 y0 y1 y2 y3 y4 y5 y6 y7
                      go_wp2_with fail
                      go_ret
                      exact ⟨ret_bool HF.out.symm, below_drewN (hB.alloc hbs _) _⟩
                    · have HS : Hid (okS L (k + 1) = true) := Lib.hid (by simp only [okS]; rw [HO.out, Bool.true_and]; unfold stepB; simp only [Bool.and_eq_true, Bool.or_eq_true, decide_eq_true_eq]; omega)
                      have z0 : decide (1099511627776 < (og L k).1) = false := decide_eq_false hA
                      have z1 : decide ((og L k).1 ≤ (og L (k - 1)).1) = false := decide_eq_false hQ
                      have z2 : decide ((og L k).2 < 0) = false := decide_eq_false hN
                      have z3 : decide (1099511627776 < (og L k).2) = false := decide_eq_false hW
                      have y0 : decide ((0 : Int) < (k : Int)) = true := decide_eq_true (by omega)
                      have y1 : decide (0 < k) = true := decide_eq_true (by omega)
                      have y2 : IntKind.i64.wrap ((k : Int) - 1) = (k : Int) - 1 := IntWalk.i64_in _ (by omega)
                      have y3 : ((k : Int) - 1).toNat = k - 1 := by omega
                      have y4 : (0 : Int) ≤ (k : Int) - 1 := by omega
                      have y5 : k - 1 < L.length := by omega
                      have y6 : (1 : Int) ≤ (k : Int) := by omega
                      have y7 : (k : Int) - 1 < (L.length : Int) := by omega
                      go_wp2_with fail
                      go_quiet (fail)
                      clear z0 z1 z2 z3 y0 y1 y2 y3 y4 y5 y6 y7
                      go_wp2_with fail
                      go_roundw
                      case rel => exact ⟨k + 1, by omega, by go_num, below_drewN (hB.alloc hbs _) _, HS⟩
                      case measure => simp [intOf]; omega
              · by_cases hN : (og L k).2 < 0
                · have HF : Hid (validB L = false) := Lib.hid (by unfold validB; rw [okS_false L k _ hlt (by unfold stepB; rw [decide_eq_false (show ¬ 0 ≤ (og L k).2 by omega)]; simp), Bool.and_false])
                  have z0 : decide (1099511627776 < (og L k).1) = false := decide_eq_false hA
                  have z1 : decide ((og L k).2 < 0) = true := decide_eq_true hN
                  have y0 : decide ((0 : Int) < (k : Int)) = false := decide_eq_false (by omega)
                  have y1 : decide (0 < k) = false := decide_eq_false (by omega)
                  go_wp2_with fail
                  go_quiet (fail)
                  clear z0 z1 y0 y1
                  go_wp2_with fail
                  go_ret
                  exact ⟨ret_bool HF.out.symm, below_drewN (hB.alloc hbs _) _⟩
                · by_cases hW : 1099511627776 < (og L k).2
                  · have HF : Hid (validB L = false) := Lib.hid (by unfold validB; rw [okS_false L k _ hlt (by unfold stepB; rw [decide_eq_false (show ¬ (og L k).2 ≤ 1099511627776 by omega), Bool.and_false]), Bool.and_false])
                    have z0 : decide (1099511627776 < (og L k).1) = false := decide_eq_false hA
                    have z1 : decide ((og L k).2 < 0) = false := decide_eq_false hN
                    have z2 : decide (1099511627776 < (og L k).2) = true := decide_eq_true hW
                    have y0 : decide ((0 : Int) < (k : Int)) = false := decide_eq_false (by omega)
                    have y1 : decide (0 < k) = false := decide_eq_false (by omega)
                    go_wp2_with fail
                    go_quiet (fail)
                    clear z0 z1 z2 y0 y1
                    go_wp2_with fail
                    go_ret
                    exact ⟨ret_bool HF.out.symm, below_drewN (hB.alloc hbs _) _⟩
                  · have HS : Hid (okS L (k + 1) = true) := Lib.hid (by simp only [okS]; rw [HO.out, Bool.true_and]; unfold stepB; simp only [Bool.and_eq_true, Bool.or_eq_true, decide_eq_true_eq]; omega)
                    have z0 : decide (1099511627776 < (og L k).1) = false := decide_eq_false hA
                    have z1 : decide ((og L k).2 < 0) = false := decide_eq_false hN
                    have z2 : decide (1099511627776 < (og L k).2) = false := decide_eq_false hW
                    have y0 : decide ((0 : Int) < (k : Int)) = false := decide_eq_false (by omega)
                    have y1 : decide (0 < k) = false := decide_eq_false (by omega)
                    go_wp2_with fail
                    go_quiet (fail)
                    clear z0 z1 z2 y0 y1
                    go_wp2_with fail
                    go_roundw
                    case rel => exact ⟨k + 1, by omega, by go_num, below_drewN (hB.alloc hbs _) _, HS⟩
                    case measure => simp [intOf]; omega
          · obtain rfl : k = L.length := by omega
            go_wp2_with fail
            go_ret
            exact ⟨ret_bool (by rw [HV.out, HO.out]), hB⟩
      · have HV : Hid (validB L = false) := Lib.hid (by unfold validB; rw [decide_eq_false h3]; simp)
        have z0 : ((og L 0).1 != 0) = true := bne_iff_ne.2 h3
        clear h3
        obtain rfl := HE0.out
        go_enter Try.func30, Try.ntmps30
        go_wp2_with fail
        go_ret
        exact ⟨ret_bool HV.out.symm, Below.refl _ _⟩
    · have HV : Hid (validB L = false) := Lib.hid (by unfold validB; rw [decide_eq_false h2]; simp)
      go_enter Try.func30, Try.ntmps30
      go_wp2_with fail
      go_ret
      exact ⟨ret_bool HV.out.symm, Below.refl _ _⟩
  · have HV : Hid (validB L = false) := Lib.hid (by unfold validB; rw [decide_eq_false h1]; simp)
    go_enter Try.func30, Try.ntmps30
    go_wp2_with fail
    go_ret
    exact ⟨ret_bool HV.out.symm, Below.refl _ _⟩

set_option maxRecDepth 100000 in
set_option maxHeartbeats 16000000 in
theorem refvalid_any (a : Option Addr) (L : List (Int × Int)) (cap : Nat) (w : World) (hl : L.length ≤ 1000000) (hL : Loads w.heap.size w a L) :
    Calls Try.prog 22 #[.slice a L.length cap] w fun e w' => e = .returned (.bool (validB L)) ∧ Below w.heap.size w w' := by
  have HL := Lib.hid hL; clear hL
  by_cases h1 : 1 ≤ L.length
  · by_cases h2 : L.length ≤ 10000
    · obtain ⟨b0, off0, e0, hb0, hc0⟩ := HL.out (by omega)
      have g0 := (hc0 0 (by omega)).1
      have HE0 := Lib.hid e0
      rw [Nat.zero_mul, Nat.add_zero] at g0
      clear hc0 e0
      by_cases h3 : (og L 0).1 = 0
      · rw [h3] at g0
        have HV : Hid (validB L = okS L L.length) := Lib.hid (by unfold validB; rw [decide_eq_true h1, decide_eq_true h2, decide_eq_true h3]; rfl)
        clear h3
        obtain rfl := HE0.out
        clear HE0
        go_enter Try.func22, Try.ntmps22
        go_wp2_with fail
        clear g0
        go_loopw [3] (fun i wr => ∃ k : Nat, k ≤ L.length ∧ i = .int .i64 k ∧ Below w.heap.size w wr ∧ Hid (okS L k = true)) (fun i _ => L.length - (intOf i).toNat)
        case atStart => exact ⟨0, Nat.zero_le _, rfl, Below.refl _ _, Lib.hid rfl⟩
        case round =>
          obtain ⟨k, hk, rfl, hB, HO⟩ := hrel
          have hbs := hB.size
          by_cases hlt : k < L.length
          · obtain ⟨_, _, e, hb, hc⟩ := HL.out (by omega)
            cases e
            have D0 : ∀ j, j < L.length → wr.cell? ⟨b0, off0 + j * 2, none⟩ = some (.int .i64 (og L j).1) := fun j hj => (hB.cell (p := ⟨b0, off0 + j * 2, none⟩) hb).trans (hc j hj).1
            have D1 : ∀ j, j < L.length → wr.cell? ⟨b0, off0 + j * 2 + 1, none⟩ = some (.int .i64 (og L j).2) := fun j hj => (hB.cell (p := ⟨b0, off0 + j * 2 + 1, none⟩) hb).trans (hc j hj).2
            have hbw : b0 < wr.heap.size := Nat.lt_of_lt_of_le hb hbs
            have d0 := D0 k hlt
            have d1 := D1 k hlt
            have d2 := D0 (k - 1) (by omega)
            clear hc D0 D1
            by_cases hA : 1099511627776 < (og L k).1
            · have HF : Hid (validB L = false) := Lib.hid (by unfold validB; rw [okS_false L k _ hlt (by unfold stepB; rw [decide_eq_false (show ¬ (og L k).1 ≤ 1099511627776 by omega)]; simp), Bool.and_false])
              have z0 : decide (1099511627776 < (og L k).1) = true := decide_eq_true hA
              go_wp2_with fail
              go_quiet (fail)
              clear z0
              go_wp2_with fail
              go_ret
              exact ⟨ret_bool HF.out.symm, below_drewN hB _⟩
            · by_cases hN : (og L k).2 < 0
              · have HF : Hid (validB L = false) := Lib.hid (by unfold validB; rw [okS_false L k _ hlt (by unfold stepB; rw [decide_eq_false (show ¬ 0 ≤ (og L k).2 by omega)]; simp), Bool.and_false])
                have z0 : decide (1099511627776 < (og L k).1) = false := decide_eq_false hA
                have z1 : decide ((og L k).2 < 0) = true := decide_eq_true hN
                go_wp2_with fail
                go_quiet (fail)
                clear z0 z1
                go_wp2_with fail
                go_ret
                exact ⟨ret_bool HF.out.symm, below_drewN hB _⟩
              · by_cases hW : 1099511627776 < (og L k).2
                · have HF : Hid (validB L = false) := Lib.hid (by unfold validB; rw [okS_false L k _ hlt (by unfold stepB; rw [decide_eq_false (show ¬ (og L k).2 ≤ 1099511627776 by omega), Bool.and_false]), Bool.and_false])
                  have z0 : decide (1099511627776 < (og L k).1) = false := decide_eq_false hA
                  have z1 : decide ((og L k).2 < 0) = false := decide_eq_false hN
                  have z2 : decide (1099511627776 < (og L k).2) = true := decide_eq_true hW
                  go_wp2_with fail
                  go_quiet (fail)
                  clear z0 z1 z2
                  go_wp2_with fail
                  go_ret
                  exact ⟨ret_bool HF.out.symm, below_drewN hB _⟩
                · by_cases hk0 : 0 < k
                  · by_cases hQ : (og L k).1 ≤ (og L (k - 1)).1
                    · have HF : Hid (validB L = false) := Lib.hid (by unfold validB; rw [okS_false L k _ hlt (by unfold stepB; rw [decide_eq_false (show ¬ k = 0 by omega), decide_eq_false (show ¬ (og L (k - 1)).1 < (og L k).1 by omega)]; simp), Bool.and_false])
                      have z0 : decide (1099511627776 < (og L k).1) = false := decide_eq_false hA
                      have z1 : decide ((og L k).2 < 0) = false := decide_eq_false hN
                      have z2 : decide (1099511627776 < (og L k).2) = false := decide_eq_false hW
                      have z3 : decide ((og L k).1 ≤ (og L (k - 1)).1) = true := decide_eq_true hQ
                      have y0 : decide ((0 : Int) < (k : Int)) = true := decide_eq_true (by omega)
                      have y1 : decide (0 < k) = true := decide_eq_true (by omega)
                      have y2 : IntKind.i64.wrap ((k : Int) - 1) = (k : Int) - 1 := IntWalk.i64_in _ (by omega)
                      have y3 : ((k : Int) - 1).toNat = k - 1 := by omega
                      have y4 : (0 : Int) ≤ (k : Int) - 1 := by omega
                      have y5 : k - 1 < L.length := by omega
                      have y6 : (1 : Int) ≤ (k : Int) := by omega
                      have y7 : (k : Int) - 1 < (L.length : Int) := by omega
                      go_wp2_with fail
                      go_quiet (fail)
                      clear z0 z1 z2 z3 y0 y1 y2 y3 y4 y5 y6 y7
                      go_wp2_with fail
                      go_ret
                      exact ⟨ret_bool HF.out.symm, below_drewN hB _⟩
                    · have HS : Hid (okS L (k + 1) = true) := Lib.hid (by simp only [okS]; rw [HO.out, Bool.true_and]; unfold stepB; simp only [Bool.and_eq_true, Bool.or_eq_true, decide_eq_true_eq]; omega)
                      have z0 : decide (1099511627776 < (og L k).1) = false := decide_eq_false hA
                      have z1 : decide ((og L k).2 < 0) = false := decide_eq_false hN
                      have z2 : decide (1099511627776 < (og L k).2) = false := decide_eq_false hW
                      have z3 : decide ((og L k).1 ≤ (og L (k - 1)).1) = false := decide_eq_false hQ
                      have y0 : decide ((0 : Int) < (k : Int)) = true := decide_eq_true (by omega)
                      have y1 : decide (0 < k) = true := decide_eq_true (by omega)
                      have y2 : IntKind.i64.wrap ((k : Int) - 1) = (k : Int) - 1 := IntWalk.i64_in _ (by omega)
                      have y3 : ((k : Int) - 1).toNat = k - 1 := by omega
                      have y4 : (0 : Int) ≤ (k : Int) - 1 := by omega
                      have y5 : k - 1 < L.length := by omega
                      have y6 : (1 : Int) ≤ (k : Int) := by omega
                      have y7 : (k : Int) - 1 < (L.length : Int) := by omega
                      go_wp2_with fail
                      go_quiet (fail)
                      clear z0 z1 z2 z3 y0 y1 y2 y3 y4 y5 y6 y7
                      go_wp2_with fail
                      go_roundw
                      case rel => exact ⟨k + 1, by omega, by go_num, below_drewN hB _, HS⟩
                      case measure => simp [intOf]; omega
                  · have HS : Hid (okS L (k + 1) = true) := Lib.hid (by simp only [okS]; rw [HO.out, Bool.true_and]; unfold stepB; simp only [Bool.and_eq_true, Bool.or_eq_true, decide_eq_true_eq]; omega)
                    have z0 : decide (1099511627776 < (og L k).1) = false := decide_eq_false hA
                    have z1 : decide ((og L k).2 < 0) = false := decide_eq_false hN
                    have z2 : decide (1099511627776 < (og L k).2) = false := decide_eq_false hW
                    have y0 : decide ((0 : Int) < (k : Int)) = false := decide_eq_false (by omega)
                    have y1 : decide (0 < k) = false := decide_eq_false (by omega)
                    go_wp2_with fail
                    go_quiet (fail)
                    clear z0 z1 z2 y0 y1
                    go_wp2_with fail
                    go_roundw
                    case rel => exact ⟨k + 1, by omega, by go_num, below_drewN hB _, HS⟩
                    case measure => simp [intOf]; omega
          · obtain rfl : k = L.length := by omega
            go_wp2_with fail
            go_ret
            exact ⟨ret_bool (by rw [HV.out, HO.out]), hB⟩
      · have HV : Hid (validB L = false) := Lib.hid (by unfold validB; rw [decide_eq_false h3]; simp)
        have z0 : ((og L 0).1 != 0) = true := bne_iff_ne.2 h3
        clear h3
        obtain rfl := HE0.out
        go_enter Try.func22, Try.ntmps22
        go_wp2_with fail
        go_ret
        exact ⟨ret_bool HV.out.symm, Below.refl _ _⟩
    · have HV : Hid (validB L = false) := Lib.hid (by unfold validB; rw [decide_eq_false h2]; simp)
      go_enter Try.func22, Try.ntmps22
      go_wp2_with fail
      go_ret
      exact ⟨ret_bool HV.out.symm, Below.refl _ _⟩
  · have HV : Hid (validB L = false) := Lib.hid (by unfold validB; rw [decide_eq_false h1]; simp)
    go_enter Try.func22, Try.ntmps22
    go_wp2_with fail
    go_ret
    exact ⟨ret_bool HV.out.symm, Below.refl _ _⟩
end Go.Proofs.Ytlnodjcmdnmnlaa
