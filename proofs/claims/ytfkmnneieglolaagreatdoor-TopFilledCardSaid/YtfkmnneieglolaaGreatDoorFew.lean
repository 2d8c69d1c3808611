/-
  THE WALKS of the reference's Count (26), and of the laws' few.
-/
import Derived.Test.YtfkmnneieglolaaGreatDoorValid
namespace Go.Proofs.YtfkmnneieglolaaGreatDoor
open Go.RowKit Go.Shelf
theorem countP_next {L : List BrickR} {k : Nat} (h : k < L.length) : countP (L.take (k + 1)) = countP (L.take k) * ((bg L k).count + 1).toNat := by
  rw [bg_eq L k h, List.take_succ_eq_append_getElem h, countP_append]
  simp [countP]
theorem ok_bg {L : List BrickR} (ok : BrickOK L) {k : Nat} (h : k < L.length) : 1 ≤ (bg L k).weight ∧ (bg L k).weight ≤ 1048576 ∧ 0 ≤ (bg L k).count ∧ (bg L k).count ≤ 60 := ok _ (by rw [bg_eq L k h]; exact List.getElem_mem h)
set_option maxHeartbeats 4000000 in
theorem count_any (a : Option Addr) (L : List BrickR) (cap : Nat) (n₀ : Nat) (w : World) (ok : BrickOK L) (hl : L.length ≤ 1000000) (h : Bricks n₀ w a L) :
    Calls Tryz.prog 7 #[.slice a L.length cap] w fun e w' => e = .returned (.int .i64 (if countP L ≤ 1000000 then (countP L : Int) else 1000001)) ∧ w = w' := by
  have HU := Lib.hid h
  have HOK := Lib.hid ok
  clear h
  obtain ⟨R, hR⟩ : ∃ R, (if countP L ≤ 1000000 then (countP L : Int) else 1000001) = R := ⟨_, rfl⟩
  have HR := Lib.hid hR
  rw [hR]
  clear hR ok
  go_enter Tryz.func7, Tryz.ntmps7
  go_wp2
  go_loop [3, 4] (fun s i => ∃ k : Nat, k ≤ L.length ∧ i = .int .i64 k ∧ s = .int .i64 (countP (L.take k) : Nat) ∧ countP (L.take k) ≤ 1000000) (fun _ i => L.length - (intOf i).toNat)
  case atStart => exact ⟨0, Nat.zero_le _, rfl, rfl, by simp [countP]⟩
  case round =>
    obtain ⟨k, hk, rfl, rfl, hc⟩ := hrel
    by_cases hlt : k < L.length
    · obtain ⟨b, off, rfl, hb, hx⟩ := HU.out (by omega)
      obtain ⟨_, _, e2⟩ := hx k hlt
      obtain ⟨_, _, o3, o4⟩ := ok_bg HOK.out hlt
      have HN := Lib.hid (countP_next hlt)
      have HT := Lib.hid (countP_take HOK.out (k + 1))
      generalize (bg L k).count = c at *
      generalize countP (L.take k) = n at *
      clear hx
      have hm : (n : Int) * (c + 1) ≤ 1000000 * 61 := Int.mul_le_mul (by omega) (by omega) (by omega) (by omega)
      have hm0 : 0 ≤ (n : Int) * (c + 1) := Int.mul_nonneg (by omega) (by omega)
      have s1 : IntKind.i64.wrap (c + 1) = c + 1 := IntWalk.i64_in _ (by omega)
      have s2 : IntKind.i64.wrap ((n : Int) * (c + 1)) = (n : Int) * (c + 1) := IntWalk.i64_in _ (by omega)
      have HE : Hid ((countP (L.take (k + 1)) : Int) = (n : Int) * (c + 1)) := Lib.hid (by rw [HN.out, Int.natCast_mul]; congr 1; omega)
      by_cases q : 1000000 < (n : Int) * (c + 1)
      · obtain rfl : R = 1000001 := by
          rw [← HR.out, if_neg]
          have := HE.out
          have := HT.out
          omega
        clear hm hm0
        go_wp2
        go_ret
        exact ⟨rfl, rfl⟩
      · have hq : countP (L.take (k + 1)) ≤ 1000000 := by have := HE.out; omega
        have HQ := Lib.hid hq
        clear hm hm0 hq
        go_wp2
        go_round
        case rel => exact ⟨k + 1, by omega, by go_num, by rw [HE.out], HQ.out⟩
        case measure => simp [intOf]; omega
    · obtain rfl : k = L.length := by omega
      have HF : Hid ((countP L : Int) = R) := Lib.hid (by rw [List.take_length] at hc; rw [← HR.out, if_pos hc])
      clear HR
      go_wp2
      go_ret
      exact ⟨ret_int HF.out, rfl⟩
def longN (r : BrickR) : Bool := decide (100 < (r.name.size : Int))
def fewB (L : List BrickR) : Bool := decide (L.length ≤ 10) && (!(brick_any L longN) && (!(brickB L) || decide (countP L ≤ 700)))
theorem few_ok {L : List BrickR} (h : fewB L = true) : L.length ≤ 10 ∧ (brickB L = true → countP L ≤ 700) := by
  unfold fewB at h
  simp only [Bool.and_eq_true, decide_eq_true_eq, Bool.or_eq_true, Bool.not_eq_true'] at h
  refine ⟨h.1, fun hv => ?_⟩
  rcases h.2.2 with q | q
  · rw [q] at hv; cases hv
  · exact q
end Go.Proofs.YtfkmnneieglolaaGreatDoor
