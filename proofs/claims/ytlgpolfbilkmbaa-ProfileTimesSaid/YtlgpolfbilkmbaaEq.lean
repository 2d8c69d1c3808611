/-
  THE WALK of slices.Equal at fractions.
-/
import Derived.Test.YtlgpolfbilkmbaaMem
namespace Go.Proofs.Ytlgpolfbilkmbaa
open Go.RowKit Go.Shelf

set_option maxHeartbeats 4000000 in
theorem fr_equal (a1 a2 : Option Addr) (F1 F2 : List (Int × Int)) (cap1 cap2 : Nat) (w : World) (hl : F1.length ≤ 1100) (h1 : Frs w.heap.size w a1 F1) (h2 : Frs w.heap.size w a2 F2) (hl2 : F2.length ≤ 1100) :
    Calls Try.prog 27 #[.slice a1 F1.length cap1, .slice a2 F2.length cap2] w fun e w' => e = .returned (.bool (decide (F1 = F2))) ∧ Below w.heap.size w w' := by
  have H1 := Lib.hid h1
  have H2 := Lib.hid h2
  clear h1 h2
  by_cases hle : F1.length = F2.length
  · have hn : ((F1.length : Int) != (F2.length : Int)) = false := by rw [bne_eq_false_iff_eq]; omega
    have HL := Lib.hid hle; clear hle
    go_enter Try.func27, Try.ntmps27
    go_wp2
    go_loopw [13] (fun i wr => ∃ k : Nat, k ≤ F1.length ∧ i = .int .i64 k ∧ Below w.heap.size w wr ∧ Hid (∀ j, j < k → frg F1 j = frg F2 j)) (fun i _ => F1.length - (intOf i).toNat)
    case atStart => exact ⟨0, Nat.zero_le _, rfl, Below.refl _ _, Lib.hid (fun _ h => absurd h (Nat.not_lt_zero _))⟩
    case round =>
      obtain ⟨k, hk, rfl, hB, HA⟩ := hrel
      by_cases hlt : k < F1.length
      · have hlt2 : k < F2.length := by have := HL.out; omega
        obtain ⟨b, off, rfl, hb, hcx⟩ := H1.out (by omega)
        obtain ⟨b', off', rfl, hb', hcx'⟩ := H2.out (by omega)
        obtain ⟨c0, c1⟩ := hcx k hlt
        obtain ⟨e0, e1⟩ := hcx' k hlt2
        have d0 := (hB.cell (p := ⟨b, off + k * 2, none⟩) hb).trans c0
        have d1 := (hB.cell (p := ⟨b, off + k * 2 + 1, none⟩) hb).trans c1
        have f0 := (hB.cell (p := ⟨b', off' + k * 2, none⟩) hb').trans e0
        have f1 := (hB.cell (p := ⟨b', off' + k * 2 + 1, none⟩) hb').trans e1
        clear c0 c1 e0 e1 hcx hcx'
        by_cases q0 : (frg F1 k).1 = (frg F2 k).1
        · by_cases q1 : (frg F1 k).2 = (frg F2 k).2
          · have HB : Hid (∀ j, j < k + 1 → frg F1 j = frg F2 j) := Lib.hid fun j hj => by
              rcases Nat.lt_or_ge j k with l | l
              · exact HA.out j l
              · obtain rfl : j = k := by omega
                exact Prod.ext q0 q1
            have g0 : ((frg F1 k).1 == (frg F2 k).1) = true := beq_iff_eq.2 q0
            have h0 : ((frg F1 k).1 != (frg F2 k).1) = false := bne_eq_false_iff_eq.2 q0
            have g1 : ((frg F1 k).2 == (frg F2 k).2) = true := beq_iff_eq.2 q1
            have h1 : ((frg F1 k).2 != (frg F2 k).2) = false := bne_eq_false_iff_eq.2 q1
            clear q0 q1
            go_wp2_with fail
            go_quiet (fail)
            go_wp2
            go_roundw
            case rel => exact ⟨k + 1, by omega, by go_num, below_drewN hB _, HB⟩
            case measure => simp [intOf]; omega
          · have H : Hid (decide (F1 = F2) = false) := Lib.hid (decide_eq_false (fun e => q1 (by rw [e])))
            have g0 : ((frg F1 k).1 == (frg F2 k).1) = true := beq_iff_eq.2 q0
            have h0 : ((frg F1 k).1 != (frg F2 k).1) = false := bne_eq_false_iff_eq.2 q0
            have g1 : ((frg F1 k).2 == (frg F2 k).2) = false := beq_eq_false_iff_ne.2 q1
            have h1 : ((frg F1 k).2 != (frg F2 k).2) = true := bne_iff_ne.2 q1
            clear q0 q1
            go_wp2_with fail
            go_quiet (fail)
            go_wp2
            go_ret
            exact ⟨congrArg (fun b => Ending.returned (.bool b)) H.out.symm, below_drewN hB _⟩
        · have H : Hid (decide (F1 = F2) = false) := Lib.hid (decide_eq_false (fun e => q0 (by rw [e])))
          have g0 : ((frg F1 k).1 == (frg F2 k).1) = false := beq_eq_false_iff_ne.2 q0
          have h0 : ((frg F1 k).1 != (frg F2 k).1) = true := bne_iff_ne.2 q0
          clear q0
          go_wp2_with fail
          go_quiet (fail)
          go_wp2
          go_ret
          exact ⟨congrArg (fun b => Ending.returned (.bool b)) H.out.symm, below_drewN hB _⟩
      · obtain rfl : k = F1.length := by omega
        have H : Hid (decide (F1 = F2) = true) := Lib.hid (decide_eq_true (frg_ext F1 F2 HL.out HA.out))
        go_wp2
        go_ret
        exact ⟨congrArg (fun b => Ending.returned (.bool b)) H.out.symm, hB⟩
  · have hn : ((F1.length : Int) != (F2.length : Int)) = true := bne_iff_ne.2 (by omega)
    have H : Hid (decide (F1 = F2) = false) := Lib.hid (decide_eq_false (fun e => hle (by rw [e])))
    clear hle
    go_enter Try.func27, Try.ntmps27
    go_wp2
    go_ret
    exact ⟨congrArg (fun b => Ending.returned (.bool b)) H.out.symm, Below.refl _ _⟩
end Go.Proofs.Ytlgpolfbilkmbaa
