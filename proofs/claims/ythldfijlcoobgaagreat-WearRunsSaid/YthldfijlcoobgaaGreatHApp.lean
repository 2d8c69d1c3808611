/-
  THE WALKS of slices.IndexFunc, ContainsFunc at numbers and bricks; Equal, Clone at numbers; Clone at bricks; append of one element.
-/
import Derived.Test.YthldfijlcoobgaaGreatHMem
import Derived.Test.YthldfijlcoobgaaGreatApp
namespace Go.Proofs.YthldfijlcoobgaaGreat
open Go.RowKit Go.Shelf

theorem num_any_mem (L : List (Int)) (x : Int) : num_any L (fun y => decide (y = x)) = decide (x ∈ L) := by
  rw [num_any_eq, Bool.eq_iff_iff, List.any_eq_true, decide_eq_true_eq]
  constructor
  · rintro ⟨y, hy, e⟩
    rw [← of_decide_eq_true e]; exact hy
  · exact fun h => ⟨x, h, decide_eq_true rfl⟩


set_option maxHeartbeats 4000000 in
theorem num_equal (a1 a2 : Option Addr) (F1 F2 : List (Int)) (cap1 cap2 : Nat) (w : World) (hl : F1.length ≤ 1100) (h1 : Nums w.heap.size w a1 F1) (h2 : Nums w.heap.size w a2 F2) (hl2 : F2.length ≤ 1100) :
    Calls Tryz.prog 8 #[.slice a1 F1.length cap1, .slice a2 F2.length cap2] w fun e w' => e = .returned (.bool (decide (F1 = F2))) ∧ Below w.heap.size w w' := by
  have H1 := Lib.hid h1
  have H2 := Lib.hid h2
  clear h1 h2
  by_cases hle : F1.length = F2.length
  · have hn : ((F1.length : Int) != (F2.length : Int)) = false := by rw [bne_eq_false_iff_eq]; omega
    have HL := Lib.hid hle; clear hle
    go_enter Tryz.func8, Tryz.ntmps8
    go_wp2
    go_loopw [13] (fun i wr => ∃ k : Nat, k ≤ F1.length ∧ i = .int .i64 k ∧ Below w.heap.size w wr ∧ Hid (∀ j, j < k → ig F1 j = ig F2 j)) (fun i _ => F1.length - (intOf i).toNat)
    case atStart => exact ⟨0, Nat.zero_le _, rfl, Below.refl _ _, Lib.hid (fun _ h => absurd h (Nat.not_lt_zero _))⟩
    case round =>
      obtain ⟨k, hk, rfl, hB, HA⟩ := hrel
      by_cases hlt : k < F1.length
      · have hlt2 : k < F2.length := by have := HL.out; omega
        obtain ⟨b, off, rfl, hb, hcx⟩ := H1.out (by omega)
        obtain ⟨b', off', rfl, hb', hcx'⟩ := H2.out (by omega)
        have c0 := hcx k hlt
        have e0 := hcx' k hlt2
        have d0 := (hB.cell (p := ⟨b, off + k, none⟩) hb).trans c0
        have f0 := (hB.cell (p := ⟨b', off' + k, none⟩) hb').trans e0
        clear c0 e0 hcx hcx'
        by_cases q0 : (ig F1 k) = (ig F2 k)
        · have HB : Hid (∀ j, j < k + 1 → ig F1 j = ig F2 j) := Lib.hid fun j hj => by
            rcases Nat.lt_or_ge j k with l | l
            · exact HA.out j l
            · obtain rfl : j = k := by omega
              exact q0
          have g0 : ((ig F1 k) == (ig F2 k)) = true := beq_iff_eq.2 q0
          have h0 : ((ig F1 k) != (ig F2 k)) = false := bne_eq_false_iff_eq.2 q0
          clear q0
          go_wp2_with fail
          go_quiet (fail)
          go_wp2
          go_roundw
          case rel => exact ⟨k + 1, by omega, by go_num, below_drewN hB _, HB⟩
          case measure => simp [intOf]; omega
        · have H : Hid (decide (F1 = F2) = false) := Lib.hid (decide_eq_false (fun e => q0 (by rw [e])))
          have g0 : ((ig F1 k) == (ig F2 k)) = false := beq_eq_false_iff_ne.2 q0
          have h0 : ((ig F1 k) != (ig F2 k)) = true := bne_iff_ne.2 q0
          clear q0
          go_wp2_with fail
          go_quiet (fail)
          go_wp2
          go_ret
          exact ⟨congrArg (fun b => Ending.returned (.bool b)) H.out.symm, below_drewN hB _⟩
      · obtain rfl : k = F1.length := by omega
        have H : Hid (decide (F1 = F2) = true) := Lib.hid (decide_eq_true (ig_ext F1 F2 HL.out HA.out))
        go_wp2
        go_ret
        exact ⟨congrArg (fun b => Ending.returned (.bool b)) H.out.symm, hB⟩
  · have hn : ((F1.length : Int) != (F2.length : Int)) = true := bne_iff_ne.2 (by omega)
    have H : Hid (decide (F1 = F2) = false) := Lib.hid (decide_eq_false (fun e => hle (by rw [e])))
    clear hle
    go_enter Tryz.func8, Tryz.ntmps8
    go_wp2
    go_ret
    exact ⟨congrArg (fun b => Ending.returned (.bool b)) H.out.symm, Below.refl _ _⟩

theorem brick_info : (Tryz.prog.info? 104).map (fun i => (i.zero, i.size, i.bytes)) = some (some (.agg #[.string ⟨#[]⟩, .int .i64 0, .int .i64 0]), 3, 32) := by kernel_rfl
end Go.Proofs.YthldfijlcoobgaaGreat
