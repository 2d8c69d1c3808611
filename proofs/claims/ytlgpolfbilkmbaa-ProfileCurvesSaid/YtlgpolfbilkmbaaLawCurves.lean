/-
  THE WALK of the law ProfileCurves.
-/
import Derived.Test.YtlgpolfbilkmbaaRSame
import Derived.Test.YtlgpolfbilkmbaaLawGreatest
namespace Go.Proofs.Ytlgpolfbilkmbaa
open Go.RowKit Go.Shelf

set_option maxRecDepth 100000 in
set_option maxHeartbeats 8000000 in
theorem lawcurves_law (d : Int) (m : Mv) (w : World) : Calls Try.prog 4 #[.int .i64 d, .agg #[.string m.name, .int .i64 m.to, .int .i64 m.spd, .int .i64 m.rise, .int .i64 m.fall]] w fun e w' => e = .returned (.bool true) ∧ Below w.heap.size w w' := by
  obtain ⟨t, ht⟩ := top_some d m
  have HM := Lib.hid (MvAt.new w m 23)
  have hW0 := below_new w (.cells #[.string m.name, .int .i64 m.to, .int .i64 m.spd, .int .i64 m.rise, .int .i64 m.fall] 23)
  obtain ⟨g, hgg⟩ : ∃ g, givenP d m = g := ⟨_, rfl⟩
  have HG := Lib.hid hgg
  have HC := Lib.hid (Curve_any d m t ht)
  by_cases hl : (m.name.size : Int) ≤ 100
  · have hl' : decide (100 < (m.name.size : Int)) = false := decide_eq_false (by omega)
    by_cases hg : g = 0
    · subst hg
      have HT := Lib.hid (rcurve_any d m t hgg (ht hgg))
      have hcl := curveL_len d m.rise m.fall t
      obtain ⟨L, hL⟩ : ∃ L, curveL d m.rise m.fall t = L := ⟨_, rfl⟩
      have HL := Lib.hid hL
      rw [hL] at hcl HT
      clear hgg ht hL
      go_enter Try.func4, Try.ntmps4
      go_upto_region 1 with (fail)
      generalize w.alloc (.cells #[.string m.name, .int .i64 m.to, .int .i64 m.spd, .int .i64 m.rise, .int .i64 m.fall] 23) = W0 at *
      go_wp2_with (first
        | (go_at_call 10; (with_reducible refine (awake_any _).mono ?_); rintro e w1 ⟨rfl, hB1⟩; obtain ⟨k0, k1, k2, k3, k4⟩ := HM.out.carry hB1)
        | (go_at_call 16; (with_reducible refine (HC.out _).mono ?_); rintro e w2 ⟨hv, hb2⟩; obtain ⟨v, rfl, hrow⟩ := hv.out; rw [HG.out]; have hr1 := hrow.1 HG.out; rw [HL.out] at hr1; obtain ⟨pa, pcap, rfl, _, _, _, hP⟩ := pc_of_row hr1; have HP := Lib.hid hP; clear hP hr1 hrow hv; have hB2 := held_next hB1 hb2; clear k0 k1 k2 k3 k4; obtain ⟨k0, k1, k2, k3, k4⟩ := HM.out.carry hB2)
        | (go_at_call 14; (with_reducible refine (refgiven_any d m _).mono ?_); rintro e w3 ⟨rfl, hb3⟩; rw [HG.out]; have hB3 := held_next hB2 hb3; clear k0 k1 k2 k3 k4; obtain ⟨k0, k1, k2, k3, k4⟩ := HM.out.carry hB3)
        | (go_at_call 18; (with_reducible refine (HT.out _).mono ?_); rintro e w4 ⟨hv, hb4⟩; obtain ⟨v, rfl, hr2⟩ := hv.out; obtain ⟨qa, qcap, rfl, _, _, _, hQ⟩ := pc_of_row hr2; have HQ := Lib.hid hQ; clear hQ hr2 hv; have hB4 := held_next hB3 hb4)
        | (go_at_call 17; (with_reducible refine (same_any pa qa L pcap qcap _ (by omega) ((HP.out.grow hb3).grow hb4) HQ.out).mono ?_); rintro e w5 ⟨rfl, hb5⟩; have hB5 := held_next hB4 hb5))
      go_ret
      exact ⟨rfl, hW0.trans (hB5.mono hW0.size)⟩
    · have hg1 : (g == 0) = false := by simpa using hg
      have hg2 : (g != 0) = true := by simpa using hg
      have HN : Hid (¬ givenP d m = 0) := Lib.hid (by rw [hgg]; exact hg)
      clear hgg ht hg
      go_enter Try.func4, Try.ntmps4
      go_upto_region 1 with (fail)
      generalize w.alloc (.cells #[.string m.name, .int .i64 m.to, .int .i64 m.spd, .int .i64 m.rise, .int .i64 m.fall] 23) = W0 at *
      go_wp2_with (first
        | (go_at_call 10; (with_reducible refine (awake_any _).mono ?_); rintro e w1 ⟨rfl, hB1⟩; obtain ⟨k0, k1, k2, k3, k4⟩ := HM.out.carry hB1)
        | (go_at_call 16; (with_reducible refine (HC.out _).mono ?_); rintro e w2 ⟨hv, hb2⟩; obtain ⟨v, rfl, hrow⟩ := hv.out; rw [HG.out]; obtain rfl := hrow.2 HN.out; clear hrow hv; have hB2 := held_next hB1 hb2; clear k0 k1 k2 k3 k4; obtain ⟨k0, k1, k2, k3, k4⟩ := HM.out.carry hB2)
        | (go_at_call 14; (with_reducible refine (refgiven_any d m _).mono ?_); rintro e w3 ⟨rfl, hb3⟩; rw [HG.out]; have hB3 := held_next hB2 hb3))
      go_ret
      exact ⟨by simp, hW0.trans (hB3.mono hW0.size)⟩
  · have hl' : decide (100 < (m.name.size : Int)) = true := decide_eq_true (by omega)
    clear hgg ht HC HG
    go_enter Try.func4, Try.ntmps4
    go_upto_region 1 with (fail)
    generalize w.alloc (.cells #[.string m.name, .int .i64 m.to, .int .i64 m.spd, .int .i64 m.rise, .int .i64 m.fall] 23) = W0 at *
    go_wp2_with (go_at_call 10; (with_reducible refine (awake_any _).mono ?_); rintro e w1 ⟨rfl, hB1⟩; obtain ⟨k0, k1, k2, k3, k4⟩ := HM.out.carry hB1)
    go_ret
    exact ⟨rfl, hW0.trans (hB1.mono hW0.size)⟩
end Go.Proofs.Ytlgpolfbilkmbaa
