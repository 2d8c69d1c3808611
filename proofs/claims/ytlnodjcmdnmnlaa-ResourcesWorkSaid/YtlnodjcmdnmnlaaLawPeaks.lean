/-
  THE WALK of the law ResourcesPeaks.
-/
import Derived.Test.YtlnodjcmdnmnlaaAwake
namespace Go.Proofs.Ytlnodjcmdnmnlaa
open Go.RowKit Go.Shelf

theorem beyond_at {L : List (Int × Int)} {m : Int} (h : ¬ beyondI L m < 0) : ∃ j : Nat, beyondI L m = j ∧ j < L.length ∧ m < (og L j).2 ∧ ∀ i, i < j → ¬ m < (og L i).2 := by
  unfold beyondI at *
  rcases load_first_cases L (fun r => decide (m < r.2)) with ⟨e, _⟩ | ⟨j, hj, e, h1, h2⟩
  · omega
  · exact ⟨j, e, hj, of_decide_eq_true h1, fun i hi => of_decide_eq_false (h2 i hi)⟩
theorem beyond_none {L : List (Int × Int)} {m : Int} (h : beyondI L m < 0) : ∀ i, i < L.length → ¬ m < (og L i).2 := by
  unfold beyondI at *
  rcases load_first_cases L (fun r => decide (m < r.2)) with ⟨e, h2⟩ | ⟨j, hj, e, h1, h2⟩
  · exact fun i hi => of_decide_eq_false (h2 i hi)
  · omega
set_option maxRecDepth 100000 in
set_option maxHeartbeats 8000000 in
theorem peaks_law (a : Option Addr) (L : List (Int × Int)) (cap : Nat) (m : Int) (w : World) (hL : Loads w.heap.size w a L) :
    Calls Try.prog 6 #[.slice a L.length cap, .int .i64 m] w fun e w' => e = .returned (.bool true) ∧ Below w.heap.size w w' := by
  have HL := Lib.hid hL; clear hL
  by_cases q1 : 60 < L.length ∧ L.length ≤ 10000
  · obtain ⟨q1, q2⟩ := q1
    have b1 : decide ((60 : Int) < (L.length : Int)) = true := decide_eq_true (by omega)
    have b2 : decide ((L.length : Int) ≤ 10000) = true := decide_eq_true (by omega)
    go_enter Try.func6, Try.ntmps6
    go_wp2_with (go_at_call 8; (with_reducible refine (awake_any _).mono ?_); rintro e w1 ⟨rfl, hB1⟩)
    go_ret
    exact ⟨rfl, hB1⟩
  · by_cases q2 : 10010 < L.length
    · have b1 : decide ((60 : Int) < (L.length : Int)) = true := decide_eq_true (by omega)
      have b2 : decide ((L.length : Int) ≤ 10000) = false := decide_eq_false (by omega)
      have b3 : decide ((10010 : Int) < (L.length : Int)) = true := decide_eq_true (by omega)
      clear q1
      go_enter Try.func6, Try.ntmps6
      go_wp2_with (go_at_call 8; (with_reducible refine (awake_any _).mono ?_); rintro e w1 ⟨rfl, hB1⟩)
      go_ret
      exact ⟨rfl, hB1⟩
    · have hl : L.length ≤ 1000000 := by omega
      have b3 : decide ((10010 : Int) < (L.length : Int)) = false := decide_eq_false (by omega)
      have b4 : (decide ((60 : Int) < (L.length : Int)) = false ∧ True) ∨ (decide ((60 : Int) < (L.length : Int)) = true ∧ decide ((L.length : Int) ≤ 10000) = false) := by
        rcases Nat.lt_or_ge 60 L.length with h | h
        · exact .inr ⟨decide_eq_true (by omega), decide_eq_false (by omega)⟩
        · exact .inl ⟨decide_eq_false (by omega), trivial⟩
      clear q1 q2
      cases hv : validB L
      · have HV := Lib.hid hv
        have HP : Hid (peakP L = (0, 0, 1)) := Lib.hid (by unfold peakP; rw [hv]; rfl)
        have HW : Hid (withinP L m = (false, 0, 1)) := Lib.hid (by unfold withinP; rw [hv]; rfl)
        clear hv
        rcases b4 with ⟨b4, _⟩ | ⟨b4, b5⟩
        all_goals
          go_enter Try.func6, Try.ntmps6
          go_wp2_with (first
            | (go_at_call 8; (with_reducible refine (awake_any _).mono ?_); rintro e w1 ⟨rfl, hB1⟩)
            | (go_at_call 20; (with_reducible refine (peak_any _ L _ _ hl (HL.out.grow hB1)).mono ?_); rintro e w2 ⟨rfl, hb2⟩; rw [HP.out]; have hB2 := hB1.trans (hb2.mono hB1.size))
            | (go_at_call 21; (with_reducible refine (within_any _ L _ m _ hl (HL.out.grow hB2)).mono ?_); rintro e w3 ⟨rfl, hb3⟩; rw [HW.out]; have hB3 := hB2.trans (hb3.mono hB2.size))
            | (go_at_call 22; (with_reducible refine (refvalid_any _ L _ _ hl (HL.out.grow hB3)).mono ?_); rintro e w4 ⟨rfl, hb4⟩; rw [HV.out]; have hB4 := hB3.trans (hb4.mono hB3.size)))
          go_ret
          exact ⟨rfl, hB4⟩
      · obtain ⟨v1, v2, _, _⟩ := valid_step hv
        have b5 : decide ((60 : Int) < (L.length : Int)) = false := by
          rcases b4 with ⟨b4, _⟩ | ⟨_, b5⟩
          · exact b4
          · have := of_decide_eq_false b5; omega
        clear b4
        have HV := Lib.hid hv
        obtain ⟨K, hK⟩ : ∃ K, peakI L L.length = K := ⟨_, rfl⟩
        have hKl : K < L.length := by rw [← hK]; exact peakI_lt L _ (by omega) (Nat.le_refl _)
        have HK := Lib.hid hK
        have HP : Hid (peakP L = ((og L K).2, (og L K).1, 0)) := Lib.hid (by unfold peakP; rw [hv, hK]; rfl)
        obtain ⟨b, off, rfl, hb, hc⟩ := HL.out (by omega)
        have K0 : ∀ wr, Below w.heap.size w wr → wr.cell? ⟨b, off + K * 2, none⟩ = some (.int .i64 (og L K).1) := fun wr h => (h.cell (p := ⟨b, off + K * 2, none⟩) hb).trans (hc K hKl).1
        have K1 : ∀ wr, Below w.heap.size w wr → wr.cell? ⟨b, off + K * 2 + 1, none⟩ = some (.int .i64 (og L K).2) := fun wr h => (h.cell (p := ⟨b, off + K * 2 + 1, none⟩) hb).trans (hc K hKl).2
        have z1 : ((og L K).2 != (og L K).2) = false := bne_self_eq_false _
        have z2 : ((og L K).1 != (og L K).1) = false := bne_self_eq_false _
        by_cases hbey : beyondI L m < 0
        · have HW : Hid (withinP L m = (true, 0, 0)) := Lib.hid (by unfold withinP; rw [hv, if_pos rfl, if_pos hbey])
          obtain ⟨bi, hbi⟩ : ∃ bi, beyondI L m = bi := ⟨_, rfl⟩
          have HBI := Lib.hid hbi
          rw [hbi] at hbey
          clear hv hK hbi hc
          go_enter Try.func6, Try.ntmps6
          go_wp2_with (first
            | (go_at_call 8; (with_reducible refine (awake_any _).mono ?_); rintro e w1 ⟨rfl, hB1⟩)
            | (go_at_call 20; (with_reducible refine (peak_any _ L _ _ hl (HL.out.grow hB1)).mono ?_); rintro e w2 ⟨rfl, hb2⟩; rw [HP.out]; have hB2 := hB1.trans (hb2.mono hB1.size))
            | (go_at_call 21; (with_reducible refine (within_any _ L _ m _ hl (HL.out.grow hB2)).mono ?_); rintro e w3 ⟨rfl, hb3⟩; rw [HW.out]; have hB3 := hB2.trans (hb3.mono hB2.size))
            | (go_at_call 22; (with_reducible refine (refvalid_any _ L _ _ hl (HL.out.grow hB3)).mono ?_); rintro e w4 ⟨rfl, hb4⟩; rw [HV.out]; have hB4 := hB3.trans (hb4.mono hB3.size))
            | (go_at_call 23; (with_reducible refine (refpeak_any _ L _ _ hl (by omega) (HL.out.grow hB4)).mono ?_); rintro e w5 ⟨rfl, hb5⟩; rw [HK.out]; have hB5 := hB4.trans (hb5.mono hB4.size))
            | (go_at_call 24; (with_reducible refine (refbeyond_any _ L _ m _ _ hl (HL.out.grow hB5)).mono ?_); rintro e w' ⟨rfl, rfl⟩; rw [HBI.out]))
          go_ret
          exact ⟨rfl, hB5⟩
        · obtain ⟨j, hj, hjl, _, _⟩ := beyond_at hbey
          have HW : Hid (withinP L m = (false, (og L j).1, 0)) := Lib.hid (by unfold withinP; rw [hv, if_pos rfl, if_neg hbey, hj]; rfl)
          have HBI := Lib.hid hj
          have K2 : ∀ wr, Below w.heap.size w wr → wr.cell? ⟨b, off + j * 2, none⟩ = some (.int .i64 (og L j).1) := fun wr h => (h.cell (p := ⟨b, off + j * 2, none⟩) hb).trans (hc j hjl).1
          clear hv hK hj hc hbey
          go_enter Try.func6, Try.ntmps6
          go_wp2_with (first
            | (go_at_call 8; (with_reducible refine (awake_any _).mono ?_); rintro e w1 ⟨rfl, hB1⟩)
            | (go_at_call 20; (with_reducible refine (peak_any _ L _ _ hl (HL.out.grow hB1)).mono ?_); rintro e w2 ⟨rfl, hb2⟩; rw [HP.out]; have hB2 := hB1.trans (hb2.mono hB1.size))
            | (go_at_call 21; (with_reducible refine (within_any _ L _ m _ hl (HL.out.grow hB2)).mono ?_); rintro e w3 ⟨rfl, hb3⟩; rw [HW.out]; have hB3 := hB2.trans (hb3.mono hB2.size))
            | (go_at_call 22; (with_reducible refine (refvalid_any _ L _ _ hl (HL.out.grow hB3)).mono ?_); rintro e w4 ⟨rfl, hb4⟩; rw [HV.out]; have hB4 := hB3.trans (hb4.mono hB3.size))
            | (go_at_call 23; (with_reducible refine (refpeak_any _ L _ _ hl (by omega) (HL.out.grow hB4)).mono ?_); rintro e w5 ⟨rfl, hb5⟩; rw [HK.out]; have hB5 := hB4.trans (hb5.mono hB4.size))
            | (go_at_call 24; (with_reducible refine (refbeyond_any _ L _ m _ _ hl (HL.out.grow hB5)).mono ?_); rintro e w' ⟨rfl, rfl⟩; rw [HBI.out]))
          go_ret
          exact ⟨rfl, hB5⟩
end Go.Proofs.Ytlnodjcmdnmnlaa
