/-
  THE WALK of the law ResourcesWithin.
-/
import Derived.Test.YtlnodjcmdnmnlaaLawPeaks
import Derived.Test.YtlnodjcmdnmnlaaTold
namespace Go.Proofs.Ytlnodjcmdnmnlaa
open Go.RowKit Go.Shelf

/-- The peak: no step is greater, and none before it is as great. -/
theorem peakI_max {L : List (Int × Int)} : ∀ k, 0 < k → k ≤ L.length → peakI L k < k ∧ (∀ j, j < k → (og L j).2 ≤ (og L (peakI L k)).2) ∧ ∀ j, j < peakI L k → (og L j).2 < (og L (peakI L k)).2 := by
  intro k
  induction k with
  | zero => intro h; omega
  | succ k ih =>
    intro _ hk
    have es : peakI L (k + 1) = if (og L (peakI L k)).2 < (og L k).2 then k else peakI L k := rfl
    rcases Nat.eq_zero_or_pos k with e | e
    · subst e
      have e0 : peakI L (0 + 1) = 0 := by simp [peakI]
      rw [e0]
      exact ⟨by omega, fun j hj => by obtain rfl : j = 0 := by omega
                                      exact Int.le_refl _, fun j hj => by omega⟩
    · obtain ⟨h1, h2, h3⟩ := ih e (by omega)
      by_cases c : (og L (peakI L k)).2 < (og L k).2
      · rw [es, if_pos c]
        refine ⟨by omega, fun j hj => ?_, fun j hj => ?_⟩
        · rcases Nat.lt_or_ge j k with l | l
          · have := h2 j l; omega
          · obtain rfl : j = k := by omega
            exact Int.le_refl _
        · have := h2 j hj; omega
      · rw [es, if_neg c]
        refine ⟨by omega, fun j hj => ?_, h3⟩
        rcases Nat.lt_or_ge j k with l | l
        · exact h2 j l
        · obtain rfl : j = k := by omega
          omega
theorem valid_lt {L : List (Int × Int)} (h : validB L = true) : ∀ j, j < L.length → ∀ i, i < j → (og L i).1 < (og L j).1 := by
  obtain ⟨_, _, _, hs⟩ := valid_step h
  intro j
  induction j with
  | zero => intro _ i hi; omega
  | succ j ih =>
    intro hj i hi
    have := (hs (j + 1) hj).2.1 (by omega)
    rw [Nat.add_sub_cancel] at this
    rcases Nat.lt_or_ge i j with l | l
    · have := ih (by omega) i l; omega
    · obtain rfl : i = j := by omega
      exact this
theorem told_at {L : List (Int × Int)} (h : validB L = true) (K : Nat) (hK : K < L.length) : toldP L (og L K).1 = (og L K).2 := by
  have main : ∀ k, k ≤ L.length → K < k → toldTo L (og L K).1 k = (og L K).2 := by
    intro k
    induction k with
    | zero => intro _ h; omega
    | succ k ih =>
      intro hk hKk
      simp only [toldTo]
      rcases Nat.lt_or_ge K k with l | l
      · rw [if_neg (by have := valid_lt h k (by omega) K l; omega)]
        exact ih (by omega) l
      · obtain rfl : K = k := by omega
        rw [if_pos (Int.le_refl _)]
  exact main _ (Nat.le_refl _) hK
set_option maxRecDepth 100000 in
set_option maxHeartbeats 16000000 in
theorem within_law (a : Option Addr) (L : List (Int × Int)) (cap : Nat) (m : Int) (w : World) (hL : Loads w.heap.size w a L) :
    Calls Try.prog 7 #[.slice a L.length cap, .int .i64 m] w fun e w' => e = .returned (.bool true) ∧ Below w.heap.size w w' := by
  have HL := Lib.hid hL; clear hL
  by_cases q1 : 60 < L.length
  · have b1 : decide ((60 : Int) < (L.length : Int)) = true := decide_eq_true (by omega)
    go_enter Try.func7, Try.ntmps7
    go_wp2_with (first
      | (go_at_call 8; (with_reducible refine (awake_any _).mono ?_); rintro e w1 ⟨rfl, hB1⟩))
    go_ret
    exact ⟨rfl, hB1⟩
  · have b1 : decide ((60 : Int) < (L.length : Int)) = false := decide_eq_false (by omega)
    have hl : L.length ≤ 1000000 := by omega
    cases hv : validB L
    · have HV := Lib.hid hv
      clear hv
      go_enter Try.func7, Try.ntmps7
      go_wp2_with (first
        | (go_at_call 8; (with_reducible refine (awake_any _).mono ?_); rintro e w1 ⟨rfl, hB1⟩)
        | (go_at_call 22; (with_reducible refine (refvalid_any _ L _ _ hl (HL.out.grow hB1)).mono ?_); rintro e w2 ⟨rfl, hb2⟩; rw [HV.out]; have hB2 := hB1.trans (hb2.mono hB1.size)))
      go_ret
      exact ⟨rfl, hB2⟩
    · obtain ⟨v1, v2, _, _⟩ := valid_step hv
      have HV := Lib.hid hv
      have HLT := Lib.hid (valid_lt hv)
      obtain ⟨hk1, hk2, hk3⟩ := peakI_max L.length (by omega) (Nat.le_refl _)
      obtain ⟨K, hK⟩ : ∃ K, peakI L L.length = K := ⟨_, rfl⟩
      rw [hK] at hk1 hk2 hk3
      have HTD := Lib.hid (told_at hv K hk1)
      have HP : Hid (peakP L = ((og L K).2, (og L K).1, 0)) := Lib.hid (by unfold peakP; rw [hv, hK]; rfl)
      have HMX := Lib.hid hk2
      have HM3 := Lib.hid hk3
      have z9 : ((og L K).2 != (og L K).2) = false := bne_self_eq_false _
      by_cases hbey : beyondI L m < 0
      · have HW : Hid (withinP L m = (true, 0, 0)) := Lib.hid (by unfold withinP; rw [hv, if_pos rfl, if_pos hbey])
        have hnm : ¬ m < (og L K).2 := beyond_none hbey K hk1
        have z8 : decide ((og L K).2 ≤ m) = true := decide_eq_true (by omega)
        clear hv hK hbey hk2 hk3
        go_enter Try.func7, Try.ntmps7
        go_wp2_with (first
          | (go_at_call 8; (with_reducible refine (awake_any _).mono ?_); rintro e w1 ⟨rfl, hB1⟩)
          | (go_at_call 22; (with_reducible refine (refvalid_any _ L _ _ hl (HL.out.grow hB1)).mono ?_); rintro e w2 ⟨rfl, hb2⟩; rw [HV.out]; have hB2 := hB1.trans (hb2.mono hB1.size))
          | (go_at_call 20; (with_reducible refine (peak_any _ L _ _ hl (HL.out.grow hB2)).mono ?_); rintro e w3 ⟨rfl, hb3⟩; rw [HP.out]; have hB3 := hB2.trans (hb3.mono hB2.size))
          | (go_at_call 21; (with_reducible refine (within_any _ L _ m _ hl (HL.out.grow hB3)).mono ?_); rintro e w4 ⟨rfl, hb4⟩; rw [HW.out]; have hB4 := hB3.trans (hb4.mono hB3.size))
          | (go_at_call 18; (with_reducible refine (told_any _ L _ (og L K).1 _ hl (HL.out.grow hB4)).mono ?_); rintro e w5 ⟨rfl, hb5⟩; rw [HTD.out]; have hB5 := hB4.trans (hb5.mono hB4.size)))
        go_loopw [11, 60] (fun f i wr => ∃ k : Nat, k ≤ L.length ∧ i = .int .i64 k ∧ f = .bool true ∧ Below w.heap.size w wr) (fun _ i _ => L.length - (intOf i).toNat)
        case atStart => exact ⟨0, Nat.zero_le _, rfl, rfl, hB5⟩
        case round =>
          obtain ⟨k, hk, rfl, rfl, hB⟩ := hrel
          have hbs := hB.size
          by_cases hlt : k < L.length
          · obtain ⟨b, off, rfl, hb, hc⟩ := HL.out (by omega)
            have c0 := (hB.cell (p := ⟨b, off + k * 2, none⟩) hb).trans (hc k hlt).1
            have c1 := (hB.cell (p := ⟨b, off + k * 2 + 1, none⟩) hb).trans (hc k hlt).2
            have y1 : decide ((og L K).2 < (og L k).2) = false := decide_eq_false (by have := HMX.out k hlt; omega)
            clear hc
            by_cases e1 : (og L k).2 = (og L K).2
            · have y2 : ((og L k).2 == (og L K).2) = true := beq_iff_eq.2 e1
              have y3 : decide ((og L k).1 < (og L K).1) = false := decide_eq_false (by
                rcases Nat.lt_or_ge k K with l | l
                · have := HM3.out k l; omega
                · rcases Nat.eq_or_lt_of_le l with e | e
                  · rw [e]; omega
                  · have := HLT.out k hlt K e; omega)
              clear e1
              go_wp2_with fail
              go_roundw
              case rel => exact ⟨k + 1, by omega, by go_num, rfl, hB.alloc hbs _⟩
              case measure => simp [intOf]; omega
            · have y2 : ((og L k).2 == (og L K).2) = false := beq_eq_false_iff_ne.2 e1
              clear e1
              go_wp2_with fail
              go_roundw
              case rel => exact ⟨k + 1, by omega, by go_num, rfl, hB.alloc hbs _⟩
              case measure => simp [intOf]; omega
          · obtain rfl : k = L.length := by omega
            go_wp2_with fail
            go_ret
            exact ⟨rfl, hB⟩
      · obtain ⟨j, hj, hjl, hj1, hj2⟩ := beyond_at hbey
        have HW : Hid (withinP L m = (false, (og L j).1, 0)) := Lib.hid (by unfold withinP; rw [hv, if_pos rfl, if_neg hbey, hj]; rfl)
        have hnm : m < (og L K).2 := by have := hk2 j hjl; omega
        have z8 : decide ((og L K).2 ≤ m) = false := decide_eq_false (by omega)
        have HJ1 := Lib.hid hj1
        have HJ2 := Lib.hid hj2
        clear hv hK hbey hk2 hk3 hj hj1 hj2
        go_enter Try.func7, Try.ntmps7
        go_wp2_with (first
          | (go_at_call 8; (with_reducible refine (awake_any _).mono ?_); rintro e w1 ⟨rfl, hB1⟩)
          | (go_at_call 22; (with_reducible refine (refvalid_any _ L _ _ hl (HL.out.grow hB1)).mono ?_); rintro e w2 ⟨rfl, hb2⟩; rw [HV.out]; have hB2 := hB1.trans (hb2.mono hB1.size))
          | (go_at_call 20; (with_reducible refine (peak_any _ L _ _ hl (HL.out.grow hB2)).mono ?_); rintro e w3 ⟨rfl, hb3⟩; rw [HP.out]; have hB3 := hB2.trans (hb3.mono hB2.size))
          | (go_at_call 21; (with_reducible refine (within_any _ L _ m _ hl (HL.out.grow hB3)).mono ?_); rintro e w4 ⟨rfl, hb4⟩; rw [HW.out]; have hB4 := hB3.trans (hb4.mono hB3.size))
          | (go_at_call 18; (with_reducible refine (told_any _ L _ (og L K).1 _ hl (HL.out.grow hB4)).mono ?_); rintro e w5 ⟨rfl, hb5⟩; rw [HTD.out]; have hB5 := hB4.trans (hb5.mono hB4.size)))
        go_loopw [11, 60] (fun f i wr => ∃ (k : Nat) (fb : Bool), k ≤ L.length ∧ i = .int .i64 k ∧ f = .bool fb ∧ Hid (fb = decide (j < k)) ∧ Below w.heap.size w wr) (fun _ i _ => L.length - (intOf i).toNat)
        case atStart => exact ⟨0, false, Nat.zero_le _, rfl, rfl, Lib.hid (decide_eq_false (Nat.not_lt_zero _)).symm, hB5⟩
        case round =>
          obtain ⟨k, fb, hk, rfl, rfl, HF, hB⟩ := hrel
          have hbs := hB.size
          by_cases hlt : k < L.length
          · obtain ⟨b, off, rfl, hb, hc⟩ := HL.out (by omega)
            have c0 := (hB.cell (p := ⟨b, off + k * 2, none⟩) hb).trans (hc k hlt).1
            have c1 := (hB.cell (p := ⟨b, off + k * 2 + 1, none⟩) hb).trans (hc k hlt).2
            have y1 : decide ((og L K).2 < (og L k).2) = false := decide_eq_false (by have := HMX.out k hlt; omega)
            clear hc
            have Y3 : Hid ((og L k).2 = (og L K).2 → decide ((og L k).1 < (og L K).1) = false) := Lib.hid fun e1 => decide_eq_false (by
                rcases Nat.lt_or_ge k K with l | l
                · have := HM3.out k l; omega
                · rcases Nat.eq_or_lt_of_le l with e | e
                  · rw [e]; omega
                  · have := HLT.out k hlt K e; omega)
            by_cases e1 : (og L k).2 = (og L K).2
            · have y2 : ((og L k).2 == (og L K).2) = true := beq_iff_eq.2 e1
              have y3 := Y3.out e1
              clear e1
              rcases Nat.lt_trichotomy k j with l | l | l
              · obtain rfl : fb = false := by rw [HF.out]; exact decide_eq_false (by omega)
                have x1 : decide ((og L k).1 < (og L j).1) = true := decide_eq_true (HLT.out j hjl k l)
                have x2 : decide (m < (og L k).2) = false := decide_eq_false (by have := HJ2.out k l; omega)
                have x3 : ((og L k).1 == (og L j).1) = false := beq_eq_false_iff_ne.2 (by have := HLT.out j hjl k l; omega)
                clear HF
                go_wp2_with fail
                go_roundw
                case rel => exact ⟨k + 1, _, by omega, by go_num, rfl, Lib.hid (by rw [decide_eq_false (by omega)]), hB.alloc hbs _⟩
                case measure => simp [intOf]; omega
              · subst l
                obtain rfl : fb = false := by rw [HF.out]; exact decide_eq_false (by omega)
                have x1 : decide ((og L k).1 < (og L k).1) = false := decide_eq_false (by omega)
                have x2 : decide (m < (og L k).2) = true := decide_eq_true HJ1.out
                have x3 : ((og L k).1 == (og L k).1) = true := beq_iff_eq.2 rfl
                clear HF
                go_wp2_with fail
                go_roundw
                case rel => exact ⟨k + 1, _, by omega, by go_num, rfl, Lib.hid (by rw [decide_eq_true (by omega)]), hB.alloc hbs _⟩
                case measure => simp [intOf]; omega
              · obtain rfl : fb = true := by rw [HF.out]; exact decide_eq_true (by omega)
                have x1 : decide ((og L k).1 < (og L j).1) = false := decide_eq_false (by have := HLT.out k hlt j l; omega)
                clear HF
                go_wp2_with fail
                go_roundw
                case rel => exact ⟨k + 1, _, by omega, by go_num, rfl, Lib.hid (by rw [decide_eq_true (by omega)]), hB.alloc hbs _⟩
                case measure => simp [intOf]; omega
            · have y2 : ((og L k).2 == (og L K).2) = false := beq_eq_false_iff_ne.2 e1
              clear e1
              rcases Nat.lt_trichotomy k j with l | l | l
              · obtain rfl : fb = false := by rw [HF.out]; exact decide_eq_false (by omega)
                have x1 : decide ((og L k).1 < (og L j).1) = true := decide_eq_true (HLT.out j hjl k l)
                have x2 : decide (m < (og L k).2) = false := decide_eq_false (by have := HJ2.out k l; omega)
                have x3 : ((og L k).1 == (og L j).1) = false := beq_eq_false_iff_ne.2 (by have := HLT.out j hjl k l; omega)
                clear HF
                go_wp2_with fail
                go_roundw
                case rel => exact ⟨k + 1, _, by omega, by go_num, rfl, Lib.hid (by rw [decide_eq_false (by omega)]), hB.alloc hbs _⟩
                case measure => simp [intOf]; omega
              · subst l
                obtain rfl : fb = false := by rw [HF.out]; exact decide_eq_false (by omega)
                have x1 : decide ((og L k).1 < (og L k).1) = false := decide_eq_false (by omega)
                have x2 : decide (m < (og L k).2) = true := decide_eq_true HJ1.out
                have x3 : ((og L k).1 == (og L k).1) = true := beq_iff_eq.2 rfl
                clear HF
                go_wp2_with fail
                go_roundw
                case rel => exact ⟨k + 1, _, by omega, by go_num, rfl, Lib.hid (by rw [decide_eq_true (by omega)]), hB.alloc hbs _⟩
                case measure => simp [intOf]; omega
              · obtain rfl : fb = true := by rw [HF.out]; exact decide_eq_true (by omega)
                have x1 : decide ((og L k).1 < (og L j).1) = false := decide_eq_false (by have := HLT.out k hlt j l; omega)
                clear HF
                go_wp2_with fail
                go_roundw
                case rel => exact ⟨k + 1, _, by omega, by go_num, rfl, Lib.hid (by rw [decide_eq_true (by omega)]), hB.alloc hbs _⟩
                case measure => simp [intOf]; omega
          · obtain rfl : k = L.length := by omega
            obtain rfl : fb = true := by rw [HF.out]; exact decide_eq_true hjl
            go_wp2_with fail
            go_ret
            exact ⟨rfl, hB⟩
end Go.Proofs.Ytlnodjcmdnmnlaa
