/-
  THE WALK of the law WearSpots.
-/
import Derived.Test.YtfllfabinfmogaaAwake
import Derived.Test.YtfllfabinfmogaaRefS
import Derived.Test.YtfllfabinfmogaaRefW
import Derived.Test.YtfllfabinfmogaaWorst
namespace Go.Proofs.Ytfllfabinfmogaa
open Go.RowKit Go.Shelf
def manyB (n : Int) : Bool := (decide (60 < n) && decide (n ≤ 1000)) || decide (1010 < n)
theorem many_any (n : Int) (w : World) : Calls Try.prog 8 #[.int .i64 n] w fun e w' => e = .returned (.bool (manyB n)) ∧ w = w' := by
  obtain ⟨R, hR⟩ : ∃ R, manyB n = R := ⟨_, rfl⟩
  have HR := Lib.hid hR
  rw [hR]
  clear hR
  go_enter Try.func8, Try.ntmps8
  by_cases q1 : 60 < n
  · by_cases q2 : n ≤ 1000
    · have e1 : decide (60 < n) = true := decide_eq_true q1
      have e2 : decide (n ≤ 1000) = true := decide_eq_true q2
      obtain rfl : R = true := by rw [← HR.out]; unfold manyB; rw [e1, e2]; rfl
      clear q1 q2 HR
      go_wp2
      go_ret
      exact ⟨rfl, rfl⟩
    · have e1 : decide (60 < n) = true := decide_eq_true q1
      have e2 : decide (n ≤ 1000) = false := decide_eq_false q2
      have HR2 : Hid (decide (1010 < n) = R) := Lib.hid (by rw [← HR.out]; unfold manyB; rw [e1, e2]; rfl)
      clear q1 q2 HR
      go_wp2
      go_ret
      exact ⟨ret_bool HR2.out, rfl⟩
  · have e1 : decide (60 < n) = false := decide_eq_false q1
    have HR2 : Hid (decide (1010 < n) = R) := Lib.hid (by rw [← HR.out]; unfold manyB; rw [e1]; rfl)
    clear q1 HR
    go_wp2
    go_ret
    exact ⟨ret_bool HR2.out, rfl⟩
theorem many_len {n : Nat} (h : manyB n = false) : n ≤ 1100 := by
  unfold manyB at h
  simp at h
  omega
set_option maxRecDepth 100000 in
set_option maxHeartbeats 16000000 in
theorem spots_law (len : Int) (a : Option Addr) (L : List (Int × Int)) (cap : Nat) (w : World) (hL : Spans w.heap.size w a L) :
    Calls Try.prog 4 #[.int .i64 len, .slice a L.length cap] w fun e w' => e = .returned (.bool true) ∧ Below w.heap.size w w' := by
  have HL := Lib.hid hL; clear hL
  cases hm : manyB L.length
  · have hl := many_len hm
    have HM := Lib.hid hm
    by_cases he : spotsE len L = 0
    · have HE := Lib.hid he
      have h0 := spotsP_pos he
      have h1 := spotsP_len he
      obtain ⟨_, _, hl2, _, _⟩ := spots_ok he
      have h60 : L.length ≤ 60 := by
        rcases Nat.lt_or_ge 60 L.length with l | l
        · have e1 : manyB L.length = true := by unfold manyB; rw [decide_eq_true (show (60 : Int) < L.length by omega), decide_eq_true (show ((L.length : Nat) : Int) ≤ 1000 by omega)]; rfl
          rw [e1] at hm; cases hm
        · exact l
      have hsl : (spotsP len L).length ≤ 1000 := by
        have := keysP_len len L
        have := spotK_len L (keysP len L)
        have e : spotsP len L = spotK L (keysP len L) := rfl
        rw [e]; omega
      obtain ⟨S, hS⟩ : ∃ S, spotsP len L = S := ⟨_, rfl⟩
      have HW : Hid (worstP len L = og S (worstTo S S.length)) := Lib.hid (by rw [← hS]; rfl)
      rw [hS] at h0 h1 hsl
      have HS := Lib.hid hS
      obtain ⟨P, hP⟩ : ∃ P, worstTo S S.length = P := ⟨_, rfl⟩
      have hPl : P < S.length := by rw [← hP]; exact worst_in S _ (by omega) (Nat.le_refl _)
      have HP := Lib.hid hP
      obtain ⟨x, hx⟩ : ∃ x, og S P = x := ⟨_, rfl⟩
      have HX := Lib.hid hx
      clear he hm hS hP hx
      go_enter Try.func4, Try.ntmps4
      go_upto_region 12 with (first
        | (go_at_call 7; (with_reducible refine (awake_any _).mono ?_); rintro e w1 ⟨rfl, hB1⟩)
        | (go_at_call 8; (with_reducible refine (many_any _ _).mono ?_); rintro e w' ⟨rfl, rfl⟩; rw [HM.out])
        | (go_at_call 19; (with_reducible refine (spots_any (H := Unit) len _ L _ _ (by omega) (HL.out.grow hB1)).mono ?_); rintro e w2 ⟨hv, hb2⟩; obtain ⟨v, rfl, hv1, _⟩ := hv.out; have hr := hv1 HE.out; rw [HS.out] at hr; obtain ⟨pa, pcap, rfl, _, _, _, hLo⟩ := load_of_row hr; rw [HE.out]; have HLo := Lib.hid hLo; have hB2 := hB1.trans (hb2.mono hB1.size); clear hv hv1 hr hLo)
        | (go_at_call 20; (with_reducible refine (worst_any (H := Unit) len _ L _ _ (by omega) (HL.out.grow hB2)).mono ?_); rintro e w3 ⟨rfl, hb3⟩; rw [HE.out, if_pos rfl, if_pos rfl, HW.out, HP.out, HX.out]; have hB3 := hB2.trans (hb3.mono hB2.size))
        | (go_at_call 21; (with_reducible refine (refgiven_any len _ L _ _ _ (by omega) (HL.out.grow hB3)).mono ?_); rintro e w4 ⟨rfl, hb4⟩; rw [HE.out]; have hB4 := hB3.trans (hb4.mono hB3.size))
        | (go_at_call 22; (with_reducible refine (refspots_any len _ L _ _ HE.out (HL.out.grow hB4)).mono ?_); rintro e w5 ⟨hv, hb5⟩; obtain ⟨v, rfl, hr⟩ := hv.out; rw [HS.out] at hr; obtain ⟨qa, qcap, rfl, _, _, _, hLq⟩ := load_of_row hr; have HLq := Lib.hid hLq; have hB5 := hB4.trans (hb5.mono hB4.size); have HLo5 := Lib.hid (((HLo.out.grow hb3).grow hb4).grow hb5); obtain ⟨qb, qoff, rfl, hqb, hqc⟩ := HLq.out (by omega); obtain ⟨k0, k1⟩ := hqc P hPl; rw [HX.out] at k0 k1; clear hv hr hLq hqc)
        | (go_at_call 23; (with_reducible refine (refworst_any _ S _ _ _ (by omega) HLq.out).mono ?_); rintro e w6 ⟨rfl, hb6⟩; rw [HP.out]; have hB6 := hB5.trans (hb6.mono hB5.size); have c0 := (hb6.cell (p := ⟨qb, qoff + P * 2, none⟩) hqb).trans k0; have c1 := (hb6.cell (p := ⟨qb, qoff + P * 2 + 1, none⟩) hqb).trans k1; have HLo6 := Lib.hid (HLo5.out.grow hb6); have HLq6 := Lib.hid (HLq.out.grow hb6)))
      have z1 : (x.1 == x.1) = true := beq_self_eq_true _
      have z2 : (x.2 == x.2) = true := beq_self_eq_true _
      have hW7 := below_new w6 (.cells #[.int .i64 x.1, .int .i64 x.2] 48)
      have d0 : (w6.alloc (.cells #[.int .i64 x.1, .int .i64 x.2] 48)).cell? ⟨w6.heap.size, 0, none⟩ = some (.int .i64 x.1) := by simp
      have d1 : (w6.alloc (.cells #[.int .i64 x.1, .int .i64 x.2] 48)).cell? ⟨w6.heap.size, 1, none⟩ = some (.int .i64 x.2) := by simp
      have hz : w6.heap.size < (w6.alloc (.cells #[.int .i64 x.1, .int .i64 x.2] 48)).heap.size := by simp
      have HEQ : Hid (decide (S = S) = true) := Lib.hid (decide_eq_true rfl)
      have hB7 := hB6.alloc hB6.size (.cells #[.int .i64 x.1, .int .i64 x.2] 48)
      generalize w6.alloc (.cells #[.int .i64 x.1, .int .i64 x.2] 48) = W7 at *
      obtain ⟨B7, hB7e⟩ : ∃ b, w6.heap.size = b := ⟨_, rfl⟩
      have HLo7 := Lib.hid (HLo6.out.grow hW7)
      have HLq7 := Lib.hid (HLq6.out.grow hW7)
      simp only [hB7e] at d0 d1 hz ⊢
      clear hW7
      go_wp2_with (go_at_call 24; (with_reducible refine (load_equal _ _ S S _ _ _ (by omega) HLo7.out HLq7.out (by omega)).mono ?_); rintro e w8 ⟨rfl, hb8⟩; rw [HEQ.out]; have f0 := (hb8.cell (p := ⟨B7, 0, none⟩) hz).trans d0; have f1 := (hb8.cell (p := ⟨B7, 1, none⟩) hz).trans d1; have hB8 := hB7.trans (hb8.mono hB7.size))
      go_ret
      exact ⟨rfl, hB8⟩
    · have HE := Lib.hid he
      obtain ⟨E, hE⟩ : ∃ E, spotsE len L = E := ⟨_, rfl⟩
      rw [hE] at he
      have HEE := Lib.hid hE
      have z1 : (E != 0) = true := by simpa using he
      have z2 : (E == E) = true := beq_self_eq_true _
      clear hm hE
      go_enter Try.func4, Try.ntmps4
      go_wp2_with (first
        | (go_at_call 7; (with_reducible refine (awake_any _).mono ?_); rintro e w1 ⟨rfl, hB1⟩)
        | (go_at_call 8; (with_reducible refine (many_any _ _).mono ?_); rintro e w' ⟨rfl, rfl⟩; rw [HM.out])
        | (go_at_call 19; (with_reducible refine (spots_any (H := Unit) len _ L _ _ (by omega) (HL.out.grow hB1)).mono ?_); rintro e w2 ⟨hv, hb2⟩; obtain ⟨v, rfl, _, hv2⟩ := hv.out; obtain rfl := hv2 HE.out; rw [HEE.out]; have hB2 := hB1.trans (hb2.mono hB1.size); clear hv hv2)
        | (go_at_call 20; (with_reducible refine (worst_any (H := Unit) len _ L _ _ (by omega) (HL.out.grow hB2)).mono ?_); rintro e w3 ⟨rfl, hb3⟩; rw [if_neg HE.out, if_neg HE.out, HEE.out]; have hB3 := hB2.trans (hb3.mono hB2.size))
        | (go_at_call 21; (with_reducible refine (refgiven_any len _ L _ _ _ (by omega) (HL.out.grow hB3)).mono ?_); rintro e w4 ⟨rfl, hb4⟩; rw [HEE.out]; have hB4 := hB3.trans (hb4.mono hB3.size)))
      go_ret
      exact ⟨rfl, hB4⟩
  · have HM := Lib.hid hm
    clear hm
    go_enter Try.func4, Try.ntmps4
    go_wp2_with (first
      | (go_at_call 7; (with_reducible refine (awake_any _).mono ?_); rintro e w1 ⟨rfl, hB1⟩)
      | (go_at_call 8; (with_reducible refine (many_any _ _).mono ?_); rintro e w' ⟨rfl, rfl⟩; rw [HM.out]))
    go_ret
    exact ⟨rfl, hB1⟩
end Go.Proofs.Ytfllfabinfmogaa
