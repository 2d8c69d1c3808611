/-
  THE WALK of the law BricksExact.
-/
import Derived.Test.YtgijekinlkpbkaaFacts
namespace Go.Proofs.Ytgijekinlkpbkaa
open Go.RowKit Go.Shelf
set_option maxRecDepth 100000 in
set_option maxHeartbeats 8000000 in
theorem size_any (L : List BrickR) (ac : Option Addr) (c : List Int) (cc : Nat) (n₀ : Nat) (w : World) (ok : BrickOK L) (hl : L.length ≤ 8) (hc : IsC L c) (hN : Nums n₀ w ac c) :
    Calls Try.prog 29 #[.slice ac c.length cc] w fun e w' => e = .returned (.int .i64 (numC c)) ∧ w = w' := by
  obtain ⟨he, hb⟩ := isC_iff.1 hc
  rw [← numTo_all c]
  have HN := Lib.hid hN
  have HSB := Lib.hid (numTo_bd ok he hb)
  have HBD : Hid (∀ k, k < c.length → 0 ≤ ig c k ∧ ig c k ≤ 60) := Lib.hid fun k hk => by
    have h1 := hb k (by omega)
    have h2 := ok_bg ok (show k < L.length by omega)
    omega
  have hcl : c.length ≤ 8 := by omega
  clear hN hb ok hc he
  go_enter Try.func29, Try.ntmps29
  go_wp2
  go_loop [3, 8] (fun s i => ∃ k : Nat, k ≤ c.length ∧ i = .int .i64 k ∧ s = .int .i64 (numTo c k)) (fun _ i => c.length - (intOf i).toNat)
  case atStart => exact ⟨0, Nat.zero_le _, rfl, rfl⟩
  case round =>
    obtain ⟨k, hk, rfl, rfl⟩ := hrel
    by_cases hlt : k < c.length
    · obtain ⟨b2, off2, rfl, hb2, hx2⟩ := HN.out (by omega)
      have e2 := hx2 k (by omega)
      obtain ⟨n1, n2⟩ := HBD.out k hlt
      obtain ⟨s1, s2⟩ := HSB.out k hk
      have HS : Hid (numTo c (k + 1) = numTo c k + ig c k) := Lib.hid rfl
      generalize ig c k = n at *
      generalize numTo c k = s at *
      clear hx2
      have t2 : IntKind.i64.wrap (s + n) = s + n := IntWalk.i64_in _ (by omega)
      go_wp2
      go_round
      case rel => exact ⟨k + 1, by omega, by go_num, by rw [HS.out]⟩
      case measure => simp [intOf]; omega
    · obtain rfl : k = c.length := by omega
      go_wp2
      go_ret
      exact ⟨rfl, rfl⟩
set_option maxRecDepth 100000 in
set_option maxHeartbeats 32000000 in
theorem exact_law (x : Int) (a : Option Addr) (L : List BrickR) (cap : Nat) (ac : Option Addr) (c : List Int) (cc : Nat) (w : World) (hcap : L.length ≤ cap) (hL : Bricks w.heap.size w a L) (hN : Nums w.heap.size w ac c) :
    Calls Try.prog 8 #[.slice a L.length cap, .int .i64 x, .slice ac c.length cc] w fun e w' => e = .returned (.bool true) ∧ Below w.heap.size w w' := by
  have HL := Lib.hid hL
  have HN := Lib.hid hN
  clear hL hN
  cases hf : fewB L
  · have HF := Lib.hid hf
    clear hf
    go_enter Try.func8, Try.ntmps8
    go_wp2_with (first
      | (go_at_call 9; (with_reducible refine (awake_any _).mono ?_); rintro e w1 ⟨rfl, hB1⟩; have HB := Lib.hid hB1; have HN := Lib.hid (HN.out.grow hB1); clear hB1)
      | (go_at_call 10; (with_reducible refine (few_any _ L _ _ (HL.out.grow HB.out)).mono ?_); rintro e w2 ⟨rfl, hb⟩; rw [HF.out]; have HB := Lib.hid (HB.out.trans (hb.mono HB.out.size)); have HN := Lib.hid (HN.out.grow hb); clear hb))
    go_ret
    exact ⟨rfl, HB.out⟩
  have HF := Lib.hid hf
  obtain ⟨hl, h7⟩ := few_ok hf
  clear h7
  cases hb : brickB L
  · have HR := Lib.hid hb
    clear hf hb
    go_enter Try.func8, Try.ntmps8
    go_wp2_with (first
      | (go_at_call 9; (with_reducible refine (awake_any _).mono ?_); rintro e w1 ⟨rfl, hB1⟩; have HB := Lib.hid hB1; have HN := Lib.hid (HN.out.grow hB1); clear hB1)
      | (go_at_call 10; (with_reducible refine (few_any _ L _ _ (HL.out.grow HB.out)).mono ?_); rintro e w2 ⟨rfl, hb⟩; rw [HF.out]; have HB := Lib.hid (HB.out.trans (hb.mono HB.out.size)); have HN := Lib.hid (HN.out.grow hb); clear hb)
      | (go_at_call 14; (with_reducible refine (right_any _ L _ _ (HL.out.grow HB.out)).mono ?_); rintro e wx ⟨rfl, hb⟩; rw [HR.out]; have HN := Lib.hid (HN.out.grow hb); have HB := Lib.hid (HB.out.trans (hb.mono HB.out.size)); clear hb))
    go_ret
    exact ⟨rfl, HB.out⟩
  have HR := Lib.hid hb
  obtain ⟨hl8, _, _, hok⟩ := brick_ok hb
  have HOK := Lib.hid hok
  by_cases h20 : 20 < (c.length : Int)
  · have g0 : decide (20 < (c.length : Int)) = true := decide_eq_true h20
    clear hf hb hok h20
    go_enter Try.func8, Try.ntmps8
    go_wp2_with (first
      | (go_at_call 9; (with_reducible refine (awake_any _).mono ?_); rintro e w1 ⟨rfl, hB1⟩; have HB := Lib.hid hB1; have HN := Lib.hid (HN.out.grow hB1); clear hB1)
      | (go_at_call 10; (with_reducible refine (few_any _ L _ _ (HL.out.grow HB.out)).mono ?_); rintro e w2 ⟨rfl, hb⟩; rw [HF.out]; have HB := Lib.hid (HB.out.trans (hb.mono HB.out.size)); have HN := Lib.hid (HN.out.grow hb); clear hb)
      | (go_at_call 14; (with_reducible refine (right_any _ L _ _ (HL.out.grow HB.out)).mono ?_); rintro e wx ⟨rfl, hb⟩; rw [HR.out]; have HN := Lib.hid (HN.out.grow hb); have HB := Lib.hid (HB.out.trans (hb.mono HB.out.size)); clear hb))
    go_ret
    exact ⟨rfl, HB.out⟩
  have g0 : decide (20 < (c.length : Int)) = false := decide_eq_false h20
  obtain ⟨c1, e1⟩ := win_is (low := x) (high := x) hb (Int.le_refl _)
  have HC1 := Lib.hid c1
  have HPE : Hid (possE L = 0) := Lib.hid (by unfold possE; rw [if_pos hb])
  have hbest := first_best x x L
  obtain ⟨wn, hwn⟩ : ∃ n, weightN L c = n := ⟨_, rfl⟩
  obtain ⟨we, hwe⟩ : ∃ n, weightE L c = n := ⟨_, rfl⟩
  have HWN := Lib.hid hwn
  have HWE := Lib.hid hwe
  have hyes : IsC L c → wn = sumC L c ∧ we = 0 := fun h => by
    rw [← hwn, ← hwe]
    unfold weightN weightE
    rw [if_pos ⟨hb, h⟩, if_pos hb, if_pos (isC_len h), if_pos h]
    exact ⟨rfl, rfl⟩
  have hno : ¬ IsC L c → (we == 0) = false := fun h => by
    rw [← hwe]
    unfold weightE
    rw [if_pos hb, if_neg h]
    split <;> rfl
  clear hf c1 h20 hwn hwe
  cases hq : firstP x x L with
  | none =>
    rw [hq] at e1 hbest
    obtain ⟨e1, _⟩ | ⟨e1, _⟩ := e1
    · rename_i h; cases h
    have HE1 := Lib.hid e1
    have HPB : Hid (possB x L = false) := Lib.hid (by unfold possB; rw [e1]; rfl)
    have HS1 : Hid (listS (firstP x x L) = []) := Lib.hid (by rw [hq]; rfl)
    clear e1 hq
    by_cases hi : IsC L c
    · obtain ⟨rfl, rfl⟩ := hyes hi
      have g1 : (sumC L c == x) = false := by
        have := hbest c hi
        cases hs : (sumC L c == x)
        · rfl
        · rw [beq_iff_eq] at hs
          unfold winB at this
          rw [decide_eq_true (show x ≤ sumC L c by omega), decide_eq_true (show sumC L c ≤ x by omega)] at this
          cases this
      clear hbest hyes hno hb hok hi
      go_enter Try.func8, Try.ntmps8
      go_wp2_with (first
        | (go_at_call 9; (with_reducible refine (awake_any _).mono ?_); rintro e w1 ⟨rfl, hB1⟩; have HB := Lib.hid hB1; have HN := Lib.hid (HN.out.grow hB1); clear hB1)
        | (go_at_call 10; (with_reducible refine (few_any _ L _ _ (HL.out.grow HB.out)).mono ?_); rintro e w2 ⟨rfl, hb⟩; rw [HF.out]; have HB := Lib.hid (HB.out.trans (hb.mono HB.out.size)); have HN := Lib.hid (HN.out.grow hb); clear hb)
        | (go_at_call 14; (with_reducible refine (right_any _ L _ _ (HL.out.grow HB.out)).mono ?_); rintro e wx ⟨rfl, hb⟩; rw [HR.out]; have HN := Lib.hid (HN.out.grow hb); have HB := Lib.hid (HB.out.trans (hb.mono HB.out.size)); clear hb)
        | (go_at_call 11; (with_reducible refine (fewest_any x _ L _ _ hcap (HL.out.grow HB.out)).mono ?_); rintro e wx ⟨hx, hb⟩; obtain ⟨v, rfl, hv⟩ := hx.out; rw [HC1.out] at hv; rw [HE1.out]; obtain ⟨ca, cd, rfl, _, _, _, hS⟩ := RowV.nums hv; rw [HS1.out] at hS ⊢; have HA1 := Lib.hid hS; have HN := Lib.hid (HN.out.grow hb); have HB := Lib.hid (HB.out.trans (hb.mono HB.out.size)); clear hx hv hS hb)
        | (go_at_call 27; (with_reducible refine (possible_any x _ L _ _ hcap (HL.out.grow HB.out)).mono ?_); rintro e wx ⟨rfl, hb⟩; rw [HPB.out, HPE.out]; have HN := Lib.hid (HN.out.grow hb); have HA1 := Lib.hid (HA1.out.grow hb); have HB := Lib.hid (HB.out.trans (hb.mono HB.out.size)); clear hb)
        | (go_at_call 23; (with_reducible refine (weight_any _ L _ _ c _ _ hcap (HL.out.grow HB.out) HN.out).mono ?_); rintro e wx ⟨rfl, hb⟩; rw [HWN.out, HWE.out]; have HN := Lib.hid (HN.out.grow hb); have HA1 := Lib.hid (HA1.out.grow hb); have HB := Lib.hid (HB.out.trans (hb.mono HB.out.size)); clear hb))
      go_ret
      exact ⟨rfl, HB.out⟩
    · have g1 := hno hi
      clear hbest hyes hno hb hok hi
      go_enter Try.func8, Try.ntmps8
      go_wp2_with (first
        | (go_at_call 9; (with_reducible refine (awake_any _).mono ?_); rintro e w1 ⟨rfl, hB1⟩; have HB := Lib.hid hB1; have HN := Lib.hid (HN.out.grow hB1); clear hB1)
        | (go_at_call 10; (with_reducible refine (few_any _ L _ _ (HL.out.grow HB.out)).mono ?_); rintro e w2 ⟨rfl, hb⟩; rw [HF.out]; have HB := Lib.hid (HB.out.trans (hb.mono HB.out.size)); have HN := Lib.hid (HN.out.grow hb); clear hb)
        | (go_at_call 14; (with_reducible refine (right_any _ L _ _ (HL.out.grow HB.out)).mono ?_); rintro e wx ⟨rfl, hb⟩; rw [HR.out]; have HN := Lib.hid (HN.out.grow hb); have HB := Lib.hid (HB.out.trans (hb.mono HB.out.size)); clear hb)
        | (go_at_call 11; (with_reducible refine (fewest_any x _ L _ _ hcap (HL.out.grow HB.out)).mono ?_); rintro e wx ⟨hx, hb⟩; obtain ⟨v, rfl, hv⟩ := hx.out; rw [HC1.out] at hv; rw [HE1.out]; obtain ⟨ca, cd, rfl, _, _, _, hS⟩ := RowV.nums hv; rw [HS1.out] at hS ⊢; have HA1 := Lib.hid hS; have HN := Lib.hid (HN.out.grow hb); have HB := Lib.hid (HB.out.trans (hb.mono HB.out.size)); clear hx hv hS hb)
        | (go_at_call 27; (with_reducible refine (possible_any x _ L _ _ hcap (HL.out.grow HB.out)).mono ?_); rintro e wx ⟨rfl, hb⟩; rw [HPB.out, HPE.out]; have HN := Lib.hid (HN.out.grow hb); have HA1 := Lib.hid (HA1.out.grow hb); have HB := Lib.hid (HB.out.trans (hb.mono HB.out.size)); clear hb)
        | (go_at_call 23; (with_reducible refine (weight_any _ L _ _ c _ _ hcap (HL.out.grow HB.out) HN.out).mono ?_); rintro e wx ⟨rfl, hb⟩; rw [HWN.out, HWE.out]; have HN := Lib.hid (HN.out.grow hb); have HA1 := Lib.hid (HA1.out.grow hb); have HB := Lib.hid (HB.out.trans (hb.mono HB.out.size)); clear hb))
      go_ret
      exact ⟨rfl, HB.out⟩
  | some p =>
    obtain ⟨S1, m⟩ := p
    rw [hq] at e1 hbest
    obtain ⟨hi1, hw1, rfl, hbe⟩ := hbest
    obtain ⟨e1, _⟩ | ⟨e1, _⟩ := e1
    case inr h => cases h
    have HE1 := Lib.hid e1
    have HPB : Hid (possB x L = true) := Lib.hid (by unfold possB; rw [e1]; rfl)
    have HS1 : Hid (listS (firstP x x L) = S1) := Lib.hid (by rw [hq]; rfl)
    have HI1 := Lib.hid hi1
    have hsx : sumC L S1 = x := by
      unfold winB at hw1
      simp only [Bool.and_eq_true, decide_eq_true_eq] at hw1
      omega
    have HVN : Hid (weightN L S1 = x) := Lib.hid (by unfold weightN; rw [if_pos ⟨hb, hi1⟩]; exact hsx)
    have HVE : Hid (weightE L S1 = 0) := Lib.hid (by unfold weightE; rw [if_pos hb, if_pos (isC_len hi1), if_pos hi1])
    have z1 : (x == x) = true := beq_self_eq_true _
    clear e1 hq hw1
    by_cases hi : IsC L c
    · obtain ⟨rfl, rfl⟩ := hyes hi
      have HI2 := Lib.hid hi
      by_cases hx : sumC L c = x
      · have hle : numC S1 ≤ numC c := by
          rcases hbe c hi (by unfold winB; rw [hx, decide_eq_true (Int.le_refl x)]; rfl) with e | e
          · rw [e]; exact Int.le_refl _
          · unfold beforeB at e
            split at e
            · omega
            · have := of_decide_eq_true e; omega
        have g1 : decide (numC c < numC S1) = false := decide_eq_false (by omega)
        have HWN : Hid (weightN L c = x) := Lib.hid (by rw [HWN.out, hx])
        clear hbe hyes hno hb hok hi hle hx hsx hi1
        go_enter Try.func8, Try.ntmps8
        go_wp2_with (first
          | (go_at_call 9; (with_reducible refine (awake_any _).mono ?_); rintro e w1 ⟨rfl, hB1⟩; have HB := Lib.hid hB1; have HN := Lib.hid (HN.out.grow hB1); clear hB1)
          | (go_at_call 10; (with_reducible refine (few_any _ L _ _ (HL.out.grow HB.out)).mono ?_); rintro e w2 ⟨rfl, hb⟩; rw [HF.out]; have HB := Lib.hid (HB.out.trans (hb.mono HB.out.size)); have HN := Lib.hid (HN.out.grow hb); clear hb)
          | (go_at_call 14; (with_reducible refine (right_any _ L _ _ (HL.out.grow HB.out)).mono ?_); rintro e wx ⟨rfl, hb⟩; rw [HR.out]; have HN := Lib.hid (HN.out.grow hb); have HB := Lib.hid (HB.out.trans (hb.mono HB.out.size)); clear hb)
          | (go_at_call 11; (with_reducible refine (fewest_any x _ L _ _ hcap (HL.out.grow HB.out)).mono ?_); rintro e wx ⟨hx, hb⟩; obtain ⟨v, rfl, hv⟩ := hx.out; rw [HC1.out] at hv; rw [HE1.out]; obtain ⟨ca, cd, rfl, _, _, _, hS⟩ := RowV.nums hv; rw [HS1.out] at hS ⊢; have HA1 := Lib.hid hS; have HN := Lib.hid (HN.out.grow hb); have HB := Lib.hid (HB.out.trans (hb.mono HB.out.size)); clear hx hv hS hb)
          | (go_at_call 27; (with_reducible refine (possible_any x _ L _ _ hcap (HL.out.grow HB.out)).mono ?_); rintro e wx ⟨rfl, hb⟩; rw [HPB.out, HPE.out]; have HN := Lib.hid (HN.out.grow hb); have HA1 := Lib.hid (HA1.out.grow hb); have HB := Lib.hid (HB.out.trans (hb.mono HB.out.size)); clear hb)
          | (go_at_call 23; (with_reducible refine (weight_any _ L _ _ c _ _ hcap (HL.out.grow HB.out) HN.out).mono ?_); rintro e wx ⟨rfl, hb⟩; rw [HWN.out, HWE.out]; have HN := Lib.hid (HN.out.grow hb); have HA1 := Lib.hid (HA1.out.grow hb); have HB := Lib.hid (HB.out.trans (hb.mono HB.out.size)); clear hb)
          | (go_at_call 29; (with_reducible refine (size_any L _ S1 _ _ _ HOK.out hl8 HI1.out HA1.out).mono ?_); rintro e wx ⟨rfl, rfl⟩)
          | (go_at_call 29; (with_reducible refine (size_any L _ c _ _ _ HOK.out hl8 HI2.out HN.out).mono ?_); rintro e wx ⟨rfl, rfl⟩)
          | (go_at_call 23; (with_reducible refine (weight_any _ L _ _ S1 _ _ hcap (HL.out.grow HB.out) HA1.out).mono ?_); rintro e wx ⟨rfl, hb⟩; rw [HVN.out, HVE.out]; have HN := Lib.hid (HN.out.grow hb); have HA1 := Lib.hid (HA1.out.grow hb); have HB := Lib.hid (HB.out.trans (hb.mono HB.out.size)); clear hb))
        go_ret
        exact ⟨rfl, HB.out⟩
      · have g1 : (sumC L c == x) = false := beq_eq_false_iff_ne.2 hx
        clear hbe hyes hno hb hok hi hx hsx hi1
        go_enter Try.func8, Try.ntmps8
        go_wp2_with (first
          | (go_at_call 9; (with_reducible refine (awake_any _).mono ?_); rintro e w1 ⟨rfl, hB1⟩; have HB := Lib.hid hB1; have HN := Lib.hid (HN.out.grow hB1); clear hB1)
          | (go_at_call 10; (with_reducible refine (few_any _ L _ _ (HL.out.grow HB.out)).mono ?_); rintro e w2 ⟨rfl, hb⟩; rw [HF.out]; have HB := Lib.hid (HB.out.trans (hb.mono HB.out.size)); have HN := Lib.hid (HN.out.grow hb); clear hb)
          | (go_at_call 14; (with_reducible refine (right_any _ L _ _ (HL.out.grow HB.out)).mono ?_); rintro e wx ⟨rfl, hb⟩; rw [HR.out]; have HN := Lib.hid (HN.out.grow hb); have HB := Lib.hid (HB.out.trans (hb.mono HB.out.size)); clear hb)
          | (go_at_call 11; (with_reducible refine (fewest_any x _ L _ _ hcap (HL.out.grow HB.out)).mono ?_); rintro e wx ⟨hx, hb⟩; obtain ⟨v, rfl, hv⟩ := hx.out; rw [HC1.out] at hv; rw [HE1.out]; obtain ⟨ca, cd, rfl, _, _, _, hS⟩ := RowV.nums hv; rw [HS1.out] at hS ⊢; have HA1 := Lib.hid hS; have HN := Lib.hid (HN.out.grow hb); have HB := Lib.hid (HB.out.trans (hb.mono HB.out.size)); clear hx hv hS hb)
          | (go_at_call 27; (with_reducible refine (possible_any x _ L _ _ hcap (HL.out.grow HB.out)).mono ?_); rintro e wx ⟨rfl, hb⟩; rw [HPB.out, HPE.out]; have HN := Lib.hid (HN.out.grow hb); have HA1 := Lib.hid (HA1.out.grow hb); have HB := Lib.hid (HB.out.trans (hb.mono HB.out.size)); clear hb)
          | (go_at_call 23; (with_reducible refine (weight_any _ L _ _ c _ _ hcap (HL.out.grow HB.out) HN.out).mono ?_); rintro e wx ⟨rfl, hb⟩; rw [HWN.out, HWE.out]; have HN := Lib.hid (HN.out.grow hb); have HA1 := Lib.hid (HA1.out.grow hb); have HB := Lib.hid (HB.out.trans (hb.mono HB.out.size)); clear hb)
          | (go_at_call 23; (with_reducible refine (weight_any _ L _ _ S1 _ _ hcap (HL.out.grow HB.out) HA1.out).mono ?_); rintro e wx ⟨rfl, hb⟩; rw [HVN.out, HVE.out]; have HN := Lib.hid (HN.out.grow hb); have HA1 := Lib.hid (HA1.out.grow hb); have HB := Lib.hid (HB.out.trans (hb.mono HB.out.size)); clear hb))
        go_ret
        exact ⟨rfl, HB.out⟩
    · have g1 := hno hi
      clear hbe hyes hno hb hok hi hsx hi1
      go_enter Try.func8, Try.ntmps8
      go_wp2_with (first
        | (go_at_call 9; (with_reducible refine (awake_any _).mono ?_); rintro e w1 ⟨rfl, hB1⟩; have HB := Lib.hid hB1; have HN := Lib.hid (HN.out.grow hB1); clear hB1)
        | (go_at_call 10; (with_reducible refine (few_any _ L _ _ (HL.out.grow HB.out)).mono ?_); rintro e w2 ⟨rfl, hb⟩; rw [HF.out]; have HB := Lib.hid (HB.out.trans (hb.mono HB.out.size)); have HN := Lib.hid (HN.out.grow hb); clear hb)
        | (go_at_call 14; (with_reducible refine (right_any _ L _ _ (HL.out.grow HB.out)).mono ?_); rintro e wx ⟨rfl, hb⟩; rw [HR.out]; have HN := Lib.hid (HN.out.grow hb); have HB := Lib.hid (HB.out.trans (hb.mono HB.out.size)); clear hb)
        | (go_at_call 11; (with_reducible refine (fewest_any x _ L _ _ hcap (HL.out.grow HB.out)).mono ?_); rintro e wx ⟨hx, hb⟩; obtain ⟨v, rfl, hv⟩ := hx.out; rw [HC1.out] at hv; rw [HE1.out]; obtain ⟨ca, cd, rfl, _, _, _, hS⟩ := RowV.nums hv; rw [HS1.out] at hS ⊢; have HA1 := Lib.hid hS; have HN := Lib.hid (HN.out.grow hb); have HB := Lib.hid (HB.out.trans (hb.mono HB.out.size)); clear hx hv hS hb)
        | (go_at_call 27; (with_reducible refine (possible_any x _ L _ _ hcap (HL.out.grow HB.out)).mono ?_); rintro e wx ⟨rfl, hb⟩; rw [HPB.out, HPE.out]; have HN := Lib.hid (HN.out.grow hb); have HA1 := Lib.hid (HA1.out.grow hb); have HB := Lib.hid (HB.out.trans (hb.mono HB.out.size)); clear hb)
        | (go_at_call 23; (with_reducible refine (weight_any _ L _ _ c _ _ hcap (HL.out.grow HB.out) HN.out).mono ?_); rintro e wx ⟨rfl, hb⟩; rw [HWN.out, HWE.out]; have HN := Lib.hid (HN.out.grow hb); have HA1 := Lib.hid (HA1.out.grow hb); have HB := Lib.hid (HB.out.trans (hb.mono HB.out.size)); clear hb)
        | (go_at_call 23; (with_reducible refine (weight_any _ L _ _ S1 _ _ hcap (HL.out.grow HB.out) HA1.out).mono ?_); rintro e wx ⟨rfl, hb⟩; rw [HVN.out, HVE.out]; have HN := Lib.hid (HN.out.grow hb); have HA1 := Lib.hid (HA1.out.grow hb); have HB := Lib.hid (HB.out.trans (hb.mono HB.out.size)); clear hb))
      go_ret
      exact ⟨rfl, HB.out⟩
end Go.Proofs.Ytgijekinlkpbkaa
