/-
  THE WALK of the law BricksFinds.
-/
import Derived.Test.YtgijekinlkpbkaaFacts
namespace Go.Proofs.Ytgijekinlkpbkaa
open Go.RowKit Go.Shelf
set_option maxRecDepth 100000 in
set_option maxHeartbeats 32000000 in
theorem finds_law (x low high : Int) (a : Option Addr) (L : List BrickR) (cap : Nat) (w : World) (hcap : L.length ≤ cap) (hL : Bricks w.heap.size w a L) :
    Calls Try.prog 3 #[.slice a L.length cap, .int .i64 x, .int .i64 low, .int .i64 high] w fun e w' => e = .returned (.bool true) ∧ Below w.heap.size w w' := by
  have HL := Lib.hid hL; clear hL
  cases hf : fewB L
  · have HF := Lib.hid hf
    clear hf
    go_enter Try.func3, Try.ntmps3
    go_wp2_with (first
      | (go_at_call 9; (with_reducible refine (awake_any _).mono ?_); rintro e w1 ⟨rfl, hB1⟩; have HB := Lib.hid hB1; clear hB1)
      | (go_at_call 10; (with_reducible refine (few_any _ L _ _ (HL.out.grow HB.out)).mono ?_); rintro e w2 ⟨rfl, hb⟩; rw [HF.out]; have HB := Lib.hid (HB.out.trans (hb.mono HB.out.size)); clear hb))
    go_ret
    exact ⟨rfl, HB.out⟩
  have HF := Lib.hid hf
  obtain ⟨hl, h7⟩ := few_ok hf
  cases hb : brickB L
  · have HR := Lib.hid hb
    have HC1 : Hid (winC x x L = none) := Lib.hid (by unfold winC; rw [if_neg fun h => by rw [hb] at h; cases h.1])
    have HE1 : Hid (winE x x L = 1) := Lib.hid (by unfold winE; rw [if_neg fun h => by rw [hb] at h; cases h])
    have HC2 : Hid (nearC x L = none) := Lib.hid (by unfold nearC; rw [if_neg fun h => by rw [hb] at h; cases h.1])
    have HE2 : Hid (nearE x L = 1) := Lib.hid (by unfold nearE; rw [if_neg fun h => by rw [hb] at h; cases h])
    have HC3 : Hid (winC low high L = none) := Lib.hid (by unfold winC; rw [if_neg fun h => by rw [hb] at h; cases h.1])
    have HE3 : Hid (winE low high L = 1) := Lib.hid (by unfold winE; rw [if_neg fun h => by rw [hb] at h; cases h])
    have HSS : Hid (listS none = ([] : List Int)) := Lib.hid rfl
    clear hf hb h7
    go_enter Try.func3, Try.ntmps3
    go_wp2_with (first
      | (go_at_call 9; (with_reducible refine (awake_any _).mono ?_); rintro e w1 ⟨rfl, hB1⟩; have HB := Lib.hid hB1; clear hB1)
      | (go_at_call 10; (with_reducible refine (few_any _ L _ _ (HL.out.grow HB.out)).mono ?_); rintro e w2 ⟨rfl, hb⟩; rw [HF.out]; have HB := Lib.hid (HB.out.trans (hb.mono HB.out.size)); clear hb)
      | (go_at_call 11; (with_reducible refine (fewest_any x _ L _ _ hcap (HL.out.grow HB.out)).mono ?_); rintro e wx ⟨hx, hb⟩; obtain ⟨v, rfl, hv⟩ := hx.out; rw [HC1.out] at hv; rw [HE1.out]; obtain ⟨ha1a, ha1c, rfl, _, _, _, hS⟩ := RowV.nums hv; rw [HSS.out] at hS ⊢; have HA1 := Lib.hid hS; have HB := Lib.hid (HB.out.trans (hb.mono HB.out.size)); clear hx hv hS hb)
      | (go_at_call 12; (with_reducible refine (near26_any x _ L _ _ hcap (HL.out.grow HB.out)).mono ?_); rintro e wx ⟨hx, hb⟩; obtain ⟨v, rfl, hv⟩ := hx.out; rw [HC2.out] at hv; rw [HE2.out]; obtain ⟨ha2a, ha2c, rfl, _, _, _, hS⟩ := RowV.nums hv; rw [HSS.out] at hS ⊢; have HA2 := Lib.hid hS; have HB := Lib.hid (HB.out.trans (hb.mono HB.out.size)); clear hx hv hS hb)
      | (go_at_call 13; (with_reducible refine (window_any low high _ L _ _ hcap (HL.out.grow HB.out)).mono ?_); rintro e wx ⟨hx, hb⟩; obtain ⟨v, rfl, hv⟩ := hx.out; rw [HC3.out] at hv; rw [HE3.out]; obtain ⟨ha3a, ha3c, rfl, _, _, _, hS⟩ := RowV.nums hv; rw [HSS.out] at hS ⊢; have HA3 := Lib.hid hS; have HB := Lib.hid (HB.out.trans (hb.mono HB.out.size)); clear hx hv hS hb)
      | (go_at_call 14; (with_reducible refine (right_any _ L _ _ (HL.out.grow HB.out)).mono ?_); rintro e wx ⟨rfl, hb⟩; rw [HR.out]; have HB := Lib.hid (HB.out.trans (hb.mono HB.out.size)); clear hb))
    go_ret
    exact ⟨rfl, HB.out⟩
  have HR := Lib.hid hb
  obtain ⟨hl8, _, _, hok⟩ := brick_ok hb
  have HOK := Lib.hid hok
  have H7 := Lib.hid (h7 hb)
  obtain ⟨c1, e1⟩ := win_is (low := x) (high := x) hb (Int.le_refl _)
  have HC1 := Lib.hid c1
  obtain ⟨S1, hS1⟩ : ∃ S, listS (firstP x x L) = S := ⟨_, rfl⟩
  have HS1 := Lib.hid hS1
  have l1 : S1.length ≤ 8 := by rw [← hS1]; exact Nat.le_trans listS_len hl8
  obtain ⟨S3, hS3⟩ : ∃ S, listS (firstP low high L) = S := ⟨_, rfl⟩
  have HS3 := Lib.hid hS3
  have l3 : S3.length ≤ 8 := by rw [← hS3]; exact Nat.le_trans listS_len hl8
  have h2 : (x < -1099511627776 ∨ 1099511627776 < x) ∨ (-1099511627776 ≤ x ∧ x ≤ 1099511627776) := by omega
  have h3 : high < low ∨ low ≤ high := by omega
  clear hf h7 c1 hS1 hS3
  rcases e1 with ⟨e1, p1⟩ | ⟨e1, p1⟩
  all_goals
    have HE1 := Lib.hid e1
    have HP1 := Lib.hid p1
    clear e1 p1
    rcases h2 with h2 | h2
    · have HC2 : Hid (nearC x L = none) := Lib.hid (by unfold nearC; rw [if_neg (by omega)])
      have HE2 : Hid (nearE x L = 2) := Lib.hid (by unfold nearE; rw [if_pos hb, if_neg (by omega)])
      have HSS : Hid (listS none = ([] : List Int)) := Lib.hid rfl
      rcases h3 with h3 | h3
      · have HC3 : Hid (winC low high L = none) := Lib.hid (by unfold winC; rw [if_neg (by omega)])
        have HE3 : Hid (winE low high L = 17) := Lib.hid (by unfold winE; rw [if_pos hb, if_neg (by omega)])
        have g3 : decide (high < low) = true := decide_eq_true h3
        rcases h2 with h2 | h2
        all_goals
          have g1 : decide (x < -1099511627776) = true ∨ (decide (x < -1099511627776) = false ∧ decide (1099511627776 < x) = true) := by first | exact Or.inl (decide_eq_true h2) | exact Or.inr ⟨decide_eq_false (by omega), decide_eq_true h2⟩
          clear hb hok
          obtain g1 | ⟨g1, g2⟩ := g1
          all_goals
            go_enter Try.func3, Try.ntmps3
            go_wp2_with (first
              | (go_at_call 9; (with_reducible refine (awake_any _).mono ?_); rintro e w1 ⟨rfl, hB1⟩; have HB := Lib.hid hB1; clear hB1)
              | (go_at_call 10; (with_reducible refine (few_any _ L _ _ (HL.out.grow HB.out)).mono ?_); rintro e w2 ⟨rfl, hb⟩; rw [HF.out]; have HB := Lib.hid (HB.out.trans (hb.mono HB.out.size)); clear hb)
              | (go_at_call 11; (with_reducible refine (fewest_any x _ L _ _ hcap (HL.out.grow HB.out)).mono ?_); rintro e wx ⟨hx, hb⟩; obtain ⟨v, rfl, hv⟩ := hx.out; rw [HC1.out] at hv; rw [HE1.out]; obtain ⟨ha1a, ha1c, rfl, _, _, _, hS⟩ := RowV.nums hv; rw [HS1.out] at hS ⊢; have HA1 := Lib.hid hS; have HB := Lib.hid (HB.out.trans (hb.mono HB.out.size)); clear hx hv hS hb)
              | (go_at_call 12; (with_reducible refine (near26_any x _ L _ _ hcap (HL.out.grow HB.out)).mono ?_); rintro e wx ⟨hx, hb⟩; obtain ⟨v, rfl, hv⟩ := hx.out; rw [HC2.out] at hv; rw [HE2.out]; obtain ⟨ha2a, ha2c, rfl, _, _, _, hS⟩ := RowV.nums hv; rw [HSS.out] at hS ⊢; have HA2 := Lib.hid hS; have HA1 := Lib.hid (HA1.out.grow hb); have HB := Lib.hid (HB.out.trans (hb.mono HB.out.size)); clear hx hv hS hb)
              | (go_at_call 13; (with_reducible refine (window_any low high _ L _ _ hcap (HL.out.grow HB.out)).mono ?_); rintro e wx ⟨hx, hb⟩; obtain ⟨v, rfl, hv⟩ := hx.out; rw [HC3.out] at hv; rw [HE3.out]; obtain ⟨ha3a, ha3c, rfl, _, _, _, hS⟩ := RowV.nums hv; rw [HSS.out] at hS ⊢; have HA3 := Lib.hid hS; have HA1 := Lib.hid (HA1.out.grow hb); have HA2 := Lib.hid (HA2.out.grow hb); have HB := Lib.hid (HB.out.trans (hb.mono HB.out.size)); clear hx hv hS hb)
              | (go_at_call 14; (with_reducible refine (right_any _ L _ _ (HL.out.grow HB.out)).mono ?_); rintro e wx ⟨rfl, hb⟩; rw [HR.out]; have HA1 := Lib.hid (HA1.out.grow hb); have HA2 := Lib.hid (HA2.out.grow hb); have HA3 := Lib.hid (HA3.out.grow hb); have HB := Lib.hid (HB.out.trans (hb.mono HB.out.size)); clear hb)
              | (go_at_call 15; (with_reducible refine (reffirst_any x x _ L _ _ HOK.out hl8 (HL.out.grow HB.out)).mono ?_); rintro e wx ⟨hx, hb⟩; obtain ⟨v, rfl, va, vc, rfl, _, _, _, hS⟩ := hx.out; rw [HS1.out] at hS ⊢; rw [HP1.out]; have HX1 := Lib.hid hS; have HA1 := Lib.hid (HA1.out.grow hb); have HA2 := Lib.hid (HA2.out.grow hb); have HA3 := Lib.hid (HA3.out.grow hb); have HB := Lib.hid (HB.out.trans (hb.mono HB.out.size)); clear hx hS hb)
              | (go_at_call 16; (with_reducible refine (eq_ex _ _ S1 _ _ _ _ rfl (by omega) HA1.out HX1.out).mono ?_); rintro e wx ⟨rfl, hb⟩; have HA2 := Lib.hid (HA2.out.grow hb); have HA3 := Lib.hid (HA3.out.grow hb); have HB := Lib.hid (HB.out.trans (hb.mono HB.out.size)); clear hb))
            go_ret
            exact ⟨rfl, HB.out⟩
      · obtain ⟨c3, e3⟩ := win_is (low := low) (high := high) hb h3
        have HC3 := Lib.hid c3
        have g3 : decide (high < low) = false := decide_eq_false (by omega)
        clear c3
        rcases e3 with ⟨e3, p3⟩ | ⟨e3, p3⟩
        all_goals
          have HE3 := Lib.hid e3
          have HP3 := Lib.hid p3
          clear e3 p3
          rcases h2 with h2 | h2
          all_goals
            have g1 : decide (x < -1099511627776) = true ∨ (decide (x < -1099511627776) = false ∧ decide (1099511627776 < x) = true) := by first | exact Or.inl (decide_eq_true h2) | exact Or.inr ⟨decide_eq_false (by omega), decide_eq_true h2⟩
            clear hb hok
            obtain g1 | ⟨g1, g2⟩ := g1
            all_goals
              go_enter Try.func3, Try.ntmps3
              go_wp2_with (first
                | (go_at_call 9; (with_reducible refine (awake_any _).mono ?_); rintro e w1 ⟨rfl, hB1⟩; have HB := Lib.hid hB1; clear hB1)
                | (go_at_call 10; (with_reducible refine (few_any _ L _ _ (HL.out.grow HB.out)).mono ?_); rintro e w2 ⟨rfl, hb⟩; rw [HF.out]; have HB := Lib.hid (HB.out.trans (hb.mono HB.out.size)); clear hb)
                | (go_at_call 11; (with_reducible refine (fewest_any x _ L _ _ hcap (HL.out.grow HB.out)).mono ?_); rintro e wx ⟨hx, hb⟩; obtain ⟨v, rfl, hv⟩ := hx.out; rw [HC1.out] at hv; rw [HE1.out]; obtain ⟨ha1a, ha1c, rfl, _, _, _, hS⟩ := RowV.nums hv; rw [HS1.out] at hS ⊢; have HA1 := Lib.hid hS; have HB := Lib.hid (HB.out.trans (hb.mono HB.out.size)); clear hx hv hS hb)
                | (go_at_call 12; (with_reducible refine (near26_any x _ L _ _ hcap (HL.out.grow HB.out)).mono ?_); rintro e wx ⟨hx, hb⟩; obtain ⟨v, rfl, hv⟩ := hx.out; rw [HC2.out] at hv; rw [HE2.out]; obtain ⟨ha2a, ha2c, rfl, _, _, _, hS⟩ := RowV.nums hv; rw [HSS.out] at hS ⊢; have HA2 := Lib.hid hS; have HA1 := Lib.hid (HA1.out.grow hb); have HB := Lib.hid (HB.out.trans (hb.mono HB.out.size)); clear hx hv hS hb)
                | (go_at_call 13; (with_reducible refine (window_any low high _ L _ _ hcap (HL.out.grow HB.out)).mono ?_); rintro e wx ⟨hx, hb⟩; obtain ⟨v, rfl, hv⟩ := hx.out; rw [HC3.out] at hv; rw [HE3.out]; obtain ⟨ha3a, ha3c, rfl, _, _, _, hS⟩ := RowV.nums hv; rw [HS3.out] at hS ⊢; have HA3 := Lib.hid hS; have HA1 := Lib.hid (HA1.out.grow hb); have HA2 := Lib.hid (HA2.out.grow hb); have HB := Lib.hid (HB.out.trans (hb.mono HB.out.size)); clear hx hv hS hb)
                | (go_at_call 14; (with_reducible refine (right_any _ L _ _ (HL.out.grow HB.out)).mono ?_); rintro e wx ⟨rfl, hb⟩; rw [HR.out]; have HA1 := Lib.hid (HA1.out.grow hb); have HA2 := Lib.hid (HA2.out.grow hb); have HA3 := Lib.hid (HA3.out.grow hb); have HB := Lib.hid (HB.out.trans (hb.mono HB.out.size)); clear hb)
                | (go_at_call 15; (with_reducible refine (reffirst_any x x _ L _ _ HOK.out hl8 (HL.out.grow HB.out)).mono ?_); rintro e wx ⟨hx, hb⟩; obtain ⟨v, rfl, va, vc, rfl, _, _, _, hS⟩ := hx.out; rw [HS1.out] at hS ⊢; rw [HP1.out]; have HX1 := Lib.hid hS; have HA1 := Lib.hid (HA1.out.grow hb); have HA2 := Lib.hid (HA2.out.grow hb); have HA3 := Lib.hid (HA3.out.grow hb); have HB := Lib.hid (HB.out.trans (hb.mono HB.out.size)); clear hx hS hb)
                | (go_at_call 16; (with_reducible refine (eq_ex _ _ S1 _ _ _ _ rfl (by omega) HA1.out HX1.out).mono ?_); rintro e wx ⟨rfl, hb⟩; have HA2 := Lib.hid (HA2.out.grow hb); have HA3 := Lib.hid (HA3.out.grow hb); have HB := Lib.hid (HB.out.trans (hb.mono HB.out.size)); clear hb)
                | (go_at_call 15; (with_reducible refine (reffirst_any low high _ L _ _ HOK.out hl8 (HL.out.grow HB.out)).mono ?_); rintro e wx ⟨hx, hb⟩; obtain ⟨v, rfl, va, vc, rfl, _, _, _, hS⟩ := hx.out; rw [HS3.out] at hS ⊢; rw [HP3.out]; have HX3 := Lib.hid hS; have HA3 := Lib.hid (HA3.out.grow hb); have HB := Lib.hid (HB.out.trans (hb.mono HB.out.size)); clear hx hS hb)
                | (go_at_call 16; (with_reducible refine (eq_ex _ _ S3 _ _ _ _ rfl (by omega) HA3.out HX3.out).mono ?_); rintro e wx ⟨rfl, hb⟩; have HB := Lib.hid (HB.out.trans (hb.mono HB.out.size)); clear hb))
              go_ret
              exact ⟨rfl, HB.out⟩
    · obtain ⟨c2, e2⟩ := near_is hb hok h2
      have HC2 := Lib.hid c2
      have HE2 := Lib.hid e2
      obtain ⟨S2, hS2⟩ : ∃ S, listS (firstP (nearP x L) (nearP x L) L) = S := ⟨_, rfl⟩
      have HSS := Lib.hid hS2
      have l2 : S2.length ≤ 8 := by rw [← hS2]; exact Nat.le_trans listS_len hl8
      have g1 : decide (x < -1099511627776) = false := decide_eq_false (by omega)
      have g2 : decide (1099511627776 < x) = false := decide_eq_false (by omega)
      clear c2 e2 hS2
      rcases h3 with h3 | h3
      · have HC3 : Hid (winC low high L = none) := Lib.hid (by unfold winC; rw [if_neg (by omega)])
        have HE3 : Hid (winE low high L = 17) := Lib.hid (by unfold winE; rw [if_pos hb, if_neg (by omega)])
        have HSN : Hid (listS none = ([] : List Int)) := Lib.hid rfl
        have g3 : decide (high < low) = true := decide_eq_true h3
        clear hb hok
        go_enter Try.func3, Try.ntmps3
        go_wp2_with (first
          | (go_at_call 9; (with_reducible refine (awake_any _).mono ?_); rintro e w1 ⟨rfl, hB1⟩; have HB := Lib.hid hB1; clear hB1)
          | (go_at_call 10; (with_reducible refine (few_any _ L _ _ (HL.out.grow HB.out)).mono ?_); rintro e w2 ⟨rfl, hb⟩; rw [HF.out]; have HB := Lib.hid (HB.out.trans (hb.mono HB.out.size)); clear hb)
          | (go_at_call 11; (with_reducible refine (fewest_any x _ L _ _ hcap (HL.out.grow HB.out)).mono ?_); rintro e wx ⟨hx, hb⟩; obtain ⟨v, rfl, hv⟩ := hx.out; rw [HC1.out] at hv; rw [HE1.out]; obtain ⟨ha1a, ha1c, rfl, _, _, _, hS⟩ := RowV.nums hv; rw [HS1.out] at hS ⊢; have HA1 := Lib.hid hS; have HB := Lib.hid (HB.out.trans (hb.mono HB.out.size)); clear hx hv hS hb)
          | (go_at_call 12; (with_reducible refine (near26_any x _ L _ _ hcap (HL.out.grow HB.out)).mono ?_); rintro e wx ⟨hx, hb⟩; obtain ⟨v, rfl, hv⟩ := hx.out; rw [HC2.out] at hv; rw [HE2.out]; obtain ⟨ha2a, ha2c, rfl, _, _, _, hS⟩ := RowV.nums hv; rw [HSS.out] at hS ⊢; have HA2 := Lib.hid hS; have HA1 := Lib.hid (HA1.out.grow hb); have HB := Lib.hid (HB.out.trans (hb.mono HB.out.size)); clear hx hv hS hb)
          | (go_at_call 13; (with_reducible refine (window_any low high _ L _ _ hcap (HL.out.grow HB.out)).mono ?_); rintro e wx ⟨hx, hb⟩; obtain ⟨v, rfl, hv⟩ := hx.out; rw [HC3.out] at hv; rw [HE3.out]; obtain ⟨ha3a, ha3c, rfl, _, _, _, hS⟩ := RowV.nums hv; rw [HSN.out] at hS ⊢; have HA3 := Lib.hid hS; have HA1 := Lib.hid (HA1.out.grow hb); have HA2 := Lib.hid (HA2.out.grow hb); have HB := Lib.hid (HB.out.trans (hb.mono HB.out.size)); clear hx hv hS hb)
          | (go_at_call 14; (with_reducible refine (right_any _ L _ _ (HL.out.grow HB.out)).mono ?_); rintro e wx ⟨rfl, hb⟩; rw [HR.out]; have HA1 := Lib.hid (HA1.out.grow hb); have HA2 := Lib.hid (HA2.out.grow hb); have HA3 := Lib.hid (HA3.out.grow hb); have HB := Lib.hid (HB.out.trans (hb.mono HB.out.size)); clear hb)
          | (go_at_call 15; (with_reducible refine (reffirst_any x x _ L _ _ HOK.out hl8 (HL.out.grow HB.out)).mono ?_); rintro e wx ⟨hx, hb⟩; obtain ⟨v, rfl, va, vc, rfl, _, _, _, hS⟩ := hx.out; rw [HS1.out] at hS ⊢; rw [HP1.out]; have HX1 := Lib.hid hS; have HA1 := Lib.hid (HA1.out.grow hb); have HA2 := Lib.hid (HA2.out.grow hb); have HA3 := Lib.hid (HA3.out.grow hb); have HB := Lib.hid (HB.out.trans (hb.mono HB.out.size)); clear hx hS hb)
          | (go_at_call 16; (with_reducible refine (eq_ex _ _ S1 _ _ _ _ rfl (by omega) HA1.out HX1.out).mono ?_); rintro e wx ⟨rfl, hb⟩; have HA2 := Lib.hid (HA2.out.grow hb); have HA3 := Lib.hid (HA3.out.grow hb); have HB := Lib.hid (HB.out.trans (hb.mono HB.out.size)); clear hb)
          | (go_at_call 17; (with_reducible refine (refnear_any x _ L _ _ h2 HOK.out hl8 H7.out (HL.out.grow HB.out)).mono ?_); rintro e wx ⟨hx, hb⟩; obtain ⟨v, rfl, va, vc, rfl, _, _, _, hS⟩ := hx.out; rw [HSS.out] at hS ⊢; have HX2 := Lib.hid hS; have HA2 := Lib.hid (HA2.out.grow hb); have HA3 := Lib.hid (HA3.out.grow hb); have HB := Lib.hid (HB.out.trans (hb.mono HB.out.size)); clear hx hS hb)
          | (go_at_call 16; (with_reducible refine (eq_ex _ _ S2 _ _ _ _ rfl (by omega) HA2.out HX2.out).mono ?_); rintro e wx ⟨rfl, hb⟩; have HA3 := Lib.hid (HA3.out.grow hb); have HB := Lib.hid (HB.out.trans (hb.mono HB.out.size)); clear hb))
        go_ret
        exact ⟨rfl, HB.out⟩
      · obtain ⟨c3, e3⟩ := win_is (low := low) (high := high) hb h3
        have HC3 := Lib.hid c3
        have g3 : decide (high < low) = false := decide_eq_false (by omega)
        clear c3
        rcases e3 with ⟨e3, p3⟩ | ⟨e3, p3⟩
        all_goals
          have HE3 := Lib.hid e3
          have HP3 := Lib.hid p3
          clear e3 p3 hb hok
          go_enter Try.func3, Try.ntmps3
          go_wp2_with (first
            | (go_at_call 9; (with_reducible refine (awake_any _).mono ?_); rintro e w1 ⟨rfl, hB1⟩; have HB := Lib.hid hB1; clear hB1)
            | (go_at_call 10; (with_reducible refine (few_any _ L _ _ (HL.out.grow HB.out)).mono ?_); rintro e w2 ⟨rfl, hb⟩; rw [HF.out]; have HB := Lib.hid (HB.out.trans (hb.mono HB.out.size)); clear hb)
            | (go_at_call 11; (with_reducible refine (fewest_any x _ L _ _ hcap (HL.out.grow HB.out)).mono ?_); rintro e wx ⟨hx, hb⟩; obtain ⟨v, rfl, hv⟩ := hx.out; rw [HC1.out] at hv; rw [HE1.out]; obtain ⟨ha1a, ha1c, rfl, _, _, _, hS⟩ := RowV.nums hv; rw [HS1.out] at hS ⊢; have HA1 := Lib.hid hS; have HB := Lib.hid (HB.out.trans (hb.mono HB.out.size)); clear hx hv hS hb)
            | (go_at_call 12; (with_reducible refine (near26_any x _ L _ _ hcap (HL.out.grow HB.out)).mono ?_); rintro e wx ⟨hx, hb⟩; obtain ⟨v, rfl, hv⟩ := hx.out; rw [HC2.out] at hv; rw [HE2.out]; obtain ⟨ha2a, ha2c, rfl, _, _, _, hS⟩ := RowV.nums hv; rw [HSS.out] at hS ⊢; have HA2 := Lib.hid hS; have HA1 := Lib.hid (HA1.out.grow hb); have HB := Lib.hid (HB.out.trans (hb.mono HB.out.size)); clear hx hv hS hb)
            | (go_at_call 13; (with_reducible refine (window_any low high _ L _ _ hcap (HL.out.grow HB.out)).mono ?_); rintro e wx ⟨hx, hb⟩; obtain ⟨v, rfl, hv⟩ := hx.out; rw [HC3.out] at hv; rw [HE3.out]; obtain ⟨ha3a, ha3c, rfl, _, _, _, hS⟩ := RowV.nums hv; rw [HS3.out] at hS ⊢; have HA3 := Lib.hid hS; have HA1 := Lib.hid (HA1.out.grow hb); have HA2 := Lib.hid (HA2.out.grow hb); have HB := Lib.hid (HB.out.trans (hb.mono HB.out.size)); clear hx hv hS hb)
            | (go_at_call 14; (with_reducible refine (right_any _ L _ _ (HL.out.grow HB.out)).mono ?_); rintro e wx ⟨rfl, hb⟩; rw [HR.out]; have HA1 := Lib.hid (HA1.out.grow hb); have HA2 := Lib.hid (HA2.out.grow hb); have HA3 := Lib.hid (HA3.out.grow hb); have HB := Lib.hid (HB.out.trans (hb.mono HB.out.size)); clear hb)
            | (go_at_call 15; (with_reducible refine (reffirst_any x x _ L _ _ HOK.out hl8 (HL.out.grow HB.out)).mono ?_); rintro e wx ⟨hx, hb⟩; obtain ⟨v, rfl, va, vc, rfl, _, _, _, hS⟩ := hx.out; rw [HS1.out] at hS ⊢; rw [HP1.out]; have HX1 := Lib.hid hS; have HA1 := Lib.hid (HA1.out.grow hb); have HA2 := Lib.hid (HA2.out.grow hb); have HA3 := Lib.hid (HA3.out.grow hb); have HB := Lib.hid (HB.out.trans (hb.mono HB.out.size)); clear hx hS hb)
            | (go_at_call 16; (with_reducible refine (eq_ex _ _ S1 _ _ _ _ rfl (by omega) HA1.out HX1.out).mono ?_); rintro e wx ⟨rfl, hb⟩; have HA2 := Lib.hid (HA2.out.grow hb); have HA3 := Lib.hid (HA3.out.grow hb); have HB := Lib.hid (HB.out.trans (hb.mono HB.out.size)); clear hb)
            | (go_at_call 17; (with_reducible refine (refnear_any x _ L _ _ h2 HOK.out hl8 H7.out (HL.out.grow HB.out)).mono ?_); rintro e wx ⟨hx, hb⟩; obtain ⟨v, rfl, va, vc, rfl, _, _, _, hS⟩ := hx.out; rw [HSS.out] at hS ⊢; have HX2 := Lib.hid hS; have HA2 := Lib.hid (HA2.out.grow hb); have HA3 := Lib.hid (HA3.out.grow hb); have HB := Lib.hid (HB.out.trans (hb.mono HB.out.size)); clear hx hS hb)
            | (go_at_call 16; (with_reducible refine (eq_ex _ _ S2 _ _ _ _ rfl (by omega) HA2.out HX2.out).mono ?_); rintro e wx ⟨rfl, hb⟩; have HA3 := Lib.hid (HA3.out.grow hb); have HB := Lib.hid (HB.out.trans (hb.mono HB.out.size)); clear hb)
            | (go_at_call 15; (with_reducible refine (reffirst_any low high _ L _ _ HOK.out hl8 (HL.out.grow HB.out)).mono ?_); rintro e wx ⟨hx, hb⟩; obtain ⟨v, rfl, va, vc, rfl, _, _, _, hS⟩ := hx.out; rw [HS3.out] at hS ⊢; rw [HP3.out]; have HX3 := Lib.hid hS; have HA3 := Lib.hid (HA3.out.grow hb); have HB := Lib.hid (HB.out.trans (hb.mono HB.out.size)); clear hx hS hb)
            | (go_at_call 16; (with_reducible refine (eq_ex _ _ S3 _ _ _ _ rfl (by omega) HA3.out HX3.out).mono ?_); rintro e wx ⟨rfl, hb⟩; have HB := Lib.hid (HB.out.trans (hb.mono HB.out.size)); clear hb))
          go_ret
          exact ⟨rfl, HB.out⟩
end Go.Proofs.Ytgijekinlkpbkaa
