/-
  THE WALK of the law SubsetsSums: it answers true at every list and number.
-/
import Derived.Test.YtfiefmhnonddhaaDoorLawFinds
import Derived.Test.YtfiefmhnonddhaaDoorRefD
namespace Go.Proofs.YtfiefmhnonddhaaDoor
open Go.RowKit Go.Shelf

theorem near_ref {L : List Int} (sum : Int) : nearM L sum = rnearTo (rsumsTo L (2 ^ L.length)) sum ((rsumsTo L (2 ^ L.length)).length - 1) := by
  have h1 := near_nearest (allS L) sum (by rw [allS_len]; exact Nat.two_pow_pos _)
  rw [allS_len] at h1
  have h2 := rnear_nearest (rsums_ok L (2 ^ L.length)).1 sum (rsums_pos L)
  exact nearest_unique (nearest_same (fun x => (allS_mem L x).trans ((rsums_ok L _).2 x).symm) h1) h2
theorem near_found {L : List Int} (sum : Int) : (fstTo L (nearM L sum) 0 (2 ^ L.length)).2 = true := by
  have h1 := (near_nearest (allS L) sum (by rw [allS_len]; exact Nat.two_pow_pos _)).1
  rw [allS_len] at h1
  obtain ⟨s, hs, e⟩ := (allS_mem L _).1 h1
  refine (fst_some L _ _ _).2 ⟨s, hs, ?_⟩
  unfold goodB nearM
  rw [e, decide_eq_true rfl, decide_eq_true (by omega)]
  rfl
set_option maxHeartbeats 8000000 in
theorem lawsums_law (a : Option Addr) (L : List Int) (cap : Nat) (sum : Int) (w : World) (hI : Nums w.heap.size w a L) (hT : Tabs w) :
    Calls Tryd.prog 5 #[.slice a L.length cap, .int .i64 sum] w fun e w' => e = .returned (.bool true) ∧ Below w.heap.size w w' := by
  have HI := Lib.hid hI
  have HT := Lib.hid hT
  clear hI hT
  have hB : Below w.heap.size w w := Below.refl _ _
  cases hlg : longB (L.length : Int)
  · have hl : L.length ≤ 100 := by
      unfold longB at hlg
      rw [Bool.or_eq_false_iff] at hlg
      have := of_decide_eq_false hlg.2
      omega
    have HLG := Lib.hid hlg
    by_cases hg : givenE L = 0
    · have HG := Lib.hid hg
      have hl8 : L.length ≤ 8 := by
        have h16 := (given_small hg).1
        unfold longB at hlg
        rw [Bool.or_eq_false_iff, Bool.and_eq_false_iff] at hlg
        rcases hlg.1 with h | h
        · have := of_decide_eq_false h; omega
        · have := of_decide_eq_false h; omega
      have h256 : 2 ^ L.length ≤ 256 := Nat.pow_le_pow_right (by decide) hl8
      have HSX : Hid (sumsX L = rsumsTo L (2 ^ L.length) ∧ (rsumsTo L (2 ^ L.length)).length ≤ 1100) := Lib.hid ⟨by unfold sumsX; rw [if_pos hg, sumsP_ref], by have := rsums_len L (2 ^ L.length); omega⟩
      clear hlg
      by_cases hs : sum < -1152921504606846976 ∨ 1152921504606846976 < sum
      · have HN : Hid (nearE L sum = 2 ∧ nearN L sum = 0 ∧ nearX L sum = []) := Lib.hid (by
          have e : nearE L sum = 2 := by unfold nearE; rw [if_pos hg, if_pos hs]
          exact ⟨e, by unfold nearN; rw [e, if_neg (by decide)], by unfold nearX; rw [e, if_neg (by decide)]⟩)
        have HRS : Hid (∀ w, Nums w.heap.size w a L → Calls Tryd.prog 24 #[.slice a L.length cap] w fun e w' => Hid (∃ v c, e = .returned (.slice v (rsumsTo L (2 ^ L.length)).length c) ∧ Nums w'.heap.size w' v (rsumsTo L (2 ^ L.length))) ∧ Below w.heap.size w w') := Lib.hid fun w h => refsums_any a L cap w hg h
        generalize rsumsTo L (2 ^ L.length) = S at *
        clear hg
        by_cases hs1 : sum < -1152921504606846976
        · have g1 : decide (sum < -1152921504606846976) = true := decide_eq_true hs1
          clear hs hs1
          go_enter Tryd.func5, Tryd.ntmps5
          go_wp2_with (first
            | (go_at_call 9; (with_reducible refine (awake_any _ HT.out).mono ?_); rintro e w1 ⟨rfl, hb1⟩; replace hB := hb1; clear hb1)
            | (go_at_call 10; (with_reducible refine (long_any _ L _ _).mono ?_); rintro e w2 ⟨rfl, rfl⟩; rw [HLG.out])
            | (go_at_call 20; (with_reducible refine (Sums_any _ L _ _ (by omega) (HI.out.grow hB) (HT.out.grow hB)).mono ?_); rintro e w3 ⟨hy, hb3⟩; obtain ⟨sv, sc, rfl, hsn⟩ := hy.out; rw [HSX.out.1] at hsn; rw [HSX.out.1, HG.out]; have HSN := Lib.hid hsn; replace hB := hB.trans (hb3.mono hB.size); clear hy hsn)
            | (go_at_call 23; (with_reducible refine (Nearest_any _ L _ sum _ (by omega) (HI.out.grow hB) (HT.out.grow hB)).mono ?_); rintro e w4 ⟨hy, hb4⟩; obtain ⟨xv, xc, rfl, hxn⟩ := hy.out; rw [HN.out.2.2] at hxn; rw [HN.out.1, HN.out.2.1, HN.out.2.2]; have HXN := Lib.hid hxn; replace hB := hB.trans (hb4.mono hB.size); replace HSN := Lib.hid (HSN.out.grow hb4); clear hy hxn)
            | (go_at_call 13; (with_reducible refine (refgiven_any _ L _ w.heap.size _ (by omega) (HI.out.below hB)).mono ?_); rintro e w5 ⟨rfl, rfl⟩; rw [HG.out])
            | (go_at_call 24; (with_reducible refine (HRS.out _ (HI.out.grow hB)).mono ?_); rintro e w6 ⟨hy, hb6⟩; obtain ⟨rv, rc, rfl, hrn⟩ := hy.out; have HRN1 := Lib.hid hrn; replace hB := hB.trans (hb6.mono hB.size); replace HSN := Lib.hid (HSN.out.grow hb6); replace HXN := Lib.hid (HXN.out.grow hb6); clear hy hrn)
            | (go_at_call 15; (with_reducible refine (num_same _ _ S _ _ _ HSX.out.2 HSN.out HRN1.out).mono ?_); rintro e w11 ⟨rfl, hb11⟩; replace hB := hB.trans (hb11.mono hB.size); replace HXN := Lib.hid (HXN.out.grow hb11)))
          go_ret
          exact ⟨rfl, hB⟩
        · have g1 : decide (sum < -1152921504606846976) = false := decide_eq_false hs1
          have g2 : decide (1152921504606846976 < sum) = true := decide_eq_true (by omega)
          clear hs hs1
          go_enter Tryd.func5, Tryd.ntmps5
          go_wp2_with (first
            | (go_at_call 9; (with_reducible refine (awake_any _ HT.out).mono ?_); rintro e w1 ⟨rfl, hb1⟩; replace hB := hb1; clear hb1)
            | (go_at_call 10; (with_reducible refine (long_any _ L _ _).mono ?_); rintro e w2 ⟨rfl, rfl⟩; rw [HLG.out])
            | (go_at_call 20; (with_reducible refine (Sums_any _ L _ _ (by omega) (HI.out.grow hB) (HT.out.grow hB)).mono ?_); rintro e w3 ⟨hy, hb3⟩; obtain ⟨sv, sc, rfl, hsn⟩ := hy.out; rw [HSX.out.1] at hsn; rw [HSX.out.1, HG.out]; have HSN := Lib.hid hsn; replace hB := hB.trans (hb3.mono hB.size); clear hy hsn)
            | (go_at_call 23; (with_reducible refine (Nearest_any _ L _ sum _ (by omega) (HI.out.grow hB) (HT.out.grow hB)).mono ?_); rintro e w4 ⟨hy, hb4⟩; obtain ⟨xv, xc, rfl, hxn⟩ := hy.out; rw [HN.out.2.2] at hxn; rw [HN.out.1, HN.out.2.1, HN.out.2.2]; have HXN := Lib.hid hxn; replace hB := hB.trans (hb4.mono hB.size); replace HSN := Lib.hid (HSN.out.grow hb4); clear hy hxn)
            | (go_at_call 13; (with_reducible refine (refgiven_any _ L _ w.heap.size _ (by omega) (HI.out.below hB)).mono ?_); rintro e w5 ⟨rfl, rfl⟩; rw [HG.out])
            | (go_at_call 24; (with_reducible refine (HRS.out _ (HI.out.grow hB)).mono ?_); rintro e w6 ⟨hy, hb6⟩; obtain ⟨rv, rc, rfl, hrn⟩ := hy.out; have HRN1 := Lib.hid hrn; replace hB := hB.trans (hb6.mono hB.size); replace HSN := Lib.hid (HSN.out.grow hb6); replace HXN := Lib.hid (HXN.out.grow hb6); clear hy hrn)
            | (go_at_call 15; (with_reducible refine (num_same _ _ S _ _ _ HSX.out.2 HSN.out HRN1.out).mono ?_); rintro e w11 ⟨rfl, hb11⟩; replace hB := hB.trans (hb11.mono hB.size); replace HXN := Lib.hid (HXN.out.grow hb11)))
          go_ret
          exact ⟨rfl, hB⟩
      · obtain ⟨M, hM⟩ : ∃ M, nearM L sum = M := ⟨_, rfl⟩
        obtain ⟨s, hse⟩ : ∃ s : Nat, (fstTo L M 0 (2 ^ L.length)).1 = s := ⟨_, rfl⟩
        have hfound := near_found (L := L) sum
        rw [hM] at hfound
        have hsl : s < 65536 := by
          have h1 := (fst_lt L M 0 _ hfound).1
          rw [hse] at h1
          omega
        have HN : Hid (nearE L sum = 0 ∧ nearN L sum = M ∧ nearX L sum = idxN L.length 0 s) := Lib.hid (by
          have e : nearE L sum = 0 := by unfold nearE; rw [if_pos hg, if_neg hs]
          exact ⟨e, by unfold nearN; rw [if_pos e, hM], by unfold nearX; rw [if_pos e, hM, hse]⟩)
        have HRS : Hid (∀ w, Nums w.heap.size w a L → Calls Tryd.prog 24 #[.slice a L.length cap] w fun e w' => Hid (∃ v c, e = .returned (.slice v (rsumsTo L (2 ^ L.length)).length c) ∧ Nums w'.heap.size w' v (rsumsTo L (2 ^ L.length))) ∧ Below w.heap.size w w') := Lib.hid fun w h => refsums_any a L cap w hg h
        have HRN : Hid (∀ w, Nums w.heap.size w a L → Calls Tryd.prog 25 #[.slice a L.length cap, .int .i64 sum] w fun e w' => e = .returned (.int .i64 M) ∧ Below w.heap.size w w') := Lib.hid fun w h => by
          have := refnearest_any a L cap sum w hg (by omega) h
          rw [← near_ref, hM] at this
          exact this
        have HRF : Hid (∀ w, Nums w.heap.size w a L → Calls Tryd.prog 17 #[.slice a L.length cap, .int .i64 M, .int .i64 0] w fun e w' => e = .returned (.int .i64 s) ∧ Below w.heap.size w w') := Lib.hid fun w h => by
          have := reffirst_any a L cap M 0 w hg h
          rw [rfst_eq, hfound, if_pos rfl, hse] at this
          exact this
        have HRI : Hid (∀ w, Calls Tryd.prog 16 #[.slice a L.length cap, .int .i64 s] w fun e w' => Hid (∃ v, e = .returned v ∧ w'.ownsRow w.heap.size 3 1 v (idxN L.length 0 s).length (nflat (idxN L.length 0 s))) ∧ Below w.heap.size w w') := Lib.hid fun w => indices_any a L cap s w (by omega) hsl
        have hkl : (idxN L.length 0 s).length ≤ 16 := by rw [idx_len]; have := siz_le L.length s; omega
        have g1 : decide (sum < -1152921504606846976) = false := decide_eq_false (by omega)
        have g2 : decide (1152921504606846976 < sum) = false := decide_eq_false (by omega)
        generalize rsumsTo L (2 ^ L.length) = S at *
        generalize idxN L.length 0 s = X at *
        clear hg hM hse hfound hs
        go_enter Tryd.func5, Tryd.ntmps5
        go_wp2_with (first
          | (go_at_call 25; (with_reducible refine (HRN.out _ (HI.out.grow hB)).mono ?_); rintro e w7 ⟨rfl, hb7⟩; replace hB := hB.trans (hb7.mono hB.size); replace HXN := Lib.hid (HXN.out.grow hb7))
          | (go_at_call 17; (with_reducible refine (HRF.out _ (HI.out.grow hB)).mono ?_); rintro e w8 ⟨rfl, hb8⟩; replace hB := hB.trans (hb8.mono hB.size); replace HXN := Lib.hid (HXN.out.grow hb8))
          | (go_at_call 16; (with_reducible refine (HRI.out _).mono ?_); rintro e w9 ⟨hy, hb9⟩; obtain ⟨iv, rfl, hri⟩ := hy.out; obtain ⟨ia, ic, rfl, _, _, _, hin⟩ := num_of_row hri; replace hB := hB.trans (hb9.mono hB.size); replace HXN := Lib.hid (HXN.out.grow hb9); have HIN := Lib.hid hin; clear hy hri hin)
          | (go_at_call 15; (with_reducible refine (num_same _ _ X _ _ _ (by omega) HXN.out HIN.out).mono ?_); rintro e w10 ⟨rfl, hb10⟩; replace hB := hB.trans (hb10.mono hB.size))
            | (go_at_call 9; (with_reducible refine (awake_any _ HT.out).mono ?_); rintro e w1 ⟨rfl, hb1⟩; replace hB := hb1; clear hb1)
            | (go_at_call 10; (with_reducible refine (long_any _ L _ _).mono ?_); rintro e w2 ⟨rfl, rfl⟩; rw [HLG.out])
            | (go_at_call 20; (with_reducible refine (Sums_any _ L _ _ (by omega) (HI.out.grow hB) (HT.out.grow hB)).mono ?_); rintro e w3 ⟨hy, hb3⟩; obtain ⟨sv, sc, rfl, hsn⟩ := hy.out; rw [HSX.out.1] at hsn; rw [HSX.out.1, HG.out]; have HSN := Lib.hid hsn; replace hB := hB.trans (hb3.mono hB.size); clear hy hsn)
            | (go_at_call 23; (with_reducible refine (Nearest_any _ L _ sum _ (by omega) (HI.out.grow hB) (HT.out.grow hB)).mono ?_); rintro e w4 ⟨hy, hb4⟩; obtain ⟨xv, xc, rfl, hxn⟩ := hy.out; rw [HN.out.2.2] at hxn; rw [HN.out.1, HN.out.2.1, HN.out.2.2]; have HXN := Lib.hid hxn; replace hB := hB.trans (hb4.mono hB.size); replace HSN := Lib.hid (HSN.out.grow hb4); clear hy hxn)
            | (go_at_call 13; (with_reducible refine (refgiven_any _ L _ w.heap.size _ (by omega) (HI.out.below hB)).mono ?_); rintro e w5 ⟨rfl, rfl⟩; rw [HG.out])
            | (go_at_call 24; (with_reducible refine (HRS.out _ (HI.out.grow hB)).mono ?_); rintro e w6 ⟨hy, hb6⟩; obtain ⟨rv, rc, rfl, hrn⟩ := hy.out; have HRN1 := Lib.hid hrn; replace hB := hB.trans (hb6.mono hB.size); replace HSN := Lib.hid (HSN.out.grow hb6); replace HXN := Lib.hid (HXN.out.grow hb6); clear hy hrn)
            | (go_at_call 15; (with_reducible refine (num_same _ _ S _ _ _ HSX.out.2 HSN.out HRN1.out).mono ?_); rintro e w11 ⟨rfl, hb11⟩; replace hB := hB.trans (hb11.mono hB.size); replace HXN := Lib.hid (HXN.out.grow hb11)))
        go_ret
        exact ⟨rfl, hB⟩
    · have HN : Hid (sumsX L = [] ∧ nearE L sum = givenE L ∧ nearN L sum = 0 ∧ nearX L sum = []) := Lib.hid (by
        have e : nearE L sum = givenE L := by unfold nearE; rw [if_neg hg]
        exact ⟨by unfold sumsX; rw [if_neg hg], e, by unfold nearN; rw [e, if_neg hg], by unfold nearX; rw [e, if_neg hg]⟩)
      have g0 : (givenE L != 0) = true := bne_iff_ne.2 hg
      have g1 : (givenE L == 0) = false := beq_eq_false_iff_ne.2 hg
      clear hg hlg
      go_enter Tryd.func5, Tryd.ntmps5
      go_wp2_with (first
        | (go_at_call 9; (with_reducible refine (awake_any _ HT.out).mono ?_); rintro e w1 ⟨rfl, hb1⟩; replace hB := hb1; clear hb1)
        | (go_at_call 10; (with_reducible refine (long_any _ L _ _).mono ?_); rintro e w2 ⟨rfl, rfl⟩; rw [HLG.out])
        | (go_at_call 20; (with_reducible refine (Sums_any _ L _ _ (by omega) (HI.out.grow hB) (HT.out.grow hB)).mono ?_); rintro e w3 ⟨hy, hb3⟩; obtain ⟨sv, sc, rfl, _⟩ := hy.out; rw [HN.out.1]; replace hB := hB.trans (hb3.mono hB.size); clear hy)
        | (go_at_call 23; (with_reducible refine (Nearest_any _ L _ sum _ (by omega) (HI.out.grow hB) (HT.out.grow hB)).mono ?_); rintro e w4 ⟨hy, hb4⟩; obtain ⟨xv, xc, rfl, _⟩ := hy.out; rw [HN.out.2.1, HN.out.2.2.1, HN.out.2.2.2]; replace hB := hB.trans (hb4.mono hB.size); clear hy)
        | (go_at_call 13; (with_reducible refine (refgiven_any _ L _ w.heap.size _ (by omega) (HI.out.below hB)).mono ?_); rintro e w5 ⟨rfl, rfl⟩))
      go_ret
      exact ⟨rfl, hB⟩
  · have HLG := Lib.hid hlg
    clear hlg
    go_enter Tryd.func5, Tryd.ntmps5
    go_wp2_with (first
      | (go_at_call 9; (with_reducible refine (awake_any _ HT.out).mono ?_); rintro e w1 ⟨rfl, hb1⟩)
      | (go_at_call 10; (with_reducible refine (long_any _ L _ _).mono ?_); rintro e w2 ⟨rfl, rfl⟩; rw [HLG.out]))
    go_ret
    exact ⟨rfl, hb1⟩
end Go.Proofs.YtfiefmhnonddhaaDoor
