/-
  THE WALK of the law SubsetsParts: it answers true at every list and parts.
-/
import Derived.Test.YtfiefmhnonddhaaDoorLawFinds
import Derived.Test.YtfiefmhnonddhaaDoorRefF
import Derived.Test.YtfiefmhnonddhaaDoorRefG
namespace Go.Proofs.YtfiefmhnonddhaaDoor
open Go.RowKit Go.Shelf

theorem ent_parts1 : ∀ (args : Array Value) (w : World), (callFunc 27 args).run Tryd.prog w = .ok (.enter 27 args) w := fun args w => enters_of Tryd.func27 (by kernel_rfl) rfl args w
theorem wideC_any (x : LstR) (w : World) : Calls Tryd.prog 27 #[.slice x.a x.xs.length x.c] w fun e w' => e = .returned (.bool (decide (20 < x.xs.length))) ∧ w = w' := by
  by_cases h : 20 < x.xs.length
  · have g : decide (20 < (x.xs.length : Int)) = true := decide_eq_true (by omega)
    have HR : Hid (decide (20 < x.xs.length) = true) := Lib.hid (decide_eq_true h)
    clear h
    go_enter Tryd.func27, Tryd.ntmps27
    go_wp2
    go_ret
    exact ⟨ret_bool (by first | exact HR.out.symm | (rw [HR.out]; assumption)), rfl⟩
  · have g : decide (20 < (x.xs.length : Int)) = false := decide_eq_false (by omega)
    have HR : Hid (decide (20 < x.xs.length) = false) := Lib.hid (decide_eq_false h)
    clear h
    go_enter Tryd.func27, Tryd.ntmps27
    go_wp2
    go_ret
    exact ⟨ret_bool (by first | exact HR.out.symm | (rw [HR.out]; assumption)), rfl⟩

theorem partsTo_len (n : Nat) (Z : Nat → Bool) (M : Nat → Int) : ∀ f left, (partsTo n Z M f left).length ≤ f
  | 0, _ => by simp [partsTo]
  | f + 1, left => by
    unfold partsTo
    split
    · simp
    · rw [List.length_cons]
      have := partsTo_len n Z M f (left ^^^ pick n left (condP Z M (bitLow left) left))
      omega
def wideB (P : List LstR) : Bool := lst_any P fun x => decide (20 < x.xs.length)
theorem xsOf_none {P : List LstR} (h : xsOf P = []) : P = [] := List.map_eq_nil_iff.1 h

set_option maxHeartbeats 8000000 in
theorem lawparts_law (a pa : Option Addr) (L : List Int) (P : List LstR) (cap pc : Nat) (w : World) (hI : Nums w.heap.size w a L) (hP : Lsts w.heap.size w pa P) (hE : ∀ i, i < P.length → Nums w.heap.size w (lg P i).a (lg P i).xs) (hT : Tabs w) :
    Calls Tryd.prog 6 #[.slice a L.length cap, .slice pa P.length pc] w fun e w' => e = .returned (.bool true) ∧ Below w.heap.size w w' := by
  have HI := Lib.hid hI
  have HP := Lib.hid hP
  have HE := Lib.hid hE
  have HT := Lib.hid hT
  clear hI hP hE hT
  have hB : Below w.heap.size w w := Below.refl _ _
  cases hlg : longB (L.length : Int)
  · have hl : L.length ≤ 100 := by
      unfold longB at hlg
      rw [Bool.or_eq_false_iff] at hlg
      have := of_decide_eq_false hlg.2
      omega
    have HLG := Lib.hid hlg
    by_cases hpl : 20 < P.length
    · have g1 : decide (20 < (P.length : Int)) = true := decide_eq_true (by omega)
      clear hpl hlg
      go_enter Tryd.func6, Tryd.ntmps6
      go_wp2_with (first
        | (go_at_call 9; (with_reducible refine (awake_any _ HT.out).mono ?_); rintro e w1 ⟨rfl, hb1⟩; replace hB := hb1; clear hb1)
        | (go_at_call 10; (with_reducible refine (long_any _ L _ _).mono ?_); rintro e w2 ⟨rfl, rfl⟩; rw [HLG.out]))
      go_ret
      exact ⟨rfl, hB⟩
    · have g1 : decide (20 < (P.length : Int)) = false := decide_eq_false (by omega)
      have hpl2 : P.length ≤ 20 := by omega
      have HAS : ∀ w, AsksL 27 #[] w.heap.size w (fun x => decide (20 < x.xs.length)) := fun w W r _ => (wideC_any r W).mono fun e w' h => ⟨h.1, by rw [← h.2]; exact Below.refl _ _⟩
      have HCF : Hid (∀ w, Lsts w.heap.size w pa P → Calls Tryd.prog 26 #[.slice pa P.length pc, .func (.func 27) #[] #[]] w fun e w' => e = .returned (.bool (wideB P)) ∧ Below w.heap.size w w') := Lib.hid fun w h => lst_containsFunc _ P _ _ _ _ (fun x => decide (20 < x.xs.length)) _ ent_parts1 (by omega) (Nat.le_refl _) h (HAS w)
      clear HAS hpl
      cases hwd : wideB P
      · have HWD := Lib.hid hwd
        have hel : ∀ i, i < P.length → (lg P i).xs.length ≤ 20 := fun i hi => by
          unfold wideB at hwd
          rw [lst_any_eq, List.any_eq_false] at hwd
          have := hwd (lg P i) (by rw [lg_eq P i hi]; exact List.getElem_mem hi)
          rw [decide_eq_true_eq] at this
          omega
        have HEA : Hid (Each w.heap.size w P) := Lib.hid fun i hi => ⟨HE.out i hi, by have := hel i hi; omega⟩
        have HEL := Lib.hid hel
        clear hwd hel
        by_cases hg : givenE L = 0
        · have HG := Lib.hid hg
          have HCX : Hid (checkX L (xsOf P) = checkP L (xsOf P)) := Lib.hid (by unfold checkX; rw [decide_eq_true hg, Bool.true_and])
          have HRP : Hid (∀ w, Nums w.heap.size w a L → Calls Tryd.prog 29 #[.slice a L.length cap] w fun e w' => Hid (∃ v c P, e = .returned (.tuple #[.slice v (P : List LstR).length c, .int .i64 (partsE L)]) ∧ xsOf P = partsX L ∧ Lsts w'.heap.size w' v P ∧ Each w'.heap.size w' P) ∧ Below w.heap.size w w') := Lib.hid fun w h => refparts_any a L cap w hg h
          have HRC : Hid (∀ w, Nums w.heap.size w a L → Lsts w.heap.size w pa P → Each w.heap.size w P → Calls Tryd.prog 30 #[.slice a L.length cap, .slice pa P.length pc] w fun e w' => e = .returned (.bool (checkP L (xsOf P))) ∧ Below w.heap.size w w') := Lib.hid fun w h1 h2 h3 => refcheck_any a pa L P cap pc w hg h1 hpl2 h2 h3 HEL.out
          have hXL : (partsX L).length ≤ 1000000 := by
            unfold partsX
            split
            · rw [List.length_map]
              have : (partsS L).length ≤ 2 ^ L.length := partsTo_len _ _ _ _ _
              have h16 := (given_small hg).1
              have : 2 ^ L.length ≤ 65536 := Nat.pow_le_pow_right (by decide) h16
              omega
            · simp
          obtain ⟨ck, hck⟩ : ∃ b, checkP L (xsOf P) = b := ⟨_, rfl⟩
          rw [hck] at HRC HCX
          have hgg : (givenE L != 0) = false := bne_eq_false_iff_eq.2 hg
          clear hg hlg hck
          obtain ⟨pe, hpe⟩ : ∃ e, partsE L = e := ⟨_, rfl⟩
          have HPE := Lib.hid hpe
          rw [hpe] at HRP
          have gee : (pe == pe) = true := beq_iff_eq.2 rfl
          have gck : (ck == ck) = true := beq_iff_eq.2 rfl
          clear hpe
          go_enter Tryd.func6, Tryd.ntmps6
          go_wp2_with (first
            | (go_at_call 9; (with_reducible refine (awake_any _ HT.out).mono ?_); rintro e w1 ⟨rfl, hb1⟩; replace hB := hb1; clear hb1)
            | (go_at_call 10; (with_reducible refine (long_any _ L _ _).mono ?_); rintro e w2 ⟨rfl, rfl⟩; rw [HLG.out])
            | (go_at_call 26; (with_reducible refine (HCF.out _ (HP.out.grow hB)).mono ?_); rintro e w3 ⟨rfl, hb3⟩; rw [HWD.out]; replace hB := hB.trans (hb3.mono hB.size); clear hb3)
            | (go_at_call 21; (with_reducible refine (Parts_any _ L _ _ (by omega) (HI.out.grow hB) (HT.out.grow hB)).mono ?_); rintro e w4 ⟨hy, hb4⟩; obtain ⟨v, c, Q, rfl, hx4, hn4, he4⟩ := hy.out; rw [HPE.out]; have HQX := Lib.hid hx4; have HQL := Lib.hid hn4; have HQE := Lib.hid he4; replace hB := hB.trans (hb4.mono hB.size); clear hy hx4 hn4 he4 hb4)
            | (go_at_call 28; (with_reducible refine (Check_any _ _ L P _ _ _ (by omega) (HI.out.grow hB) (by omega) (HP.out.grow hB) (HEA.out.grow hB)).mono ?_); rintro e w5 ⟨rfl, hb5⟩; rw [HCX.out, HG.out]; replace hB := hB.trans (hb5.mono hB.size); replace HQL := Lib.hid (HQL.out.grow hb5); replace HQE := Lib.hid (HQE.out.grow hb5); clear hb5)
            | (go_at_call 13; (with_reducible refine (refgiven_any _ L _ w.heap.size _ (by omega) (HI.out.below hB)).mono ?_); rintro e w6 ⟨rfl, rfl⟩; rw [HG.out])
            | (go_at_call 29; (with_reducible refine (HRP.out _ (HI.out.grow hB)).mono ?_); rintro e w7 ⟨hy, hb7⟩; obtain ⟨v7, c7, R, rfl, hx7, hn7, he7⟩ := hy.out; have HRX := Lib.hid hx7; have HRL := Lib.hid hn7; have HRE := Lib.hid he7; replace hB := hB.trans (hb7.mono hB.size); replace HQL := Lib.hid (HQL.out.grow hb7); replace HQE := Lib.hid (HQE.out.grow hb7); clear hy hx7 hn7 he7 hb7)
            | (go_at_call 22; (with_reducible refine (same_any _ _ Q R _ _ _ (by rw [← xsOf_len, HQX.out]; exact hXL) HQL.out HRL.out HQE.out HRE.out).mono ?_); rintro e w8 ⟨rfl, hb8⟩; rw [HQX.out, HRX.out, decide_eq_true rfl]; replace hB := hB.trans (hb8.mono hB.size); clear hb8)
            | (go_at_call 30; (with_reducible refine (HRC.out _ (HI.out.grow hB) (HP.out.grow hB) (HEA.out.grow hB)).mono ?_); rintro e w9 ⟨rfl, hb9⟩; replace hB := hB.trans (hb9.mono hB.size); clear hb9))
          go_ret
          exact ⟨rfl, hB⟩
        · have HN : Hid (partsX L = [] ∧ partsE L = givenE L ∧ checkX L (xsOf P) = false) := Lib.hid (by
            have e : partsE L = givenE L := by unfold partsE; rw [if_neg hg]
            exact ⟨by unfold partsX; rw [e, if_neg hg], e, by unfold checkX; rw [decide_eq_false hg]; rfl⟩)
          have g0 : (givenE L != 0) = true := bne_iff_ne.2 hg
          have gee : (givenE L == givenE L) = true := beq_iff_eq.2 rfl
          clear hg hlg
          go_enter Tryd.func6, Tryd.ntmps6
          go_wp2_with (first
            | (go_at_call 9; (with_reducible refine (awake_any _ HT.out).mono ?_); rintro e w1 ⟨rfl, hb1⟩; replace hB := hb1; clear hb1)
            | (go_at_call 10; (with_reducible refine (long_any _ L _ _).mono ?_); rintro e w2 ⟨rfl, rfl⟩; rw [HLG.out])
            | (go_at_call 26; (with_reducible refine (HCF.out _ (HP.out.grow hB)).mono ?_); rintro e w3 ⟨rfl, hb3⟩; rw [HWD.out]; replace hB := hB.trans (hb3.mono hB.size); clear hb3)
            | (go_at_call 21; (with_reducible refine (Parts_any _ L _ _ (by omega) (HI.out.grow hB) (HT.out.grow hB)).mono ?_); rintro e w4 ⟨hy, hb4⟩; obtain ⟨v, c, Q, rfl, hx4, _, _⟩ := hy.out; obtain rfl := xsOf_none (hx4.trans HN.out.1); rw [HN.out.2.1]; replace hB := hB.trans (hb4.mono hB.size); clear hy hx4 hb4)
            | (go_at_call 28; (with_reducible refine (Check_any _ _ L P _ _ _ (by omega) (HI.out.grow hB) (by omega) (HP.out.grow hB) (HEA.out.grow hB)).mono ?_); rintro e w5 ⟨rfl, hb5⟩; rw [HN.out.2.2]; replace hB := hB.trans (hb5.mono hB.size); clear hb5)
            | (go_at_call 13; (with_reducible refine (refgiven_any _ L _ w.heap.size _ (by omega) (HI.out.below hB)).mono ?_); rintro e w6 ⟨rfl, rfl⟩))
          go_ret
          exact ⟨rfl, hB⟩
      · have HWD := Lib.hid hwd
        clear hwd hlg
        go_enter Tryd.func6, Tryd.ntmps6
        go_wp2_with (first
          | (go_at_call 9; (with_reducible refine (awake_any _ HT.out).mono ?_); rintro e w1 ⟨rfl, hb1⟩; replace hB := hb1; clear hb1)
          | (go_at_call 10; (with_reducible refine (long_any _ L _ _).mono ?_); rintro e w2 ⟨rfl, rfl⟩; rw [HLG.out])
          | (go_at_call 26; (with_reducible refine (HCF.out _ (HP.out.grow hB)).mono ?_); rintro e w3 ⟨rfl, hb3⟩; rw [HWD.out]; replace hB := hB.trans (hb3.mono hB.size); clear hb3))
        go_ret
        exact ⟨rfl, hB⟩
  · have HLG := Lib.hid hlg
    clear hlg
    go_enter Tryd.func6, Tryd.ntmps6
    go_wp2_with (first
      | (go_at_call 9; (with_reducible refine (awake_any _ HT.out).mono ?_); rintro e w1 ⟨rfl, hb1⟩)
      | (go_at_call 10; (with_reducible refine (long_any _ L _ _).mono ?_); rintro e w2 ⟨rfl, rfl⟩; rw [HLG.out]))
    go_ret
    exact ⟨rfl, hb1⟩
end Go.Proofs.YtfiefmhnonddhaaDoor
