/-
  THE WALK of the law TopFilled.
  FROM A WALK TO A ROW: a law that answers true and turns nothing that was there meets its row's post: each argument reads behind the call as it read before. Over any row of this seat.
  WHAT THE ROW'S LISTED VARIABLES GIVE THE WALKS: the table of powers in memory; and that the door's own heap meets the condition.
  OPENING A SLICE OF RECORDS that came in, whatever the record: its cells, one behind the other, are those of a list.
  ARGUMENTS THAT CAME IN: slices of numbers and of bricks.
  ARGUMENTS THAT CAME IN: a slice of items; a set.
-/
import Derived.Test.YtfkmnneieglolaaGreatDoorRows
import Derived.ProofKit
import Derived.OpenShut
import Derived.Below
import Derived.ChangeSame
import Derived.Carry
import Derived.RowKit
import Derived.LaidMore
import Derived.Stop.Joined
import Derived.Stop.LaidErr
import Derived.Lib.LaidTab
import Derived.Deep.Slices
import Derived.Deep.Fields
import Derived.WalkKit
import Derived.Lib.SmallJoins
import Derived.Test.YtfkmnneieglolaaGreatDoorHoldsFilledG30
import Derived.Test.YtfkmnneieglolaaGreatDoorFew
import Derived.Test.YtfkmnneieglolaaGreatDoorHoldsFilledG29
import Derived.Test.YtfkmnneieglolaaGreatDoorApp
import Derived.Test.YtfkmnneieglolaaGreatDoorSetM
namespace Go.Proofs.YtfkmnneieglolaaGreatDoor
set_option linter.unusedSimpArgs false
open Go.RowKit Go.Shelf
attribute [local go_sem] Oper.semAt_some
abbrev reR (r : SetR) (la : Option Addr) (lc : Nat) (ia : Option Addr) (ic : Nat) (ba : Option Addr) (bc : Nat) : SetR := ⟨r.name, r.depth, r.low, r.high, r.length, la, r.lines, lc, r.pipe, r.arbor, r.purchase, r.most, r.brake, ia, r.items, ic, ba, r.bricks, bc⟩
theorem balance_re {r : SetR} {c : List Int} {la : Option Addr} {lc : Nat} {ia : Option Addr} {ic : Nat} {ba : Option Addr} {bc : Nat} {w : World} (hv : setB r = true) (hc : IsC r.bricks c) (hs : SetIn w (loadR r c la lc ia ic ba bc)) :
    Calls Tryz.prog 10 #[SV (reR r la lc ia ic ba bc)] w fun e w' => e = .returned (.tuple #[.int .i64 (neededS r - sumC r.bricks c), .int .i64 0]) ∧ Below w.heap.size w w' := by
  have h := balance_any (loadR r c la lc ia ic ba bc) w hs
  have e1 : balanceB (loadR r c la lc ia ic ba bc) = neededS r - sumC r.bricks c := by
    unfold balanceB
    rw [if_pos (load_B hv hc), load_bal (isC_len hc)]
  have e2 : weightEr (loadR r c la lc ia ic ba bc) = 0 := by unfold weightEr; rw [if_pos (load_B hv hc)]
  rw [e1, e2, show (loadR r c la lc ia ic ba bc).bricks.length = r.bricks.length from withC_len _ _] at h
  exact h
theorem holds_re {r : SetR} {c : List Int} {la : Option Addr} {lc : Nat} {ia : Option Addr} {ic : Nat} {ba : Option Addr} {bc : Nat} {w : World} (hv : setB r = true) (hc : IsC r.bricks c) (hs : SetIn w (loadR r c la lc ia ic ba bc)) :
    Calls Tryz.prog 11 #[SV (reR r la lc ia ic ba bc)] w fun e w' => e = .returned (.tuple #[.bool (decide (max (neededS r - sumC r.bricks c) (-(neededS r - sumC r.bricks c)) ≤ r.brake)), .int .i64 0]) ∧ Below w.heap.size w w' := by
  have h := holds_any (loadR r c la lc ia ic ba bc) w (load_B hv hc) hs
  rw [load_bal (isC_len hc)] at h
  simp only [SV] at h
  rw [show (loadR r c la lc ia ic ba bc).bricks.length = r.bricks.length from withC_len _ _] at h
  exact h
set_option maxRecDepth 100000 in
set_option maxHeartbeats 64000000 in
theorem filled_law (r : SetR) (ac : Option Addr) (c : List Int) (cc : Nat) (w : World) (hs : SetIn0 w r) (hN : Nums w.heap.size w ac c) (ht : TabP w) :
    Calls Tryz.prog 3 #[SV r, .slice ac c.length cc] w fun e w' => e = .returned (.bool true) ∧ Below w.heap.size w w' := by
  have hb0 := below_new w (SC r)
  have HX : Hid (∀ wx, Below (w.alloc (SC r)).heap.size (w.alloc (SC r)) wx → Below w.heap.size w wx) := Lib.hid fun wx h => mono_in _ h
  have HS0 := Lib.hid (hs.grow hb0)
  have HNC := Lib.hid (hN.grow hb0)
  have HT := Lib.hid (tab_below ht hb0)
  have HX13 := Lib.hid (set13 (SetAt.new w r 26) (by simp))
  clear hb0 hs hN ht
  go_enter Tryz.func3, Tryz.ntmps3
  go_upto_region 1 with (fail)
  generalize w.alloc (SC r) = W0 at *
  obtain ⟨B0, hB0⟩ : ∃ b, w.heap.size = b := ⟨_, rfl⟩
  rw [hB0] at HX13 ⊢
  clear hB0
  have hB := Below.refl W0.heap.size W0
  obtain ⟨x0, x1, x2, x3, x4, x5, x6, x7, x8, x9, x10, x11, x12⟩ := HX13.out
  go_upto_region 3 with (go_at_call 4; (with_reducible refine (awake_any _ HT.out).mono ?_); rintro e wx ⟨rfl, hb⟩; have hBn := hB.trans (hb.mono hB.size); clear hB hb; have hB := hBn; clear hBn)
  obtain ⟨sm, hsm⟩ : ∃ b, smallB r 12 = b := ⟨_, rfl⟩
  have HSC : Hid (∀ W, Below W0.heap.size W0 W → Calls Tryz.prog 5 #[SV r, .int .i64 12] W fun e w' => e = .returned (.bool sm) ∧ Below W.heap.size W w') := Lib.hid fun W h => by
    rw [← hsm]
    exact small_any r 12 W (HS0.out.grow h)
  cases sm
  · clear hsm
    go_wp2_with (go_at_call 5; (with_reducible refine (HSC.out _ hB).mono ?_); rintro e wx ⟨rfl, hb⟩; have hBn := hB.trans (hb.mono hB.size); clear hB hb; have hB := hBn; clear hBn)
    go_ret
    exact ⟨rfl, HX.out _ hB⟩
  have HS : Hid (SetIn W0 r) := Lib.hid (small_in HS0.out hsm)
  clear hsm
  by_cases h4 : 4 < r.bricks.length
  · have g1 : decide ((4 : Int) < r.bricks.length) = true := decide_eq_true (by omega)
    have g2 : decide (4 < r.bricks.length) = true := decide_eq_true h4
    clear h4
    go_wp2_with (go_at_call 5; (with_reducible refine (HSC.out _ hB).mono ?_); rintro e wx ⟨rfl, hb⟩; have hBn := hB.trans (hb.mono hB.size); clear hB hb; have hB := hBn; clear hBn)
    go_ret
    exact ⟨rfl, HX.out _ hB⟩
  have g1 : decide ((4 : Int) < r.bricks.length) = false := decide_eq_false (by omega)
  have g2 : decide (4 < r.bricks.length) = false := decide_eq_false h4
  by_cases h10 : 10 < c.length
  · have g3 : decide ((10 : Int) < c.length) = true := decide_eq_true (by omega)
    have g4 : decide (10 < c.length) = true := decide_eq_true h10
    clear h4 h10
    go_wp2_with (go_at_call 5; (with_reducible refine (HSC.out _ hB).mono ?_); rintro e wx ⟨rfl, hb⟩; have hBn := hB.trans (hb.mono hB.size); clear hB hb; have hB := hBn; clear hBn)
    go_ret
    exact ⟨rfl, HX.out _ hB⟩
  have g3 : decide ((10 : Int) < c.length) = false := decide_eq_false (by omega)
  have g4 : decide (10 < c.length) = false := decide_eq_false h10
  have H4 := Lib.hid h4
  clear h4 h10
  obtain ⟨v, hv⟩ : ∃ b, setB r = b := ⟨_, rfl⟩
  have HVC : Hid (∀ W, Below W0.heap.size W0 W → Calls Tryz.prog 6 #[SV r] W fun e w' => e = .returned (.bool v) ∧ Below W.heap.size W w') := Lib.hid fun W h => by
    rw [← hv]
    exact rvalid_any r W (HS.out.grow h)
  cases v
  · clear hv
    go_wp2_with (first | (go_at_call 5; (with_reducible refine (HSC.out _ hB).mono ?_); rintro e wx ⟨rfl, hb⟩; have hBn := hB.trans (hb.mono hB.size); clear hB hb; have hB := hBn; clear hBn) | (go_at_call 6; (with_reducible refine (HVC.out _ hB).mono ?_); rintro e wx ⟨rfl, hb⟩; have hBn := hB.trans (hb.mono hB.size); clear hB hb; have hB := hBn; clear hBn))
    go_ret
    exact ⟨rfl, HX.out _ hB⟩
  have hk := setB_iff.1 hv
  have hbr := hk.bricks
  obtain ⟨hl8, -, -, hok⟩ := brick_ok hbr
  obtain ⟨N, hNN⟩ : ∃ N, (if countP r.bricks ≤ 1000000 then (countP r.bricks : Int) else 1000001) = N := ⟨_, rfl⟩
  have HCC : Hid (∀ W, Below W0.heap.size W0 W → Calls Tryz.prog 7 #[.slice r.ba r.bricks.length r.bc] W fun e w' => e = .returned (.int .i64 N) ∧ Below W.heap.size W w') := Lib.hid fun W h => by
    rw [← hNN]
    exact (count_any r.ba r.bricks r.bc _ W hok (by omega) (HS.out.grow h).bricks).mono fun e w' q => ⟨q.1, by rw [q.2]; exact Below.refl _ _⟩
  have HV := Lib.hid hv
  have HK := Lib.hid hk
  have HOK := Lib.hid hok
  have HBR := Lib.hid hbr
  have HL8 := Lib.hid hl8
  clear hv hk hok hbr hl8 hNN
  by_cases h20 : 20 < N
  · have g5 : decide (20 < N) = true := decide_eq_true h20
    clear h20
    go_wp2_with (first | (go_at_call 5; (with_reducible refine (HSC.out _ hB).mono ?_); rintro e wx ⟨rfl, hb⟩; have hBn := hB.trans (hb.mono hB.size); clear hB hb; have hB := hBn; clear hBn) | (go_at_call 6; (with_reducible refine (HVC.out _ hB).mono ?_); rintro e wx ⟨rfl, hb⟩; have hBn := hB.trans (hb.mono hB.size); clear hB hb; have hB := hBn; clear hBn) | (go_at_call 7; (with_reducible refine (HCC.out _ hB).mono ?_); rintro e wx ⟨rfl, hb⟩; have hBn := hB.trans (hb.mono hB.size); clear hB hb; have hB := hBn; clear hBn))
    go_ret
    exact ⟨rfl, HX.out _ hB⟩
  have g5 : decide (20 < N) = false := decide_eq_false h20
  clear h20
  go_upto_region 5 with (first | (go_at_call 5; (with_reducible refine (HSC.out _ hB).mono ?_); rintro e wx ⟨rfl, hb⟩; have hBn := hB.trans (hb.mono hB.size); clear hB hb; have hB := hBn; clear hBn) | (go_at_call 6; (with_reducible refine (HVC.out _ hB).mono ?_); rintro e wx ⟨rfl, hb⟩; have hBn := hB.trans (hb.mono hB.size); clear hB hb; have hB := hBn; clear hBn) | (go_at_call 7; (with_reducible refine (HCC.out _ hB).mono ?_); rintro e wx ⟨rfl, hb⟩; have hBn := hB.trans (hb.mono hB.size); clear hB hb; have hB := hBn; clear hBn))
  clear HSC HVC HCC g1 g2 g3 g4 g5
  have hnb := needed_bd HK.out
  have hr : -1099511627776 ≤ neededS r ∧ neededS r ≤ 1099511627776 := by omega
  obtain ⟨q1, q2⟩ := near_is HBR.out HOK.out hr
  have hfe : fillE r = 0 := by unfold fillE; rw [HV.out, if_pos rfl, q2]
  have hfc : fillC r = firstP (nearP (neededS r) r.bricks) (nearP (neededS r) r.bricks) r.bricks := by unfold fillC; rw [HV.out, if_pos rfl, q1]
  have hbest := first_best (nearP (neededS r) r.bricks) (nearP (neededS r) r.bricks) r.bricks
  have hsome := first_some.2 ⟨_, (nearP_spec (w := neededS r) HOK.out).1, Int.le_refl _, Int.le_refl _⟩
  cases hq : firstP (nearP (neededS r) r.bricks) (nearP (neededS r) r.bricks) r.bricks with
  | none => rw [hq] at hsome; cases hsome
  | some p =>
    obtain ⟨S1, m⟩ := p
    rw [hq] at hbest hfc
    obtain ⟨hi1, hw1, rfl, -⟩ := hbest
    have hsx : sumC r.bricks S1 = nearP (neededS r) r.bricks := by
      unfold winB at hw1
      simp only [Bool.and_eq_true, decide_eq_true_eq] at hw1
      omega
    have HI1 := Lib.hid hi1
    have HFI : Hid (∀ W, Below W0.heap.size W0 W → Calls Tryz.prog 8 #[SV r] W fun e w' => Hid (∃ fa fc, e = .returned (.tuple #[.slice fa S1.length fc, .int .i64 0]) ∧ Nums w'.heap.size w' fa S1) ∧ Below W.heap.size W w') := Lib.hid fun W h => (fill_any r W (HS.out.grow h)).mono fun e w' ⟨hx, hb⟩ => by
      obtain ⟨v, rfl, hv⟩ := hx.out
      rw [hfc] at hv
      rw [hfe]
      obtain ⟨fa, fc, rfl, _, _, _, hS⟩ := RowV.nums hv
      exact ⟨Lib.hid ⟨fa, fc, rfl, hS⟩, hb⟩
    have hrb := rest_bd HOK.out
    have hcb := isC_bd HOK.out hi1
    have hnear := (nearP_spec (w := neededS r) HOK.out).2
    have HNR := Lib.hid hnear
    have HSX := Lib.hid hsx
    have hl8 := HL8.out
    obtain ⟨x, hx⟩ : ∃ x, neededS r - sumC r.bricks S1 = x := ⟨_, rfl⟩
    have hxb : -1000000000000 ≤ x ∧ x ≤ 1000000000000 := by omega
    have HXB := Lib.hid hxb
    have HXX := Lib.hid hx
    clear hx hxb hrb hcb hnear hsx hi1 hw1 hq hsome hfc hfe q1 q2 hr hnb hl8
    go_upto_region 11 with (first | (go_at_call 8; (with_reducible refine (HFI.out _ hB).mono ?_); rintro e wx ⟨hx, hb⟩; obtain ⟨fa, fc, rfl, hS⟩ := hx.out; have HA1 := Lib.hid hS; clear hx hS; have hBn := hB.trans (hb.mono hB.size); clear hB hb; have hB := hBn; clear hBn) | (go_at_call 9; (with_reducible refine (loaded_any r _ S1 _ _ HV.out HI1.out (HS.out.grow hB) HA1.out).mono ?_); rintro e wx ⟨hx, hb⟩; obtain ⟨la1, lc1, ia1, ic1, ba1, bc1, rfl, hSI⟩ := hx.out; have HSL1 := Lib.hid hSI; clear hx hSI; have hBn := hB.trans (hb.mono hB.size); clear hB hb; have hB := hBn; clear hBn))
    have hB1 := belA (SC (reR r la1 lc1 ia1 ic1 ba1 bc1)) hB
    have HSM1 := Lib.hid (HSL1.out.grow (below_new wx (SC (reR r la1 lc1 ia1 ic1 ba1 bc1))))
    have HFX1 := Lib.hid (set13 (SetAt.new wx (reR r la1 lc1 ia1 ic1 ba1 bc1) 26) (by simp))
    have HG1 := Lib.hid (below_new wx (SC (reR r la1 lc1 ia1 ic1 ba1 bc1)))
    obtain ⟨Bt1, hbt⟩ : ∃ b, wx.heap.size = b := ⟨_, rfl⟩
    obtain ⟨W1, hw1⟩ : ∃ W : World, wx.alloc (SC (reR r la1 lc1 ia1 ic1 ba1 bc1)) = W := ⟨_, rfl⟩
    rw [hbt] at HFX1 ⊢
    rw [hw1] at hB1 HSM1 HFX1 HG1
    simp only [hw1]
    clear hbt hw1 hB HSL1
    have hB := hB1
    have hC1 := Below.refl W1.heap.size W1
    obtain ⟨y0, y1, y2, y3, y4, y5, y6, y7, y8, y9, y10, y11, y12⟩ := HFX1.out
    obtain ⟨I, hI⟩ : ∃ I, decide (max x (-x) ≤ r.brake) = I := ⟨_, rfl⟩
    have HD1 := Lib.hid hI
    clear hI
    go_upto_region 15 with (first | (go_at_call 10; (with_reducible refine (balance_re (c := S1) HV.out HI1.out (HSM1.out.grow hC1)).mono ?_); rintro e wb ⟨rfl, hb⟩; rw [HXX.out]; have hCn := hC1.trans (hb.mono hC1.size); have hBn := hB.trans (hb.mono hB.size); clear hB hb hC1; have hB := hBn; have hC1 := hCn; clear hBn hCn) | (go_at_call 11; (with_reducible refine (holds_re (c := S1) HV.out HI1.out (HSM1.out.grow hC1)).mono ?_); rintro e wh ⟨rfl, hb⟩; rw [HXX.out]; rw [HD1.out]; have hCn := hC1.trans (hb.mono hC1.size); have hBn := hB.trans (hb.mono hB.size); clear hB hb hC1; have hB := hBn; have hC1 := hCn; clear hBn hCn))
    clear y0 y1 y2 y3 y4 y5 y6 y7 y8 y9 y10 y11 y12 hC1
    obtain ⟨wn, hwn⟩ : ∃ n, weightN r.bricks c = n := ⟨_, rfl⟩
    obtain ⟨we, hwe⟩ : ∃ n, weightE r.bricks c = n := ⟨_, rfl⟩
    have HWT : Hid (∀ W, Below W0.heap.size W0 W → Calls Tryz.prog 12 #[.slice r.ba r.bricks.length r.bc, .slice ac c.length cc] W fun e w' => e = .returned (.tuple #[.int .i64 wn, .int .i64 we]) ∧ Below W.heap.size W w') := Lib.hid fun W h => by
      rw [← hwn, ← hwe]
      exact weight_any r.ba r.bricks r.bc ac c cc W (HS.out.grow h).bcap (HS.out.grow h).bricks (HNC.out.grow h)
    obtain ⟨x0, x1, x2, x3, x4, x5, x6, x7, x8, x9, x10, x11, x12⟩ := HX13.out
    by_cases hi : IsC r.bricks c
    · have HI2 := Lib.hid hi
      obtain rfl : we = 0 := by rw [← hwe]; unfold weightE; rw [if_pos HBR.out, if_pos (isC_len hi), if_pos hi]
      obtain ⟨y, hy⟩ : ∃ y, neededS r - sumC r.bricks c = y := ⟨_, rfl⟩
      have HXX2 := Lib.hid hy
      have hl8 := HL8.out
      have hcb2 := isC_bd HOK.out hi
      have hrb := rest_bd HOK.out
      have hnb := needed_bd HK.out
      have hyb : -1000000000000 ≤ y ∧ y ≤ 1000000000000 := by omega
      have hnn := HNR.out (sumC r.bricks c) ⟨c, hi, rfl⟩
      have hxy : max x (-x) ≤ max y (-y) := by
        have hx := HXX.out
        rw [← HSX.out] at hnn
        unfold nearer farN at hnn
        split at hnn <;> split at hnn <;> omega
      obtain ⟨A, hA⟩ : ∃ A, decide (max y (-y) ≤ r.brake) = A := ⟨_, rfl⟩
      have HIA : Hid (A = true → I = true) := Lib.hid fun e => by
        rw [← HD1.out]
        rw [← hA] at e
        have := of_decide_eq_true e
        exact decide_eq_true (by omega)
      have HD2 := Lib.hid hA
      have HXY := Lib.hid hxy
      have HYB := Lib.hid hyb
      clear hwn hwe hy hl8 hcb2 hrb hnb hyb hnn hxy hA hi
      go_upto_region 19 with (first | (go_at_call 12; (with_reducible refine (HWT.out _ hB).mono ?_); rintro e wx ⟨rfl, hb⟩; have hBn := hB.trans (hb.mono hB.size); clear hB hb; have hB := hBn; clear hBn) | (go_at_call 9; (with_reducible refine (loaded_any r _ c _ _ HV.out HI2.out (HS.out.grow hB) (HNC.out.grow hB)).mono ?_); rintro e wx ⟨hx, hb⟩; obtain ⟨la2, lc2, ia2, ic2, ba2, bc2, rfl, hSI⟩ := hx.out; have HSL2 := Lib.hid hSI; clear hx hSI; have hBn := hB.trans (hb.mono hB.size); clear hB hb; have hB := hBn; clear hBn))
      have hB2 := belA (SC (reR r la2 lc2 ia2 ic2 ba2 bc2)) hB
      have HSM2 := Lib.hid (HSL2.out.grow (below_new wx (SC (reR r la2 lc2 ia2 ic2 ba2 bc2))))
      have HFX2 := Lib.hid (set13 (SetAt.new wx (reR r la2 lc2 ia2 ic2 ba2 bc2) 26) (by simp))
      have HG2 := Lib.hid (below_new wx (SC (reR r la2 lc2 ia2 ic2 ba2 bc2)))
      obtain ⟨Bt2, hbt⟩ : ∃ b, wx.heap.size = b := ⟨_, rfl⟩
      obtain ⟨W2, hw2⟩ : ∃ W : World, wx.alloc (SC (reR r la2 lc2 ia2 ic2 ba2 bc2)) = W := ⟨_, rfl⟩
      rw [hbt] at HFX2 ⊢
      rw [hw2] at hB2 HSM2 HFX2 HG2
      simp only [hw2]
      clear hbt hw2 hB HSL2
      have hB := hB2
      have hC2 := Below.refl W2.heap.size W2
      obtain ⟨y0, y1, y2, y3, y4, y5, y6, y7, y8, y9, y10, y11, y12⟩ := HFX2.out
      go_upto_region 21 with (first | (go_at_call 10; (with_reducible refine (balance_re (c := c) HV.out HI2.out (HSM2.out.grow hC2)).mono ?_); rintro e wb ⟨rfl, hb⟩; rw [HXX2.out]; have hCn := hC2.trans (hb.mono hC2.size); have hBn := hB.trans (hb.mono hB.size); clear hB hb hC2; have hB := hBn; have hC2 := hCn; clear hBn hCn) | (go_at_call 11; (with_reducible refine (holds_re (c := c) HV.out HI2.out (HSM2.out.grow hC2)).mono ?_); rintro e wh ⟨rfl, hb⟩; rw [HXX2.out]; rw [HD2.out]; have hCn := hC2.trans (hb.mono hC2.size); have hBn := hB.trans (hb.mono hB.size); clear hB hb hC2; have hB := hBn; have hC2 := hCn; clear hBn hCn))
      clear x0 x1 x2 x3 x4 x5 x6 x7 x8 x9 x10 x11 x12 y0 y1 y2 y3 y4 y5 y6 y7 y8 y9 y10 y11 y12 hC2 HX13 HFX2 HFX1
      have s1 : IntKind.i64.wrap (-x) = -x := IntWalk.i64_in _ (by have := HXB.out; omega)
      have s2 : IntKind.i64.wrap (-y) = -y := IntWalk.i64_in _ (by have := HYB.out; omega)
      have g3 : decide (max x (-x) ≤ max y (-y)) = true := decide_eq_true HXY.out
      cases I
      · have hA0 : A = false := by
          cases A
          · rfl
          · exact absurd (HIA.out rfl) (by decide)
        subst hA0
        go_wp2_with fail
        go_ret
        exact ⟨rfl, HX.out _ hB⟩
      · go_wp2_with fail
        go_ret
        exact ⟨rfl, HX.out _ hB⟩
    · have g3 : (we == 0) = false := by
        rw [← hwe]
        unfold weightE
        rw [if_pos HBR.out, if_neg hi]
        split <;> rfl
      have g4 : (we != 0) = true := by rw [bne, g3]; rfl
      clear hwn hwe hi
      go_wp2_with (go_at_call 12; (with_reducible refine (HWT.out _ hB).mono ?_); rintro e wx ⟨rfl, hb⟩; have hBn := hB.trans (hb.mono hB.size); clear hB hb; have hB := hBn; clear hBn)
      go_ret
      exact ⟨rfl, HX.out _ hB⟩
end Go.Proofs.YtfkmnneieglolaaGreatDoor
namespace Go.Proofs.YtfkmnneieglolaaGreatDoor
open Go.ChangeShapes Go.WideShapes Go.ChangeAt Go.WideMaps Go.WideElems Go.RowKit

theorem own : ownKnob Tryz.prog.godebug = none := by kernel_rfl
theorem laidOut : laidOutB Tryz.prog = true := by kernel_rfl

section
variable {H : Type} {enc : TypeId × Value → H} {P : Program}
theorem post_of_below {f : Func} {s : ChangeSpec} {apart fresh handsOn again : Bool} {W W' : World} {args : Array Value} {v : Value} {ds gs : List (DataW H)} {before pa pv : List MemPlace}
    (hW : DataW.Whole enc P f.params.toList s.vars apart W args.toList ds gs before)
    (hres : ∀ (b : Nat) (sp : Nat → Bool) (hd : Bool), DataW.TrodAll enc P W' b sp hd f.resultTypes.toList (v.resultList f.resultTypes.size) (s.fn H (ds ++ gs)).results [])
    (hargs : ∀ sp : Nat → Bool, (∀ p ∈ before, sp p.block = true) → DataW.TrodAll enc P W' 0 sp true f.params.toList args.toList (s.fn H (ds ++ gs)).args pa)
    (hvars : ∀ sp : Nat → Bool, (∀ p ∈ before, sp p.block = true) → DataW.TrodVars enc P W' sp s.vars (s.fn H (ds ++ gs)).vars pv)
    (hps : before = pa ++ pv) (hb : Below W.heap.size W W')
    (hok : ∀ (j : Nat) (t : TypeId) (r : Value), f.resultTypes[j]? = some t → (v.resultList f.resultTypes.size)[j]? = some r → Value.okWide P W' .any 0 t r) :
    s.post enc P f apart fresh handsOn again W args v W' := by
  have hlt : ∀ p ∈ before, p.block < W.heap.size := fun p hp => hW.lt p hp
  have hold : ∀ p ∈ before, (fun b => decide (b < W.heap.size)) p.block = true := fun p hp => by simpa using hlt p hp
  refine ⟨ds, gs, before, [], pa, pv, hW, hres _ _ _, hargs _ hold, hvars _ hold, World.keptBut_mono (fun p hp => ⟨hp, ?_⟩) (hb.frame (· ∈ before)), fun _ => ?_⟩
  · rw [hps, List.mem_append] at hp
    exact Or.inr hp
  · obtain ⟨_, _, _, _, _, hz, hn⟩ := hW
    refine ⟨hok, _, _, ([] ++ pa) ++ pv, ⟨[] ++ pa, pv, trodAll_append (hargs _ (fun _ _ => rfl)) (hres _ _ _), hvars _ (fun _ _ => rfl), rfl, ?_, ?_⟩, ?_⟩
    · intro b off hp
      have hin : MemPlace.cell b off ∈ before := by rw [hps]; simpa using hp
      rw [hb.frozen (hlt _ hin)]
      exact hz b off hin
    · intro ha
      have := hn ha
      rw [hps] at this
      simpa using this
    · intro p hp _
      rw [hps]
      simpa using hp

theorem trodAll_below (hl : laidOutB P = true) {W W' : World} (hb : Below W.heap.size W W') (sp : Nat → Bool) :
    ∀ {ts : List TypeId} {vs : List Value} {ds : List (DataW H)} {ps : List MemPlace}, (ts.all fun t => P.readableRec t && decide (t < P.types.size)) = true → DataW.TrodAll enc P W 0 (fun _ => true) true ts vs ds ps →
      (∀ x ∈ ps, x.block < W.heap.size) → (∀ x ∈ ps, sp x.block = true) → DataW.TrodAll enc P W' 0 sp true ts vs ds ps
  | [], [], [], _, _, h, _, _ => h
  | t :: ts, v :: vs, d :: ds, _, ht, ⟨p, q, h0, h1, rfl⟩, hlt, hsp => by
    simp only [List.all_cons, Bool.and_eq_true, decide_eq_true_eq] at ht
    exact ⟨p, q, WideElems.Trod_stays hl ht.1.1 ht.1.2 h0 (fun x hx => hb.same (hlt x (List.mem_append.2 (.inl hx)))) (fun x hx => hsp x (List.mem_append.2 (.inl hx))),
      trodAll_below hl hb sp (by simpa using ht.2) h1 (fun x hx => hlt x (List.mem_append.2 (.inr hx))) (fun x hx => hsp x (List.mem_append.2 (.inr hx))), rfl⟩
  | [], [], _ :: _, _, _, h, _, _ => h.elim
  | [], _ :: _, _, _, _, h, _, _ => h.elim
  | _ :: _, [], _, _, _, h, _, _ => h.elim
  | _ :: _, _ :: _, [], _, _, h, _, _ => h.elim

theorem law_post {f : Func} {s : ChangeSpec} {apart fresh handsOn again : Bool} {W W' : World} {args : Array Value} {ds gs : List (DataW H)} {before : List MemPlace} {tb : TypeId}
    (hl : laidOutB P = true) (hr : (f.params.toList.all fun t => P.readableRec t && decide (t < P.types.size)) = true) (hW : DataW.Whole enc P f.params.toList s.vars apart W args.toList ds gs before)
    (hv : s.vars = []) (hfn : s.fn H (ds ++ gs) = { results := [.lit (.bool true)], args := ds }) (ht : f.resultTypes = #[tb]) (hu : P.underlying tb = some .bool) (hb : Below W.heap.size W W') :
    s.post enc P f apart fresh handsOn again W args (.bool true) W' := by
  have hlt : ∀ p ∈ before, p.block < W.heap.size := fun p hp => hW.lt p hp
  have hW2 := hW
  obtain ⟨p, q, hA, hV, hpq, _, _⟩ := hW
  have hV' := hV
  rw [hv] at hV'
  obtain ⟨rfl, rfl⟩ := trodVars_none hV'
  have hpp : before = p := by rw [hpq, List.append_nil]
  refine post_of_below (pa := before) (pv := []) hW2 ?_ ?_ ?_ (by simp) hb ?_
  · intro b sp hd
    rw [hfn, ht]
    exact trodAll_mk1 (shut_bool hu _)
  · intro sp hsp
    rw [hfn]
    exact trodAll_below hl hb sp hr (by rw [hpp]; exact hA) hlt hsp
  · intro sp hsp
    rw [hfn, hv]
    rfl
  · intro j t r hj hrr
    rw [ht] at hj hrr
    exact ok_one ht rfl (okWide_bool_mk hu _) j t r (by rw [ht]; exact hj) (by rw [ht]; exact hrr)
end
end Go.Proofs.YtfkmnneieglolaaGreatDoor
namespace Go.Proofs.YtfkmnneieglolaaGreatDoor
open Go.ChangeShapes Go.WideShapes Go.ChangeAt Go.WideMaps Go.WideElems Go.RowKit

def laidList : List (String × DataW Unit) := [("math/bits.deBruijn32tab", Rows.laid_math_bits_deBruijn32tab), ("math/bits.deBruijn64tab", Rows.laid_math_bits_deBruijn64tab), ("internal/strconv.uint64pow10", Rows.laid_internal_strconv_uint64pow10)]
theorem gP : Tryz.prog.globalNamed "internal/strconv.uint64pow10" = some 0 := by kernel_rfl
theorem tP : (Tryz.prog.globals[0]?).map (·.type) = some 166 := by kernel_rfl
theorem door_met (os : Os) (args : Array Value) : laidMetH Tryz.prog laidList ((World.doorLaid Tryz.prog 400 os).forCall (fun _ _ => 0) ⟨#[], args, []⟩).memory :=
  laidMetH_of_parts3 (fuel := 8) (laidMet_of_run' 8 (by kernel_rfl) (by kernel_rfl)) (by kernel_rfl) (by kernel_rfl)
theorem tabs_of_laid {W : World} (h : laidMetH Tryz.prog laidList W) : TabP W := by
  rw [MakeChecks.laidMetH_plain _ _ _ (by kernel_rfl)] at h
  exact Lib.tabIs_of_head (rest := []) gP tP Tryz.underlying166 Tryz.underlying159 (by kernel_rfl) (by kernel_rfl) h.tail.tail
end Go.Proofs.YtfkmnneieglolaaGreatDoor
namespace Go.Proofs.YtfkmnneieglolaaGreatDoor
open Go.ChangeShapes Go.WideShapes Go.ChangeAt Go.WideMaps Go.WideElems Go.RowKit Go.Deep

theorem flatMap_get {X : Type} (cells : X → List Value) (size : Nat) (hlen : ∀ r, (cells r).length = size) : ∀ (L : List X) (j : Nat) (u : Value), (L.flatMap cells)[j]? = some u → ∃ i k r, j = i * size + k ∧ L[i]? = some r ∧ (cells r)[k]? = some u
  | [], j, u, h => by simp at h
  | x :: l, j, u, h => by
    rw [List.flatMap_cons, List.getElem?_append] at h
    split at h
    · exact ⟨0, j, x, by omega, rfl, h⟩
    · next hj =>
      rw [hlen] at h hj
      obtain ⟨i, k, r, e, h1, h2⟩ := flatMap_get cells size hlen l _ u h
      exact ⟨i + 1, k, r, by rw [Nat.add_mul]; omega, h1, h2⟩

section
variable {H : Type} {enc : TypeId × Value → H} {P : Program} {w : World} {base : Nat} {spare : Nat → Bool} {held : Bool}
theorem open_rows {X : Type} [Inhabited X] (cells : X → List Value) (size : Nat) (Fit : X → Prop) (hsize : 0 < size) (hlen : ∀ r, (cells r).length = size) {t e : TypeId} (ht : P.underlying t = some (.slice e)) (hC : P.cellsOf e = size)
    (hel : ∀ n cs' y, cs'.length = size → DataW.trod enc P w base spare held n e cs' = some y → ∃ r, cs' = cells r ∧ Fit r) {fuel : Nat} {v : Value} {x : DataW H × List MemPlace} (h : DataW.trod enc P w base spare held fuel t [v] = some x) :
    ∃ (a : Option Addr) (cap : Nat) (L : List X), v = .slice a L.length cap ∧ L.length ≤ cap ∧ cap ≤ maxLen ∧ (a = none → cap = 0) ∧ (∀ r ∈ L, Fit r) ∧
      (0 < L.length → ∃ b off, a = some ⟨b, off, none⟩ ∧ b < w.heap.size ∧ ∀ j u, (L.flatMap cells)[j]? = some u → w.cell? ⟨b, off + j, none⟩ = some u) := by
  rcases open_slice ht h with ⟨hcs, _⟩ | ⟨a, len, cap, m, n, D, Pl, hcs, _, hl, hm, hmm, _, hi⟩
  · simp only [List.cons.injEq, and_true] at hcs
    subst hcs
    exact ⟨none, 0, [], rfl, Nat.le_refl _, by unfold maxLen; omega, fun _ => rfl, (fun _ h => by cases h), fun h => absurd h (Nat.not_lt_zero _)⟩
  · simp only [List.cons.injEq, and_true] at hcs
    subst hcs
    have hlm : len ≤ m := by rw [hmm]; split <;> omega
    have hex : ∀ i, ∃ r : X, i < len → Fit r ∧ ∀ k u, (cells r)[k]? = some u → w.cell? (a.add (i * size + k)) = some u := fun i => by
      by_cases h : i < len
      · obtain ⟨cs', hc, ht'⟩ := hi i (by omega)
        rw [hC] at hc
        obtain ⟨_, hcl, hat⟩ := World.cells?_some hc
        obtain ⟨r, e, hf⟩ := hel n cs' _ hcl ht'
        refine ⟨r, fun _ => ⟨hf, fun k u hu => ?_⟩⟩
        rw [← e] at hu
        have hk : k < size := by
          have := (List.getElem?_eq_some_iff.1 hu).1
          omega
        rw [← Go.Deep.add_add, hat k hk, hu]
      · exact ⟨default, fun h' => absurd h' h⟩
    obtain ⟨f, hf⟩ := Classical.axiomOfChoice hex
    refine ⟨some a, cap, (List.range len).map f, by simp, by simpa using hl, hm, (fun e => by cases e), ?_, ?_⟩
    · intro r hr
      obtain ⟨i, hi', rfl⟩ := List.mem_map.1 hr
      exact (hf i (by simpa using hi')).1
    · intro hpos
      have hpos' : 0 < len := by simpa using hpos
      have hcell : ∀ i k u, i < len → (cells (f i))[k]? = some u → w.cell? (a.add (i * size + k)) = some u := fun i k u h hu => (hf i h).2 k u hu
      have h0 : ∃ u, (cells (f 0))[0]? = some u := ⟨_, List.getElem?_eq_getElem (by rw [hlen]; exact hsize)⟩
      obtain ⟨u0, hu0⟩ := h0
      have hc0 := hcell 0 0 u0 hpos' hu0
      obtain ⟨b, off, spot⟩ := a
      have hspot : spot = none := by simpa [Addr.add] using World.cell?_spot hc0
      subst hspot
      refine ⟨b, off, rfl, ?_, fun j u hj => ?_⟩
      · rw [Go.WideShapes.add_plain] at hc0
        exact World.block_lt_of_cell? w _ hc0
      · obtain ⟨i, k, r, e, h1, h2⟩ := flatMap_get cells size hlen _ j u hj
        rw [List.getElem?_map] at h1
        have hil : i < len := by
          rcases Nat.lt_or_ge i len with l | l
          · exact l
          · rw [List.getElem?_eq_none (by simpa using l)] at h1; cases h1
        rw [List.getElem?_range hil] at h1
        obtain rfl : f i = r := by simpa using h1
        have := hcell i k u hil h2
        rw [Go.WideShapes.add_plain] at this
        rw [e]
        exact this
/-- An element that is a struct of one-cell fields. -/
theorem elem_fields {e : TypeId} {fs : Array Field} {n : Nat} {cs' : List Value} {y : DataW H × List MemPlace} (he : P.underlying e = some (.struct fs)) (hone : oneCellFields P fs = true) (hl : cs'.length = fs.size) (h : DataW.trod enc P w base spare held n e cs' = some y) :
    ∃ m, ∀ (j : Nat) (f : Field), fs[j]? = some f → ∃ (v : Value) (z : DataW H × List MemPlace), cs'[j]? = some v ∧ DataW.trod enc P w base spare held m f.type [v] = some z := by
  obtain ⟨ys, n', hn', hy, hlen, hyl, hf⟩ := DataW.trod_struct he h
  refine ⟨n', fun j f hj => ?_⟩
  obtain ⟨ho, hk⟩ := hone_of hone j f hj
  have hjl : j < fs.size := (Array.getElem?_eq_some_iff.1 hj).1
  have hv : cs'[j]? = some (cs'[j]'(by omega)) := List.getElem?_eq_getElem (by omega)
  have h1 := hf j f hj
  rw [ho, hk] at h1
  have hone' : (cs'.drop j).take 1 = [cs'[j]'(by omega)] := by
    rw [List.drop_eq_getElem_cons (by omega)]
    rfl
  rw [hone'] at h1
  exact ⟨_, ys[j]'(by omega), hv, h1.trans (List.getElem?_eq_getElem (by omega))⟩
/-- A field that is a slice of whatever. -/
theorem field_slice {t e : TypeId} {n : Nat} {v : Value} {y : DataW H × List MemPlace} (ht : P.underlying t = some (.slice e)) (h : DataW.trod enc P w base spare held n t [v] = some y) : ∃ a l c, v = .slice a l c := by
  rcases open_slice ht h with ⟨hcs, _⟩ | ⟨a, len, cap, m, n, D, Pl, hcs, _⟩
  · simp only [List.cons.injEq, and_true] at hcs
    exact ⟨_, _, _, hcs⟩
  · simp only [List.cons.injEq, and_true] at hcs
    exact ⟨_, _, _, hcs⟩
end
end Go.Proofs.YtfkmnneieglolaaGreatDoor
namespace Go.Proofs.YtfkmnneieglolaaGreatDoor
open Go.ChangeShapes Go.WideShapes Go.ChangeAt Go.WideMaps Go.WideElems Go.RowKit Go.Deep Go.Joins

theorem num_of_flat {n₀ : Nat} {w : World} {a : Option Addr} {L : List (Int)} (h : 0 < L.length → ∃ b off, a = some ⟨b, off, none⟩ ∧ b < n₀ ∧ ∀ j u, (nflat L)[j]? = some u → w.cell? ⟨b, off + j, none⟩ = some u) : Nums n₀ w a L := fun hl => by
  obtain ⟨b, off, e, hb, hc⟩ := h hl
  refine ⟨b, off, e, hb, fun i hi => ?_⟩
  have f0 := nflat_at L i hi
  have c0 := hc _ _ f0
  try simp only [← Nat.add_assoc] at c0
  exact c0
theorem brick_of_flat {n₀ : Nat} {w : World} {a : Option Addr} {L : List (BrickR)} (h : 0 < L.length → ∃ b off, a = some ⟨b, off, none⟩ ∧ b < n₀ ∧ ∀ j u, (kflat L)[j]? = some u → w.cell? ⟨b, off + j, none⟩ = some u) : Bricks n₀ w a L := fun hl => by
  obtain ⟨b, off, e, hb, hc⟩ := h hl
  refine ⟨b, off, e, hb, fun i hi => ?_⟩
  obtain ⟨f0, f1, f2⟩ := kflat_at L i hi
  have c0 := hc _ _ f0
  have c1 := hc _ _ f1
  have c2 := hc _ _ f2
  try simp only [← Nat.add_assoc] at c0 c1 c2
  exact ⟨c0, c1, c2⟩
instance : Inhabited BrickR := ⟨⟨⟨#[]⟩, 0, 0⟩⟩
section
variable {H : Type} {enc : TypeId × Value → H} {w : World} {base : Nat} {spare : Nat → Bool} {held : Bool}
theorem open_nums {fuel : Nat} {v : Value} {x : DataW H × List MemPlace} (h : DataW.trod enc Tryz.prog w base spare held fuel 22 [v] = some x) :
    ∃ (a : Option Addr) (cap : Nat) (L : List Int), v = .slice a L.length cap ∧ L.length ≤ cap ∧ cap ≤ maxLen ∧ (a = none → cap = 0) ∧ (∀ r ∈ L, (Lit.int .i64 r).wf = true) ∧ Nums w.heap.size w a L := by
  obtain ⟨a, cap, L, h1, h2, h3, h4, h5, h6⟩ := open_rows (P := Tryz.prog) (fun r : Int => [Value.int .i64 r]) 1 (fun r => (Lit.int .i64 r).wf = true) (by decide) (fun _ => rfl) Tryz.underlying22 (by kernel_rfl) (fun n cs' y hl ht => by
    obtain ⟨m, e, _, hw⟩ := DataW.trod_int Tryz.underlying3 ht
    exact ⟨m, e, hw⟩) h
  exact ⟨a, cap, L, h1, h2, h3, h4, h5, num_of_flat h6⟩
set_option maxRecDepth 100000 in
theorem open_bricks {fuel : Nat} {v : Value} {x : DataW H × List MemPlace} (h : DataW.trod enc Tryz.prog w base spare held fuel 24 [v] = some x) :
    ∃ (a : Option Addr) (cap : Nat) (L : List BrickR), v = .slice a L.length cap ∧ L.length ≤ cap ∧ cap ≤ maxLen ∧ (a = none → cap = 0) ∧ Bricks w.heap.size w a L := by
  obtain ⟨a, cap, L, h1, h2, h3, h4, _, h6⟩ := open_rows (P := Tryz.prog) (fun r : BrickR => [.string r.name, .int .i64 r.weight, .int .i64 r.count]) 3 (fun _ => True) (by decide) (fun _ => rfl) Tryz.underlying24 (by kernel_rfl) (fun n cs' y hl ht => by
    obtain ⟨m, hf⟩ := elem_fields Tryz.underlying61 (by kernel_rfl) (by rw [hl]; rfl) ht
    obtain ⟨v0, z0, c0, t0⟩ := hf 0 _ rfl
    obtain ⟨v1, z1, c1, t1⟩ := hf 1 _ rfl
    obtain ⟨v2, z2, c2, t2⟩ := hf 2 _ rfl
    obtain ⟨n0, e0, _, _⟩ := DataW.trod_string Tryz.underlying9 t0
    obtain ⟨n1, e1, _, w1⟩ := DataW.trod_int Tryz.underlying3 t1
    obtain ⟨n2, e2, _, w2⟩ := DataW.trod_int Tryz.underlying3 t2
    simp only [List.cons.injEq, and_true] at e0 e1 e2
    subst e0 e1 e2
    match cs', hl with
    | [x0, x1, x2], _ =>
      simp only [List.getElem?_cons_zero, List.getElem?_cons_succ, Option.some.injEq] at c0 c1 c2
      subst c0 c1 c2
      exact ⟨⟨n0, n1, n2⟩, rfl, trivial⟩) h
  exact ⟨a, cap, L, h1, h2, h3, h4, brick_of_flat h6⟩
end
section
variable {H : Type} {enc : TypeId × Value → H} {W : World} {base : Nat}
set_option maxRecDepth 100000 in
theorem open_numsA {v : Value} {d : DataW H} {p : List MemPlace} (hv : Value.okWide Tryz.prog W .any base 22 v) (h : DataW.Trod enc Tryz.prog W 0 (fun _ => true) true 22 v d p) :
    ∃ (a : Option Addr) (cap : Nat) (L : List Int), v = .slice a L.length cap ∧ L.length ≤ cap ∧ cap ≤ maxLen ∧ (a = none → cap = 0) ∧ (∀ r ∈ L, (Lit.int .i64 r).wf = true) ∧ Nums W.heap.size W a L := by
  obtain ⟨a0, len0, cap0, rfl⟩ := okWide_slice Tryz.underlying22 hv
  obtain ⟨fuel, hf⟩ := h
  exact open_nums (v := .slice a0 len0 cap0) hf
set_option maxRecDepth 100000 in
theorem open_bricksA {v : Value} {d : DataW H} {p : List MemPlace} (hv : Value.okWide Tryz.prog W .any base 24 v) (h : DataW.Trod enc Tryz.prog W 0 (fun _ => true) true 24 v d p) :
    ∃ (a : Option Addr) (cap : Nat) (L : List BrickR), v = .slice a L.length cap ∧ L.length ≤ cap ∧ cap ≤ maxLen ∧ (a = none → cap = 0) ∧ Bricks W.heap.size W a L := by
  obtain ⟨a0, len0, cap0, rfl⟩ := okWide_slice Tryz.underlying24 hv
  obtain ⟨fuel, hf⟩ := h
  exact open_bricks (v := .slice a0 len0 cap0) hf
end
end Go.Proofs.YtfkmnneieglolaaGreatDoor
namespace Go.Proofs.YtfkmnneieglolaaGreatDoor
open Go.ChangeShapes Go.WideShapes Go.ChangeAt Go.WideMaps Go.WideElems Go.RowKit Go.Deep Go.Joins
theorem item_of_flat {n₀ : Nat} {w : World} {a : Option Addr} {L : List ItemR} (h : 0 < L.length → ∃ b off, a = some ⟨b, off, none⟩ ∧ b < n₀ ∧ ∀ j u, (tflat L)[j]? = some u → w.cell? ⟨b, off + j, none⟩ = some u) : Items n₀ w a L := fun hl => by
  obtain ⟨b, off, e, hb, hc⟩ := h hl
  refine ⟨b, off, e, hb, fun i hi => ?_⟩
  obtain ⟨f0, f1, f2, f3, f4, f5, f6⟩ := tflat_at L i hi
  have c0 := hc _ _ f0
  have c1 := hc _ _ f1
  have c2 := hc _ _ f2
  have c3 := hc _ _ f3
  have c4 := hc _ _ f4
  have c5 := hc _ _ f5
  have c6 := hc _ _ f6
  try simp only [← Nat.add_assoc] at c0 c1 c2 c3 c4 c5 c6
  exact ⟨c0, c1, c2, c3, c4, c5, c6⟩
instance : Inhabited ItemR := ⟨⟨⟨#[]⟩, 0, 0, 0, 0, 0, 0⟩⟩
section
variable {H : Type} {enc : TypeId × Value → H} {w : World} {base : Nat} {spare : Nat → Bool} {held : Bool}
set_option maxRecDepth 100000 in
theorem open_items {fuel : Nat} {v : Value} {x : DataW H × List MemPlace} (h : DataW.trod enc Tryz.prog w base spare held fuel 23 [v] = some x) :
    ∃ (a : Option Addr) (cap : Nat) (L : List ItemR), v = .slice a L.length cap ∧ L.length ≤ cap ∧ cap ≤ maxLen ∧ (a = none → cap = 0) ∧ Items w.heap.size w a L := by
  obtain ⟨a, cap, L, h1, h2, h3, h4, _, h6⟩ := open_rows (P := Tryz.prog) (fun r : ItemR => [.string r.name, .int .i64 r.pos, .int .i64 r.width, .int .i64 r.weight, .int .i64 r.hang, .int .i64 r.front, .int .i64 r.back]) 7 (fun _ => True) (by decide) (fun _ => rfl) Tryz.underlying23 (by kernel_rfl) (fun n cs' y hl ht => by
    obtain ⟨m, hf⟩ := elem_fields Tryz.underlying59 (by kernel_rfl) (by rw [hl]; rfl) ht
    obtain ⟨v0, z0, c0, t0⟩ := hf 0 _ rfl
    obtain ⟨v1, z1, c1, t1⟩ := hf 1 _ rfl
    obtain ⟨v2, z2, c2, t2⟩ := hf 2 _ rfl
    obtain ⟨v3, z3, c3, t3⟩ := hf 3 _ rfl
    obtain ⟨v4, z4, c4, t4⟩ := hf 4 _ rfl
    obtain ⟨v5, z5, c5, t5⟩ := hf 5 _ rfl
    obtain ⟨v6, z6, c6, t6⟩ := hf 6 _ rfl
    obtain ⟨n0, e0, _, _⟩ := DataW.trod_string Tryz.underlying9 t0
    obtain ⟨n1, e1, _, w1⟩ := DataW.trod_int Tryz.underlying3 t1
    obtain ⟨n2, e2, _, w2⟩ := DataW.trod_int Tryz.underlying3 t2
    obtain ⟨n3, e3, _, w3⟩ := DataW.trod_int Tryz.underlying3 t3
    obtain ⟨n4, e4, _, w4⟩ := DataW.trod_int Tryz.underlying3 t4
    obtain ⟨n5, e5, _, w5⟩ := DataW.trod_int Tryz.underlying3 t5
    obtain ⟨n6, e6, _, w6⟩ := DataW.trod_int Tryz.underlying3 t6
    simp only [List.cons.injEq, and_true] at e0 e1 e2 e3 e4 e5 e6
    subst e0 e1 e2 e3 e4 e5 e6
    match cs', hl with
    | [x0, x1, x2, x3, x4, x5, x6], _ =>
      simp only [List.getElem?_cons_zero, List.getElem?_cons_succ, Option.some.injEq] at c0 c1 c2 c3 c4 c5 c6
      subst c0 c1 c2 c3 c4 c5 c6
      exact ⟨⟨n0, n1, n2, n3, n4, n5, n6⟩, rfl, trivial⟩) h
  exact ⟨a, cap, L, h1, h2, h3, h4, item_of_flat h6⟩
end
section
variable {H : Type} {enc : TypeId × Value → H} {W : World} {base : Nat}
set_option maxRecDepth 100000 in
theorem open_set {v : Value} {d : DataW H} {p : List MemPlace} (hv : Value.okWide Tryz.prog W .any base 26 v) (h : DataW.Trod enc Tryz.prog W 0 (fun _ => true) true 26 v d p) :
    ∃ r : SetR, v = .agg #[.string r.name, .int .i64 r.depth, .int .i64 r.low, .int .i64 r.high, .int .i64 r.length, .slice r.la r.lines.length r.lc, .int .i64 r.pipe, .int .i64 r.arbor, .int .i64 r.purchase, .int .i64 r.most, .int .i64 r.brake, .slice r.ia r.items.length r.ic, .slice r.ba r.bricks.length r.bc] ∧ SetIn0 W r := by
  obtain ⟨cs, rfl, hsz⟩ := okWide_struct Tryz.underlying26 hv
  obtain ⟨l⟩ := cs
  match l, hsz.trans (show Tryz.prog.cellsOf 26 = 13 by kernel_rfl) with
  | [x0, x1, x2, x3, x4, x5, x6, x7, x8, x9, x10, x11, x12], _ =>
    obtain ⟨fuel, hf0⟩ := h
    obtain ⟨m, hf⟩ := elem_fields (cs' := [x0, x1, x2, x3, x4, x5, x6, x7, x8, x9, x10, x11, x12]) Tryz.underlying26 (by kernel_rfl) rfl (by simpa [Value.cells] using hf0)
    obtain ⟨v0, z0, c0, t0⟩ := hf 0 _ rfl
    obtain ⟨v1, z1, c1, t1⟩ := hf 1 _ rfl
    obtain ⟨v2, z2, c2, t2⟩ := hf 2 _ rfl
    obtain ⟨v3, z3, c3, t3⟩ := hf 3 _ rfl
    obtain ⟨v4, z4, c4, t4⟩ := hf 4 _ rfl
    obtain ⟨v5, z5, c5, t5⟩ := hf 5 _ rfl
    obtain ⟨v6, z6, c6, t6⟩ := hf 6 _ rfl
    obtain ⟨v7, z7, c7, t7⟩ := hf 7 _ rfl
    obtain ⟨v8, z8, c8, t8⟩ := hf 8 _ rfl
    obtain ⟨v9, z9, c9, t9⟩ := hf 9 _ rfl
    obtain ⟨v10, z10, c10, t10⟩ := hf 10 _ rfl
    obtain ⟨v11, z11, c11, t11⟩ := hf 11 _ rfl
    obtain ⟨v12, z12, c12, t12⟩ := hf 12 _ rfl
    simp only [List.getElem?_cons_zero, List.getElem?_cons_succ, Option.some.injEq] at c0 c1 c2 c3 c4 c5 c6 c7 c8 c9 c10 c11 c12
    subst c0 c1 c2 c3 c4 c5 c6 c7 c8 c9 c10 c11 c12
    obtain ⟨n0, e0, _, _⟩ := DataW.trod_string Tryz.underlying9 t0
    obtain ⟨n1, e1, _, w1⟩ := DataW.trod_int Tryz.underlying3 t1
    obtain ⟨n2, e2, _, w2⟩ := DataW.trod_int Tryz.underlying3 t2
    obtain ⟨n3, e3, _, w3⟩ := DataW.trod_int Tryz.underlying3 t3
    obtain ⟨n4, e4, _, w4⟩ := DataW.trod_int Tryz.underlying3 t4
    obtain ⟨n6, e6, _, w6⟩ := DataW.trod_int Tryz.underlying3 t6
    obtain ⟨n7, e7, _, w7⟩ := DataW.trod_int Tryz.underlying3 t7
    obtain ⟨n8, e8, _, w8⟩ := DataW.trod_int Tryz.underlying3 t8
    obtain ⟨n9, e9, _, w9⟩ := DataW.trod_int Tryz.underlying3 t9
    obtain ⟨n10, e10, _, w10⟩ := DataW.trod_int Tryz.underlying3 t10
    obtain ⟨la, lc, L, rfl, l1, l2, l3, _, l4⟩ := open_nums t5
    obtain ⟨ia, ic, I, rfl, i1, i2, i3, i4⟩ := open_items t11
    obtain ⟨ba, bc, B, rfl, b1, b2, b3, b4⟩ := open_bricks t12
    simp only [List.cons.injEq, and_true] at e0 e1 e2 e3 e4 e6 e7 e8 e9 e10
    subst e0 e1 e2 e3 e4 e6 e7 e8 e9 e10
    exact ⟨⟨n0, n1, n2, n3, n4, la, L, lc, n6, n7, n8, n9, n10, ia, I, ic, ba, B, bc⟩, rfl, ⟨l4, i4, b4, l1, i1, b1, l3, i3, b3⟩⟩
end
end Go.Proofs.YtfkmnneieglolaaGreatDoor
