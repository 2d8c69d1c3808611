/-
  THE WALK of the law SubsetsFinds: it answers true at every list and number.
-/
import Derived.Test.YtfiefmhnonddhaaDoorAwake
import Derived.Test.YtfiefmhnonddhaaDoorRefB
import Derived.Test.YtfiefmhnonddhaaDoorLong
namespace Go.Proofs.YtfiefmhnonddhaaDoor
open Go.RowKit Go.Shelf

theorem num_same (a1 a2 : Option Addr) (F : List Int) (c1 c2 : Nat) (w : World) (hl : F.length ≤ 1100) (h1 : Nums w.heap.size w a1 F) (h2 : Nums w.heap.size w a2 F) :
    Calls Tryd.prog 15 #[.slice a1 F.length c1, .slice a2 F.length c2] w fun e w' => e = .returned (.bool true) ∧ Below w.heap.size w w' := eq_ex a1 a2 F c1 c2 F.length w rfl hl h1 h2

set_option maxHeartbeats 4000000 in
theorem finds_cl (a va : Option Addr) (L : List Int) (cap vc b : Nat) (sum least : Int) (w : World) (hG : givenE L = 0) (hc : w.cell? ⟨b, 0, none⟩ = some (.slice a L.length cap)) (hX : Nums w.heap.size w va (findX L sum least)) :
    Calls Tryd.prog 14 #[.slice va (findX L sum least).length vc, .int .i64 (findE L sum least), .int .i64 (rfstTo L sum least (2 ^ L.length)), .pointer (some ⟨b, 0, none⟩)] w fun e w' => e = .returned (.bool true) ∧ Below w.heap.size w w' := by
  have hl := (given_small hG).1
  have hr := rfst_eq L sum least (2 ^ L.length)
  cases hb : (fstTo L sum least (2 ^ L.length)).2
  · have hX0 : findX L sum least = [] := by unfold findX foundB; rw [hb, Bool.and_false]; rfl
    have hE0 : findE L sum least = 12 := by unfold findE; rw [if_pos hG, hb]; rfl
    rw [hb, if_neg (by decide)] at hr
    rw [hX0, hE0, hr]
    clear hr hX0 hE0 hb hX hG
    go_enter Tryd.func14, Tryd.ntmps14
    go_wp2_with fail
    go_ret
    exact ⟨rfl, Below.refl _ _⟩
  · obtain ⟨s, hs⟩ : ∃ s : Nat, (fstTo L sum least (2 ^ L.length)).1 = s := ⟨_, rfl⟩
    have hsl : s < 2 ^ L.length := by rw [← hs]; exact (fst_lt L sum least _ hb).1
    have h16 : 2 ^ L.length ≤ 65536 := Nat.pow_le_pow_right (by decide) hl
    have hX0 : findX L sum least = idxN L.length 0 s := by unfold findX foundB; rw [hb, hG, hs]; rfl
    have hE0 : findE L sum least = 0 := by unfold findE; rw [if_pos hG, hb]; rfl
    rw [hb, if_pos rfl, hs] at hr
    rw [hX0] at hX
    rw [hX0, hE0, hr]
    have hkl : (idxN L.length 0 s).length ≤ 16 := by rw [idx_len]; have := siz_le L.length s; omega
    have HX := Lib.hid hX
    have HC := Lib.hid (indices_any a L cap s w hl (by omega))
    clear hr hX0 hE0 hb hX hG hs
    generalize idxN L.length 0 s = X at *
    have g0 : decide ((s : Int) < 0) = false := decide_eq_false (by omega)
    go_enter Tryd.func14, Tryd.ntmps14
    go_wp2_with (first
      | (go_at_call 16; (with_reducible refine HC.out.mono ?_); rintro e w1 ⟨hx, hb1⟩; obtain ⟨v, rfl, hr1⟩ := hx.out; obtain ⟨a1, c1, rfl, _, _, _, hn1⟩ := num_of_row hr1; have HN1 := Lib.hid hn1; clear hx hr1 hn1)
      | (go_at_call 15; (with_reducible refine (num_same _ _ X _ _ _ (by omega) (HX.out.grow hb1) HN1.out).mono ?_); rintro e w2 ⟨rfl, hb2⟩))
    go_ret
    exact ⟨rfl, hb1.trans (hb2.mono hb1.size)⟩

set_option maxHeartbeats 8000000 in
theorem lawfinds_law (a : Option Addr) (L : List Int) (cap : Nat) (sum : Int) (w : World) (hI : Nums w.heap.size w a L) (hT : Tabs w) :
    Calls Tryd.prog 3 #[.slice a L.length cap, .int .i64 sum] w fun e w' => e = .returned (.bool true) ∧ Below w.heap.size w w' := by
  have hb0 := below_new w (.cells #[.slice a L.length cap] 22)
  have HM : Hid (∀ wr, Below (w.alloc (.cells #[.slice a L.length cap] 22)).heap.size (w.alloc (.cells #[.slice a L.length cap] 22)) wr → Below w.heap.size w wr) := Lib.hid fun wr h => mono_in _ h
  have x0 : (w.alloc (.cells #[.slice a L.length cap] 22)).cell? ⟨w.heap.size, 0, none⟩ = some (.slice a L.length cap) := cell_of_row _ _ 0 #[.slice a L.length cap] _ (0, 0) (heap_alloc_new _ _)
  have hsz : w.heap.size < (w.alloc (.cells #[.slice a L.length cap] 22)).heap.size := by simp
  have HI := Lib.hid (hI.grow hb0)
  have HT := Lib.hid (hT.grow hb0)
  clear hI hT hb0
  cases hlg : longB (L.length : Int)
  · have hl : L.length ≤ 100 := by
      unfold longB at hlg
      rw [Bool.or_eq_false_iff] at hlg
      have := of_decide_eq_false hlg.2
      omega
    have HLG := Lib.hid hlg
    clear hlg
    by_cases hg : givenE L = 0
    · have HG := Lib.hid hg
      have HR : Hid (∀ (s least : Int) w, Nums w.heap.size w a L → Calls Tryd.prog 17 #[.slice a L.length cap, .int .i64 s, .int .i64 least] w fun e w' => e = .returned (.int .i64 (rfstTo L s least (2 ^ L.length))) ∧ Below w.heap.size w w') := Lib.hid fun s least w h => reffirst_any a L cap s least w hg h
      have HCL : Hid (∀ (va : Option Addr) (vc b : Nat) (s least : Int) w, w.cell? ⟨b, 0, none⟩ = some (.slice a L.length cap) → Nums w.heap.size w va (findX L s least) → Calls Tryd.prog 14 #[.slice va (findX L s least).length vc, .int .i64 (findE L s least), .int .i64 (rfstTo L s least (2 ^ L.length)), .pointer (some ⟨b, 0, none⟩)] w fun e w' => e = .returned (.bool true) ∧ Below w.heap.size w w') := Lib.hid fun va vc b s least w h1 h2 => finds_cl a va L cap vc b s least w hg h1 h2
      clear hg
      go_enter Tryd.func3, Tryd.ntmps3
      go_upto_region 1 with (fail)
      generalize w.alloc (.cells #[.slice a L.length cap] 22) = W0 at *
      have hent : ∀ args w, (callFunc 14 args).run Tryd.prog w = .ok (.enter 14 args) w := enters_of Tryd.func14 (by kernel_rfl) rfl
      have hB : Below W0.heap.size W0 W0 := Below.refl _ _
      go_upto_region 11 with (first
        | (go_at_call 9; (with_reducible refine (awake_any _ HT.out).mono ?_); rintro e w1 ⟨rfl, hb1⟩; replace hB := hb1; have hx := (hB.cell (p := ⟨w.heap.size, 0, none⟩) hsz).trans x0; clear hb1)
        | (go_at_call 10; (with_reducible refine (long_any _ L _ _).mono ?_); rintro e w2 ⟨rfl, rfl⟩; rw [HLG.out])
        | (go_at_call 11; (with_reducible refine (Find_any _ L _ sum _ (by omega) (HI.out.grow hB) (HT.out.grow hB)).mono ?_); rintro e w3 ⟨hy, hb3⟩; obtain ⟨xv, xc, rfl, hxn⟩ := hy.out; replace hB := hB.trans (hb3.mono hB.size); have hx := (hB.cell (p := ⟨w.heap.size, 0, none⟩) hsz).trans x0; have HXN := Lib.hid hxn; clear hy hxn)
        | (go_at_call 12; (with_reducible refine (Zero_any _ L _ _ (by omega) (HI.out.grow hB) (HT.out.grow hB)).mono ?_); rintro e w4 ⟨hy, hb4⟩; obtain ⟨zv, zc, rfl, hzn⟩ := hy.out; replace hB := hB.trans (hb4.mono hB.size); have hx := (hB.cell (p := ⟨w.heap.size, 0, none⟩) hsz).trans x0; have HZN := Lib.hid hzn; replace HXN := Lib.hid (HXN.out.grow hb4); clear hy hzn)
        | (go_at_call 13; (with_reducible refine (refgiven_any _ L _ W0.heap.size _ (by omega) (HI.out.below hB)).mono ?_); rintro e w5 ⟨rfl, rfl⟩; rw [HG.out]))
      go_wp2_with (first
        | (go_at_call 17; (with_reducible first | refine (HR.out sum 0 _ (HI.out.grow hB)).mono ?_ | refine (HR.out 0 1 _ (HI.out.grow hB)).mono ?_); rintro e w6 ⟨rfl, hb6⟩; replace hB := hB.trans (hb6.mono hB.size); replace HXN := Lib.hid (HXN.out.grow hb6); replace HZN := Lib.hid (HZN.out.grow hb6); have hx := (hB.cell (p := ⟨w.heap.size, 0, none⟩) hsz).trans x0)
        | (go_at_call 14; (with_reducible first | refine (HCL.out _ _ _ sum 0 _ hx HXN.out).mono ?_ | refine (HCL.out _ _ _ 0 1 _ hx HZN.out).mono ?_); rintro e w7 ⟨rfl, hb7⟩; replace hB := hB.trans (hb7.mono hB.size); replace HXN := Lib.hid (HXN.out.grow hb7); replace HZN := Lib.hid (HZN.out.grow hb7); have hx := (hB.cell (p := ⟨w.heap.size, 0, none⟩) hsz).trans x0))
      go_ret
      exact ⟨rfl, HM.out _ hB⟩
    · have HX : Hid (findX L sum 0 = [] ∧ findE L sum 0 = givenE L ∧ findX L 0 1 = [] ∧ findE L 0 1 = givenE L) := Lib.hid (by
        unfold findX findE foundB
        rw [decide_eq_false hg, if_neg hg, if_neg hg]
        exact ⟨rfl, rfl, rfl, rfl⟩)
      have g0 : (givenE L != 0) = true := bne_iff_ne.2 hg
      have g1 : (givenE L == 0) = false := beq_eq_false_iff_ne.2 hg
      clear hg
      go_enter Tryd.func3, Tryd.ntmps3
      go_upto_region 1 with (fail)
      generalize w.alloc (.cells #[.slice a L.length cap] 22) = W0 at *
      have hB : Below W0.heap.size W0 W0 := Below.refl _ _
      go_wp2_with (first
        | (go_at_call 9; (with_reducible refine (awake_any _ HT.out).mono ?_); rintro e w1 ⟨rfl, hb1⟩; replace hB := hb1; have hx := (hB.cell (p := ⟨w.heap.size, 0, none⟩) hsz).trans x0; clear hb1)
        | (go_at_call 10; (with_reducible refine (long_any _ L _ _).mono ?_); rintro e w2 ⟨rfl, rfl⟩; rw [HLG.out])
        | (go_at_call 11; (with_reducible refine (Find_any _ L _ sum _ (by omega) (HI.out.grow hB) (HT.out.grow hB)).mono ?_); rintro e w3 ⟨hy, hb3⟩; obtain ⟨xv, xc, rfl, hxn⟩ := hy.out; replace hB := hB.trans (hb3.mono hB.size); have hx := (hB.cell (p := ⟨w.heap.size, 0, none⟩) hsz).trans x0; have HXN := Lib.hid hxn; clear hy hxn; rw [HX.out.1, HX.out.2.1])
        | (go_at_call 12; (with_reducible refine (Zero_any _ L _ _ (by omega) (HI.out.grow hB) (HT.out.grow hB)).mono ?_); rintro e w4 ⟨hy, hb4⟩; obtain ⟨zv, zc, rfl, hzn⟩ := hy.out; replace hB := hB.trans (hb4.mono hB.size); have hx := (hB.cell (p := ⟨w.heap.size, 0, none⟩) hsz).trans x0; have HZN := Lib.hid hzn; replace HXN := Lib.hid (HXN.out.grow hb4); clear hy hzn; rw [HX.out.2.2.1, HX.out.2.2.2])
        | (go_at_call 13; (with_reducible refine (refgiven_any _ L _ W0.heap.size _ (by omega) (HI.out.below hB)).mono ?_); rintro e w5 ⟨rfl, rfl⟩))
      go_ret
      exact ⟨rfl, HM.out _ hB⟩
  · have HLG := Lib.hid hlg
    clear hlg
    go_enter Tryd.func3, Tryd.ntmps3
    go_upto_region 1 with (fail)
    generalize w.alloc (.cells #[.slice a L.length cap] 22) = W0 at *
    go_wp2_with (first
      | (go_at_call 9; (with_reducible refine (awake_any _ HT.out).mono ?_); rintro e w1 ⟨rfl, hb1⟩; have hx := (hb1.cell (p := ⟨w.heap.size, 0, none⟩) hsz).trans x0)
      | (go_at_call 10; (with_reducible refine (long_any _ L _ _).mono ?_); rintro e w2 ⟨rfl, rfl⟩; rw [HLG.out]))
    go_ret
    exact ⟨rfl, HM.out _ hb1⟩
end Go.Proofs.YtfiefmhnonddhaaDoor
