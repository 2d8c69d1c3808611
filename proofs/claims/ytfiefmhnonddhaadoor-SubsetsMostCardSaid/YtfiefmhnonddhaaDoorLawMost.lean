/-
  THE WALK of the law SubsetsMost: it answers true at every list and colours.
-/
import Derived.Test.YtfiefmhnonddhaaDoorLawFinds
import Derived.Test.YtfiefmhnonddhaaDoorPairW
import Derived.Test.YtfiefmhnonddhaaDoorMostP
import Derived.Test.YtfiefmhnonddhaaDoorMostW
import Derived.Test.YtfiefmhnonddhaaDoorRefE
namespace Go.Proofs.YtfiefmhnonddhaaDoor
open Go.RowKit Go.Shelf Go.Maps

set_option maxRecDepth 100000 in
set_option maxHeartbeats 16000000 in
theorem lawmost_law (a ca : Option Addr) (L C : List Int) (cap cc : Nat) (w : World) (hI : Nums w.heap.size w a L) (hC : Bys w.heap.size w ca C) (hCB : ∀ c ∈ C, 0 ≤ c ∧ c ≤ 255) (hT : Tabs w) :
    Calls Tryd.prog 7 #[.slice a L.length cap, .slice ca C.length cc] w fun e w' => e = .returned (.bool true) ∧ Below w.heap.size w w' := by
  have HI := Lib.hid hI
  have HC := Lib.hid hC
  have HCB : Hid (∀ i, i < C.length → 0 ≤ ig C i ∧ ig C i ≤ 255) := Lib.hid fun i hi => by rw [ig_eq C i hi]; exact hCB _ (List.getElem_mem hi)
  have HT := Lib.hid hT
  clear hI hC hCB hT
  have hB : Below w.heap.size w w := Below.refl _ _
  by_cases hl : 8 < L.length
  · have g1 : decide (8 < (L.length : Int)) = true := decide_eq_true (by omega)
    clear hl
    go_enter Tryd.func7, Tryd.ntmps7
    go_wp2_with (go_at_call 9; (with_reducible refine (awake_any _ HT.out).mono ?_); rintro e w1 ⟨rfl, hb1⟩; replace hB := hb1; clear hb1)
    go_ret
    exact ⟨rfl, hB⟩
  · have g1 : decide (8 < (L.length : Int)) = false := decide_eq_false (by omega)
    have hl8 : L.length ≤ 8 := by omega
    by_cases hg : givenE L = 0
    · have HG := Lib.hid hg
      have hgg : (givenE L != 0) = false := bne_eq_false_iff_eq.2 hg
      by_cases hcl : 20 < C.length
      · have g2 : decide (20 < (C.length : Int)) = true := decide_eq_true (by omega)
        clear hl hcl hg
        go_enter Tryd.func7, Tryd.ntmps7
        go_wp2_with (first
          | (go_at_call 9; (with_reducible refine (awake_any _ HT.out).mono ?_); rintro e w1 ⟨rfl, hb1⟩; replace hB := hb1; clear hb1)
          | (go_at_call 13; (with_reducible refine (refgiven_any _ L _ w.heap.size _ (by omega) (HI.out.below hB)).mono ?_); rintro e w6 ⟨rfl, rfl⟩; rw [HG.out]))
        go_ret
        exact ⟨rfl, hB⟩
      · have g2 : decide (20 < (C.length : Int)) = false := decide_eq_false (by omega)
        have hcl2 : C.length ≤ 20 := by omega
        clear hl hcl
        by_cases ht : totalL L = 0
        · have HTO := Lib.hid ht
          have HPE : Hid (partsE L = 0) := Lib.hid (by rw [partsE_iff hg, if_pos ht])
          have HCK : Hid (checkX L (partsX L) = true) := Lib.hid (parts_checked hg ht)
          have hpb := (parts_bound hg ht).1
          have HPM := Lib.hid (parts_bound hg ht).2
          have HPZ : Hid (∀ x ∈ partsX L, (∀ k ∈ x, 0 ≤ k ∧ k < L.length) ∧ x.length ≤ L.length ∧ findE (partY L x) 0 1 = 0 ∧ (findX (partY L x) 0 1).length = (partY L x).length) := Lib.hid fun x hx => part_zero hg ht hx
          clear hg ht
          go_enter Tryd.func7, Tryd.ntmps7
          go_upto_region 12 with (first
            | (go_at_call 9; (with_reducible refine (awake_any _ HT.out).mono ?_); rintro e w1 ⟨rfl, hb1⟩; replace hB := hb1; clear hb1)
            | (go_at_call 13; (with_reducible refine (refgiven_any _ L _ w.heap.size _ (by omega) (HI.out.below hB)).mono ?_); rintro e w6 ⟨rfl, rfl⟩; rw [HG.out])
            | (go_at_call 21; (with_reducible refine (Parts_any _ L _ _ (by omega) (HI.out.grow hB) (HT.out.grow hB)).mono ?_); rintro e w4 ⟨hy, hb4⟩; obtain ⟨v, c, Q, rfl, hx4, hn4, he4⟩ := hy.out; rw [HPE.out]; have HQX := Lib.hid hx4; have HQL := Lib.hid hn4; have HQE := Lib.hid he4; have hql : Q.length ≤ 65536 := (by rw [← xsOf_len, hx4]; exact hpb); replace hB := hB.trans (hb4.mono hB.size); clear hy hx4 hn4 he4 hb4)
            | (go_at_call 31; (with_reducible refine (total_any _ L _ w.heap.size _ HG.out (HI.out.below hB)).mono ?_); rintro e w7 ⟨rfl, rfl⟩; rw [HTO.out])
            | (go_at_call 28; (with_reducible refine (Check_any _ _ L Q _ _ _ (by omega) (HI.out.grow hB) (by omega) HQL.out HQE.out).mono ?_); rintro e w5 ⟨rfl, hb5⟩; rw [HQX.out, HCK.out, HG.out]; replace hB := hB.trans (hb5.mono hB.size); replace HQL := Lib.hid (HQL.out.grow hb5); replace HQE := Lib.hid (HQE.out.grow hb5); clear hb5))
          obtain ⟨wm, rfl⟩ : ∃ wm : World, wm = w5 := ⟨_, rfl⟩
          go_loopw [72] (fun iv wr => ∃ j : Nat, iv = .int .i64 j ∧ j ≤ Q.length ∧ Below wm.heap.size wm wr) (fun iv _ => Q.length - (intOf iv).toNat)
          case atStart => exact ⟨0, rfl, Nat.zero_le _, Below.refl _ _⟩
          case round =>
            obtain ⟨j, rfl, hj, hBm⟩ := hrel
            have hBw := hB.trans (hBm.mono hB.size)
            by_cases hlt : j < Q.length
            · obtain ⟨qb, qo, rfl, hqb, hqc⟩ := HQL.out (by omega)
              have c0 := (hBm.cell (p := ⟨qb, qo + j, none⟩) hqb).trans (hqc j hlt)
              clear hqc
              have HXN := Lib.hid ((HQE.out j hlt).1)
              have hmem : (lg Q j).xs ∈ partsX L := by
                rw [← HQX.out]
                unfold xsOf
                rw [lg_eq Q j hlt]
                exact List.mem_map_of_mem (List.getElem_mem hlt)
              obtain ⟨hx1, hx2, hx3, hx4⟩ := HPZ.out _ hmem
              obtain ⟨p, hp⟩ : ∃ p, lg Q j = p := ⟨_, rfl⟩
              rw [hp] at c0 HXN hx1 hx2 hx3 hx4
              obtain ⟨xa, xs, xc⟩ := p
              simp only at c0 HXN hx1 hx2 hx3 hx4
              have HX1 : Hid (∀ i, i < xs.length → 0 ≤ ig xs i ∧ ig xs i < L.length) := Lib.hid fun i hi => hx1 _ (by rw [ig_eq xs i hi]; exact List.getElem_mem hi)
              have HZE := Lib.hid hx3
              have HZX := Lib.hid hx4
              have HYL : Hid ((partY L xs).length = xs.length) := Lib.hid (by unfold partY; rw [List.length_map])
              clear hp hmem hx1 hx3 hx4
              go_upto_region 16 with (fail)
              obtain ⟨wl, rfl⟩ : ∃ wl : World, wl = wr := ⟨_, rfl⟩
              go_loopw [11, 78] (fun ov iv wv => ∃ m : Nat, iv = .int .i64 m ∧ m ≤ xs.length ∧ Hid (∃ a c, ov = .slice a m c) ∧ Hid (wv.ownsRow wl.heap.size 3 1 ov (partY L (xs.take m)).length (nflat (partY L (xs.take m)))) ∧ Below wl.heap.size wl wv) (fun _ iv _ => xs.length - (intOf iv).toNat)
              case atStart => exact ⟨0, rfl, Nat.zero_le _, Lib.hid ⟨_, _, rfl⟩, Lib.hid (World.ownsRow_nil _ _ _ _), Below.refl _ _⟩
              case round =>
                obtain ⟨m, rfl, hm, HV, HR, hBl⟩ := hrel
                obtain ⟨ya, yc, rfl⟩ := HV.out
                have HTL : Hid ((partY L (xs.take m)).length = m) := Lib.hid (by unfold partY; rw [List.length_map, List.length_take]; omega)
                have hbl := hBm.size
                by_cases hml : m < xs.length
                · obtain ⟨xb, xo, rfl, hxb, hxc⟩ := HXN.out (by omega)
                  have d0 := ((hBm.trans (hBl.mono hbl)).cell (p := ⟨xb, xo + m, none⟩) hxb).trans (hxc m hml)
                  obtain ⟨k1, k2⟩ := HX1.out m hml
                  have HNX : Hid (partY L (xs.take (m + 1)) = partY L (xs.take m) ++ [ig L (ig xs m).toNat]) := Lib.hid (by unfold partY; rw [take_snoc hml, List.map_append]; rfl)
                  obtain ⟨k, hk⟩ : ∃ k : Nat, ig xs m = k := ⟨(ig xs m).toNat, by omega⟩
                  rw [hk] at d0 k1 k2 HNX
                  rw [Int.toNat_natCast] at HNX
                  have hkl : k < L.length := by omega
                  obtain ⟨lb, lo, rfl, hlb, hlc⟩ := HI.out (by omega)
                  have d1 := ((hBw.trans (hBl.mono (by have := hB.size; omega))).cell (p := ⟨lb, lo + k, none⟩) hlb).trans (hlc k hkl)
                  obtain ⟨y, hy⟩ : ∃ y, ig L k = y := ⟨_, rfl⟩
                  rw [hy] at d1 HNX
                  have h1 : decide ((k : Int) < 0) = false := decide_eq_false (by omega)
                  have h2 : decide ((L.length : Int) ≤ k) = false := decide_eq_false (by omega)
                  have hlb2 : lb < wr.heap.size := by have := hBl.size; have := hB.size; omega
                  clear hxc hlc hk hy k1 k2
                  go_wp2_with (at_builtin; refine num_append rfl _ _ rfl wl.heap.size _ (partY L (xs.take m)) rfl (HR.out.alloc _) _ y rfl (by exact cell_of_row _ _ 0 #[_] _ (0, 0) (heap_alloc_new _ _)) (by rw [HTL.out]; omega) (by have := hBl.size; first | omega | (simp; omega)) ?_; intro v3 w3 hown3 hg3; rw [← HNX.out] at hown3; have HO3 := Lib.hid hown3; have HG3 := Lib.hid hg3; clear hown3 hg3)
                  go_roundw
                  case rel =>
                    refine ⟨m + 1, by go_num, by omega, Lib.hid ?_, HO3, grown_own (HR.out.alloc _) HG3.out (hBl.alloc hBl.size _) (by have := hBl.size; simp; omega) (Nat.le_refl _)⟩
                    obtain ⟨a9, c9, e9, _⟩ := num_of_row HO3.out
                    have hle : (partY L (xs.take (m + 1))).length = m + 1 := by unfold partY; rw [List.length_map, List.length_take]; omega
                    exact ⟨a9, c9, by rw [e9, hle]⟩
                  case measure => simp [intOf]; omega
                · obtain rfl : m = xs.length := by omega
                  have hR := HR.out
                  rw [List.take_length] at hR
                  have hYN : Nums wr.heap.size wr ya (partY L xs) := own_nums' hR HYL.out.symm (fun g hg => (hR.lt g hg).2)
                  have hBe := hBw.trans (hBl.mono (by have := hB.size; omega))
                  have hZC := Zero_any ya (partY L xs) yc wr (by rw [HYL.out]; omega) hYN (HT.out.grow hBe)
                  rw [HYL.out, HZE.out, HZX.out, HYL.out] at hZC
                  have HZC := Lib.hid hZC
                  clear hZC hR hYN hml hm HTL HV
                  go_wp2_with (go_at_call 12; (with_reducible refine HZC.out.mono ?_); rintro e w8 ⟨hy, hb8⟩; obtain ⟨zv, zc, rfl, _⟩ := hy.out; clear hy)
                  go_roundw
                  case rel => exact ⟨j + 1, by go_num, by omega, (hBm.trans (hBl.mono hbl)).trans (hb8.mono (by have := hBl.size; omega))⟩
                  case measure => simp [intOf]; omega
            · obtain rfl : j = Q.length := by omega
              have HIB := Lib.hid (HI.out.grow hBw)
              have HCB2 := Lib.hid (HC.out.grow hBw)
              have hmm := @run_makeMap Tryd.prog
              go_upto_region 29 with (fail)
              obtain ⟨B, hBe⟩ : ∃ B, wr.heap.size = B := ⟨_, rfl⟩
              have HM0 := Lib.hid (World.ownsMap_made (H := Unit) wr Tryd.prog 5 (plainElem Tryd.prog 3))
              have hB0 : Below wr.heap.size wr (wr.alloc (.map #[] 0)) := below_new wr _
              rw [hBe] at HIB HCB2 HM0 hB0 ⊢
              obtain ⟨wo, hwo⟩ : ∃ wo : World, wo = wr := ⟨_, rfl⟩
              rw [← hwo] at HIB HCB2 hB0 hBm hBw hBe
              go_loopw [16, 116] (fun ov iv wv => ∃ (i : Nat) (P : List LstR) (D : DataW Unit), iv = .int .i64 i ∧ i ≤ L.length ∧ P.length ≤ i ∧ Hid (∃ a c, ov = .slice a P.length c) ∧ Hid (wv.ownsRow B 22 1 ov P.length (lflat P)) ∧ Hid (OwnLs wv B P) ∧ Hid (∀ k, k < P.length → (lg P k).xs.length ≤ i) ∧ Hid (wv.ownsMap Tryd.prog 5 (plainElem Tryd.prog 3) B i D) ∧ Hid (MapOK D P.length) ∧ Below B wo wv) (fun _ iv _ => L.length - (intOf iv).toNat)
              case atStart => exact ⟨0, [], .map [], rfl, Nat.zero_le _, Nat.zero_le _, Lib.hid ⟨_, _, rfl⟩, Lib.hid (World.ownsRow_nil _ _ _ _), Lib.hid (OwnLs.nil _ _), Lib.hid (fun _ h => absurd h (Nat.not_lt_zero _)), HM0, Lib.hid MapOK.nil, by rw [← hwo] at *; exact hB0⟩
              case round =>
                clear HM0 hB0 hwo
                obtain ⟨i, P, D, rfl, hi, hpi, HV, HR, HO, HL, HM, HMK, hBo⟩ := hrel
                obtain ⟨va, vc, rfl⟩ := HV.out
                by_cases hil : i < L.length
                · have h256 : (i : Int) % 256 = i := by omega
                  by_cases hc0 : C.length = 0
                  · have h3 : decide (0 < (C.length : Int)) = false := decide_eq_false (by omega)
                    have h4 : decide (0 < C.length) = false := decide_eq_false (by omega)
                    clear hc0
                    go_upto_region 34 with (fail)
                    have hwf : (Lit.int .u8 (i : Int)).wf = true := by simp [Lit.wf, IntKind.min, IntKind.max, IntKind.signed, IntKind.bits]; omega
                    have HK := Lib.hid (keyOf_int_mk (P := Tryd.prog) Tryd.underlying5 hwf)
                    have hBsz := hBo.size
                    cases hhas : Maps.has D (.int .u8 (i : Int))
                    · have HH := Lib.hid hhas
                      have hwp : (Lit.int .i64 (P.length : Int)).wf = true := by simp [Lit.wf, IntKind.min, IntKind.max, IntKind.signed, IntKind.bits]; omega
                      have HW := Lib.hid hwp
                      have HMP := Lib.hid (HMK.out.put (c := (i : Int)))
                      clear hhas hwf hwp
                      go_wp2_with (first
                        | (at_lookup; refine wpList_lookup_own_ok_int _ rfl _ _ 53 rfl 5 3 .i64 keyedB Tryd.underlying53 Tryd.underlying3 (Tryd.zeroValue3 _) B i D rfl HM.out _ _ rfl HK.out ?_; intro c9 hat hwc; rw [HH.out]; clear hat hwc)
                        | (at_mapUpdate; refine wpList_mapUpdate_own _ rfl _ _ _ 53 rfl 5 3 keyedB Tryd.underlying53 (plainElem Tryd.prog 3) B i D rfl HM.out (by unfold maxLen; omega) (.int .u8 (i : Int)) (.int .i64 (P.length : Int)) (.int .u8 (i : Int)) rfl rfl HK.out (.lit (.int .i64 (P.length : Int))) [] (plainElem_int Tryd.underlying3 HW.out) ?_; intro w1 hown1 hg1; have HR1 := Lib.hid (HR.out.kept hg1 (own_nomap HR.out HM.out)); have HO1 := Lib.hid (HO.out.byMap HM.out hg1); have HM1 := Lib.hid hown1; have hB1 : Below B wo w1 := hBo.grown hg1 (by omega) (fun k e => by cases e; exact Nat.le_refl _); have hs1 := hg1.size; clear hown1 hg1)
                        | (at_builtin; refine lst_append rfl _ _ rfl B _ P rfl (HR1.out.alloc _) _ ⟨none, [], 0⟩ rfl (by exact cell_of_row _ _ 0 #[_] _ (0, 0) (heap_alloc_new _ _)) (by omega) (by first | omega | (simp; omega)) ?_; intro v7 w7 hown7 hg7; obtain ⟨g7, ⟨c7, rfl⟩, hBg, hgl⟩ := row_addr' hown7 (by simp); have hO7 := ((HO1.out.alloc _).byRow (HR1.out.alloc _) hg7).push; have HM7 := Lib.hid ((HM1.out.alloc _).kept hg7 (ownsMap_ne HR1.out HM1.out)); have hB7 : Below B wo w7 := grown_own (HR1.out.alloc _) hg7 (hB1.alloc (by omega) _) (by first | omega | (simp; omega)) (Nat.le_refl _); obtain ⟨P2, hP2⟩ : ∃ P2, P ++ [(⟨none, [], 0⟩ : LstR)] = P2 := ⟨_, rfl⟩; have hq2 := lg_new P (⟨none, [], 0⟩ : LstR); have hl2 : (P ++ [(⟨none, [], 0⟩ : LstR)]).length = P.length + 1 := (by simp); have ho2 : ∀ k, k < P.length → lg (P ++ [(⟨none, [], 0⟩ : LstR)]) k = lg P k := (fun k hk => lg_old _ _ _ hk); rw [hP2] at hown7 hO7 hq2 hl2 ho2; rw [hP2]; have HR7 := Lib.hid hown7; have HO7 := Lib.hid hO7; have HQ7 := Lib.hid hq2; have HO2 := Lib.hid ho2; have HL2 := Lib.hid hl2; have hk7 : P.length < P2.length := (by omega); have e7 : w7.cell? ⟨g7, P.length, none⟩ = some (.slice none 0 0) := (by rw [hown7.cellAt P.length (by omega), lflat_at P2 P.length hk7, hq2]; rfl); have hs7 := hB7.size; clear hown7 hg7 hO7 hP2 hq2 hl2 ho2)
                        | (at_builtin; refine num_append_at rfl _ _ rfl B _ ([] : List Int) rfl (World.ownsRow_nil _ _ _ _) _ (i : Int) rfl (by exact cell_of_row _ _ 0 #[_] _ (0, 0) (heap_alloc_new _ _)) (by simp) (by first | omega | (simp; omega)) ?_; intro v9 w9 hown9 hg9 hat9; have hs9 := hg9.size; have hB9 : Below B wo w9 := (hB7.alloc (by omega) _).grown hg9 (by first | omega | (simp; omega)) (fun k e => by cases e); obtain ⟨a9, c9, rfl, hfz, hce9, hgl9, hBg9, hF1, hF2, hF3⟩ := step_store (r := ⟨none, [], 0⟩) (HR7.out.alloc _) rfl (HO7.out.alloc _) (HM7.out.alloc _) hk7 HQ7.out hown9 hg9 hat9; have HF1 := Lib.hid hF1; have HF2 := Lib.hid hF2; have HF3 := Lib.hid hF3; clear hown9 hg9 hat9 hF1 hF2 hF3))
                      go_roundw
                      case rel =>
                        refine ⟨i + 1, P2.set P.length ⟨a9, [] ++ [(i : Int)], c9⟩, D.put (.int .u8 (i : Int)) (.lit (.int .i64 (P.length : Int))), by go_num, by omega, by rw [List.length_set, HL2.out]; omega, Lib.hid ⟨_, _, by rw [List.length_set]⟩, HF1, HF2, Lib.hid (fun k hk => ?_), HF3, Lib.hid (by rw [List.length_set, HL2.out]; exact HMP.out), hB9.setCell hBg _⟩
                        rw [List.length_set] at hk
                        rw [lg_set hk7]
                        by_cases e : k = P.length
                        · rw [if_pos e]; simp
                        · rw [if_neg e, HO2.out k (by have := HL2.out; omega)]
                          have := HL.out k (by have := HL2.out; omega)
                          omega
                      case measure => simp [intOf]; omega
                    · obtain ⟨j, hj, ej⟩ := HMK.out.2 (i : Int) hwf hhas
                      have HH := Lib.hid hhas
                      have HE := Lib.hid ej
                      obtain ⟨g7, rfl, hBg, hgl⟩ := row_addr HR.out (by omega)
                      have HOJ := HO.out.1 j hj
                      have hjl := HL.out j hj
                      have e7 : wr.cell? ⟨g7, j, none⟩ = some (lstV (lg P j)) := by rw [HR.out.cellAt j (by omega), lflat_at P j hj]; rfl
                      obtain ⟨r, hr⟩ : ∃ r, lg P j = r := ⟨_, rfl⟩
                      rw [hr] at HOJ hjl e7
                      have HQ := Lib.hid hr
                      have HOK := Lib.hid HOJ
                      obtain ⟨ra, rx, rc⟩ := r
                      simp only [lstV] at e7 HOK hjl
                      clear hhas hwf ej hr HOJ
                      go_wp2_with (first
                        | (at_lookup; refine wpList_lookup_own_ok_int _ rfl _ _ 53 rfl 5 3 .i64 keyedB Tryd.underlying53 Tryd.underlying3 (Tryd.zeroValue3 _) B i D rfl HM.out _ _ rfl HK.out ?_; intro c9 hat hwc; rw [HE.out] at hat; obtain rfl : (j : Int) = c9 := (by simpa using hat); rw [HH.out]; clear hat hwc)
                        | (at_builtin; refine num_append_at rfl _ _ rfl B _ rx rfl (HOK.out.alloc _) _ (i : Int) rfl (by exact cell_of_row _ _ 0 #[_] _ (0, 0) (heap_alloc_new _ _)) (by omega) (by first | omega | (simp; omega)) ?_; intro v9 w9 hown9 hg9 hat9; have hs9 := hg9.size; have hB9 : Below B wo w9 := grown_own (HOK.out.alloc _) hg9 (hBo.alloc (by omega) _) (by first | omega | (simp; omega)) (Nat.le_refl _); obtain ⟨a9, c9, rfl, hfz, hce9, hgl9, hBg9, hF1, hF2, hF3⟩ := step_store (r := ⟨ra, rx, rc⟩) (HR.out.alloc _) rfl (HO.out.alloc _) (HM.out.alloc _) hj HQ.out hown9 hg9 hat9; have HF1 := Lib.hid hF1; have HF2 := Lib.hid hF2; have HF3 := Lib.hid hF3; clear hown9 hg9 hat9 hF1 hF2 hF3))
                      go_roundw
                      case rel =>
                        refine ⟨i + 1, P.set j ⟨a9, rx ++ [(i : Int)], c9⟩, D, by go_num, by omega, by rw [List.length_set]; omega, Lib.hid ⟨_, _, by rw [List.length_set]⟩, ?_, ?_, Lib.hid (fun k hk => ?_), ?_, Lib.hid (by rw [List.length_set]; exact HMK.out), hB9.setCell hBg _⟩
                        · have h := HF1.out
                          exact Lib.hid (by simpa using h)
                        · have h := HF2.out
                          exact Lib.hid (by simpa using h)
                        · rw [List.length_set] at hk
                          rw [lg_set hj]
                          by_cases e : k = j
                          · rw [if_pos e]; simp; omega
                          · rw [if_neg e]
                            have := HL.out k hk
                            omega
                        · have h := HF3.out.mono (Nat.le_succ i)
                          exact Lib.hid (by simpa using h)
                      case measure => simp [intOf]; omega
                  · have h3 : decide (0 < (C.length : Int)) = true := decide_eq_true (by omega)
                    have h4 : 0 < C.length := by omega
                    obtain ⟨cb, co, rfl, hcb, hcc⟩ := HCB2.out h4
                    have hmod := Nat.mod_lt i h4
                    have d0 := (hBo.cell (p := ⟨cb, co + i % C.length, none⟩) hcb).trans (hcc _ hmod)
                    have hcr := HCB.out _ hmod
                    obtain ⟨y, hy⟩ : ∃ y : Nat, ig C (i % C.length) = y := ⟨(ig C (i % C.length)).toNat, by omega⟩
                    rw [hy] at d0 hcr
                    have f1 : (i : Int).tmod C.length = ((i % C.length : Nat) : Int) := by rw [Int.tmod_eq_emod_of_nonneg (by omega)]; omega
                    have f2 : ((y : Int)).tmod 8 = ((y % 8 : Nat) : Int) := by rw [Int.tmod_eq_emod_of_nonneg (by omega)]; omega
                    obtain ⟨m, hm⟩ : ∃ m, i % C.length = m := ⟨_, rfl⟩
                    rw [hm] at d0 f1 hmod
                    clear hcc hy hm hc0
                    go_upto_region 34 with (fail)
                    have hwf : (Lit.int .u8 ((y : Int) % 8)).wf = true := by simp [Lit.wf, IntKind.min, IntKind.max, IntKind.signed, IntKind.bits]; omega
                    have HK := Lib.hid (keyOf_int_mk (P := Tryd.prog) Tryd.underlying5 hwf)
                    have hBsz := hBo.size
                    cases hhas : Maps.has D (.int .u8 ((y : Int) % 8))
                    · have HH := Lib.hid hhas
                      have hwp : (Lit.int .i64 (P.length : Int)).wf = true := by simp [Lit.wf, IntKind.min, IntKind.max, IntKind.signed, IntKind.bits]; omega
                      have HW := Lib.hid hwp
                      have HMP := Lib.hid (HMK.out.put (c := ((y : Int) % 8)))
                      clear hhas hwf hwp
                      go_wp2_with (first
                        | (at_lookup; refine wpList_lookup_own_ok_int _ rfl _ _ 53 rfl 5 3 .i64 keyedB Tryd.underlying53 Tryd.underlying3 (Tryd.zeroValue3 _) B i D rfl HM.out _ _ rfl HK.out ?_; intro c9 hat hwc; rw [HH.out]; clear hat hwc)
                        | (at_mapUpdate; refine wpList_mapUpdate_own _ rfl _ _ _ 53 rfl 5 3 keyedB Tryd.underlying53 (plainElem Tryd.prog 3) B i D rfl HM.out (by unfold maxLen; omega) (.int .u8 ((y : Int) % 8)) (.int .i64 (P.length : Int)) (.int .u8 ((y : Int) % 8)) rfl rfl HK.out (.lit (.int .i64 (P.length : Int))) [] (plainElem_int Tryd.underlying3 HW.out) ?_; intro w1 hown1 hg1; have HR1 := Lib.hid (HR.out.kept hg1 (own_nomap HR.out HM.out)); have HO1 := Lib.hid (HO.out.byMap HM.out hg1); have HM1 := Lib.hid hown1; have hB1 : Below B wo w1 := hBo.grown hg1 (by omega) (fun k e => by cases e; exact Nat.le_refl _); have hs1 := hg1.size; clear hown1 hg1)
                        | (at_builtin; refine lst_append rfl _ _ rfl B _ P rfl (HR1.out.alloc _) _ ⟨none, [], 0⟩ rfl (by exact cell_of_row _ _ 0 #[_] _ (0, 0) (heap_alloc_new _ _)) (by omega) (by first | omega | (simp; omega)) ?_; intro v7 w7 hown7 hg7; obtain ⟨g7, ⟨c7, rfl⟩, hBg, hgl⟩ := row_addr' hown7 (by simp); have hO7 := ((HO1.out.alloc _).byRow (HR1.out.alloc _) hg7).push; have HM7 := Lib.hid ((HM1.out.alloc _).kept hg7 (ownsMap_ne HR1.out HM1.out)); have hB7 : Below B wo w7 := grown_own (HR1.out.alloc _) hg7 (hB1.alloc (by omega) _) (by first | omega | (simp; omega)) (Nat.le_refl _); obtain ⟨P2, hP2⟩ : ∃ P2, P ++ [(⟨none, [], 0⟩ : LstR)] = P2 := ⟨_, rfl⟩; have hq2 := lg_new P (⟨none, [], 0⟩ : LstR); have hl2 : (P ++ [(⟨none, [], 0⟩ : LstR)]).length = P.length + 1 := (by simp); have ho2 : ∀ k, k < P.length → lg (P ++ [(⟨none, [], 0⟩ : LstR)]) k = lg P k := (fun k hk => lg_old _ _ _ hk); rw [hP2] at hown7 hO7 hq2 hl2 ho2; rw [hP2]; have HR7 := Lib.hid hown7; have HO7 := Lib.hid hO7; have HQ7 := Lib.hid hq2; have HO2 := Lib.hid ho2; have HL2 := Lib.hid hl2; have hk7 : P.length < P2.length := (by omega); have e7 : w7.cell? ⟨g7, P.length, none⟩ = some (.slice none 0 0) := (by rw [hown7.cellAt P.length (by omega), lflat_at P2 P.length hk7, hq2]; rfl); have hs7 := hB7.size; clear hown7 hg7 hO7 hP2 hq2 hl2 ho2)
                        | (at_builtin; refine num_append_at rfl _ _ rfl B _ ([] : List Int) rfl (World.ownsRow_nil _ _ _ _) _ (i : Int) rfl (by exact cell_of_row _ _ 0 #[_] _ (0, 0) (heap_alloc_new _ _)) (by simp) (by first | omega | (simp; omega)) ?_; intro v9 w9 hown9 hg9 hat9; have hs9 := hg9.size; have hB9 : Below B wo w9 := (hB7.alloc (by omega) _).grown hg9 (by first | omega | (simp; omega)) (fun k e => by cases e); obtain ⟨a9, c9, rfl, hfz, hce9, hgl9, hBg9, hF1, hF2, hF3⟩ := step_store (r := ⟨none, [], 0⟩) (HR7.out.alloc _) rfl (HO7.out.alloc _) (HM7.out.alloc _) hk7 HQ7.out hown9 hg9 hat9; have HF1 := Lib.hid hF1; have HF2 := Lib.hid hF2; have HF3 := Lib.hid hF3; clear hown9 hg9 hat9 hF1 hF2 hF3))
                      go_roundw
                      case rel =>
                        refine ⟨i + 1, P2.set P.length ⟨a9, [] ++ [(i : Int)], c9⟩, D.put (.int .u8 ((y : Int) % 8)) (.lit (.int .i64 (P.length : Int))), by go_num, by omega, by rw [List.length_set, HL2.out]; omega, Lib.hid ⟨_, _, by rw [List.length_set]⟩, HF1, HF2, Lib.hid (fun k hk => ?_), HF3, Lib.hid (by rw [List.length_set, HL2.out]; exact HMP.out), hB9.setCell hBg _⟩
                        rw [List.length_set] at hk
                        rw [lg_set hk7]
                        by_cases e : k = P.length
                        · rw [if_pos e]; simp
                        · rw [if_neg e, HO2.out k (by have := HL2.out; omega)]
                          have := HL.out k (by have := HL2.out; omega)
                          omega
                      case measure => simp [intOf]; omega
                    · obtain ⟨j, hj, ej⟩ := HMK.out.2 ((y : Int) % 8) hwf hhas
                      have HH := Lib.hid hhas
                      have HE := Lib.hid ej
                      obtain ⟨g7, rfl, hBg, hgl⟩ := row_addr HR.out (by omega)
                      have HOJ := HO.out.1 j hj
                      have hjl := HL.out j hj
                      have e7 : wr.cell? ⟨g7, j, none⟩ = some (lstV (lg P j)) := by rw [HR.out.cellAt j (by omega), lflat_at P j hj]; rfl
                      obtain ⟨r, hr⟩ : ∃ r, lg P j = r := ⟨_, rfl⟩
                      rw [hr] at HOJ hjl e7
                      have HQ := Lib.hid hr
                      have HOK := Lib.hid HOJ
                      obtain ⟨ra, rx, rc⟩ := r
                      simp only [lstV] at e7 HOK hjl
                      clear hhas hwf ej hr HOJ
                      go_wp2_with (first
                        | (at_lookup; refine wpList_lookup_own_ok_int _ rfl _ _ 53 rfl 5 3 .i64 keyedB Tryd.underlying53 Tryd.underlying3 (Tryd.zeroValue3 _) B i D rfl HM.out _ _ rfl HK.out ?_; intro c9 hat hwc; rw [HE.out] at hat; obtain rfl : (j : Int) = c9 := (by simpa using hat); rw [HH.out]; clear hat hwc)
                        | (at_builtin; refine num_append_at rfl _ _ rfl B _ rx rfl (HOK.out.alloc _) _ (i : Int) rfl (by exact cell_of_row _ _ 0 #[_] _ (0, 0) (heap_alloc_new _ _)) (by omega) (by first | omega | (simp; omega)) ?_; intro v9 w9 hown9 hg9 hat9; have hs9 := hg9.size; have hB9 : Below B wo w9 := grown_own (HOK.out.alloc _) hg9 (hBo.alloc (by omega) _) (by first | omega | (simp; omega)) (Nat.le_refl _); obtain ⟨a9, c9, rfl, hfz, hce9, hgl9, hBg9, hF1, hF2, hF3⟩ := step_store (r := ⟨ra, rx, rc⟩) (HR.out.alloc _) rfl (HO.out.alloc _) (HM.out.alloc _) hj HQ.out hown9 hg9 hat9; have HF1 := Lib.hid hF1; have HF2 := Lib.hid hF2; have HF3 := Lib.hid hF3; clear hown9 hg9 hat9 hF1 hF2 hF3))
                      go_roundw
                      case rel =>
                        refine ⟨i + 1, P.set j ⟨a9, rx ++ [(i : Int)], c9⟩, D, by go_num, by omega, by rw [List.length_set]; omega, Lib.hid ⟨_, _, by rw [List.length_set]⟩, ?_, ?_, Lib.hid (fun k hk => ?_), ?_, Lib.hid (by rw [List.length_set]; exact HMK.out), hB9.setCell hBg _⟩
                        · have h := HF1.out
                          exact Lib.hid (by simpa using h)
                        · have h := HF2.out
                          exact Lib.hid (by simpa using h)
                        · rw [List.length_set] at hk
                          rw [lg_set hj]
                          by_cases e : k = j
                          · rw [if_pos e]; simp; omega
                          · rw [if_neg e]
                            have := HL.out k hk
                            omega
                        · have h := HF3.out.mono (Nat.le_succ i)
                          exact Lib.hid (by simpa using h)
                      case measure => simp [intOf]; omega
                · obtain rfl : i = L.length := by omega
                  obtain ⟨a9, c9, e9, _, _, _, hn9⟩ := lst_of_row HR.out
                  simp only [Value.slice.injEq] at e9
                  rw [← e9.1] at hn9
                  have HPN := Lib.hid hn9
                  have HPE2 : Hid (Each wr.heap.size wr P) := Lib.hid (HO.out.each fun k hk => by have := HL.out k hk; omega)
                  have hBs := hBo.size
                  have hBf : Below w.heap.size w wr := hBw.trans (hBo.mono (by have := hBw.size; omega))
                  have HLB : Hid (Nums wr.heap.size wr a L) := Lib.hid (HI.out.grow hBf)
                  cases hck : checkX L (xsOf P)
                  · have HCX := Lib.hid hck
                    clear e9 hn9 hck hil hi
                    go_wp2_with (go_at_call 28; (with_reducible refine (Check_any _ _ L P _ _ _ (by omega) HLB.out (by omega) HPN.out HPE2.out).mono ?_); rintro e w5 ⟨rfl, hb5⟩; rw [HCX.out, HG.out])
                    go_ret
                    exact ⟨rfl, hBf.trans (hb5.mono hBf.size)⟩
                  · have HCX := Lib.hid hck
                    have hle := HPM.out _ hck
                    rw [← HQX.out, xsOf_len, xsOf_len] at hle
                    have g9 : decide ((P.length : Int) ≤ Q.length) = true := decide_eq_true (by omega)
                    have g8 : decide (P.length ≤ Q.length) = true := decide_eq_true hle
                    clear e9 hn9 hck hil hi hle
                    go_wp2_with (go_at_call 28; (with_reducible refine (Check_any _ _ L P _ _ _ (by omega) HLB.out (by omega) HPN.out HPE2.out).mono ?_); rintro e w5 ⟨rfl, hb5⟩; rw [HCX.out, HG.out])
                    go_ret
                    exact ⟨rfl, hBf.trans (hb5.mono hBf.size)⟩
        · have HTO : Hid ((totalL L != 0) = true) := Lib.hid (bne_iff_ne.2 ht)
          have HPE : Hid (partsE L = 18 ∧ partsX L = []) := Lib.hid ⟨by rw [partsE_iff hg, if_neg ht], parts_none hg ht⟩
          have hto := HTO.out
          clear hg ht
          go_enter Tryd.func7, Tryd.ntmps7
          go_wp2_with (first
            | (go_at_call 9; (with_reducible refine (awake_any _ HT.out).mono ?_); rintro e w1 ⟨rfl, hb1⟩; replace hB := hb1; clear hb1)
            | (go_at_call 13; (with_reducible refine (refgiven_any _ L _ w.heap.size _ (by omega) (HI.out.below hB)).mono ?_); rintro e w6 ⟨rfl, rfl⟩; rw [HG.out])
            | (go_at_call 21; (with_reducible refine (Parts_any _ L _ _ (by omega) (HI.out.grow hB) (HT.out.grow hB)).mono ?_); rintro e w4 ⟨hy, hb4⟩; obtain ⟨v, c, Q, rfl, hx4, _, _⟩ := hy.out; obtain rfl := (List.map_eq_nil_iff.1 (hx4.trans HPE.out.2)); rw [HPE.out.1]; replace hB := hB.trans (hb4.mono hB.size); clear hy hx4 hb4)
            | (go_at_call 31; (with_reducible refine (total_any _ L _ w.heap.size _ HG.out (HI.out.below hB)).mono ?_); rintro e w7 ⟨rfl, rfl⟩))
          go_ret
          exact ⟨rfl, hB⟩
    · have hgg : (givenE L != 0) = true := bne_iff_ne.2 hg
      clear hl hg
      go_enter Tryd.func7, Tryd.ntmps7
      go_wp2_with (first
        | (go_at_call 9; (with_reducible refine (awake_any _ HT.out).mono ?_); rintro e w1 ⟨rfl, hb1⟩; replace hB := hb1; clear hb1)
        | (go_at_call 13; (with_reducible refine (refgiven_any _ L _ w.heap.size _ (by omega) (HI.out.below hB)).mono ?_); rintro e w6 ⟨rfl, rfl⟩))
      go_ret
      exact ⟨rfl, hB⟩
end Go.Proofs.YtfiefmhnonddhaaDoor
