import Derived.Test.YtlnodjcmdnmnlaaGreatV27
namespace Go.Proofs.YtlnodjcmdnmnlaaGreat
set_option maxRecDepth 100000
set_option linter.unusedSimpArgs false
set_option maxHeartbeats 80000000
section
open Go.RowKit Go.Shelf
theorem refstarts_any (ca pa na ga : Option Addr) (L : List CueR) (A : List (ByteArray × ByteArray)) (N G : List Int) (cc pc nc gc : Nat) (w : World) (hlk : linkedB L A = true) (hlN : N.length ≤ 1000) (hlG : G.length ≤ 1000) (hI : Cues w.heap.size w ca L) (hN : Nums w.heap.size w na N) (hG : Nums w.heap.size w ga G) :
  Calls Tryz.prog 38 #[.agg #[.slice ca L.length cc, .slice pa A.length pc], .slice na N.length nc, .slice ga G.length gc] w fun e w' => Hid (∃ v, e = .returned (.tuple #[v, .int .i64 (startsP L A N G).2]) ∧ w'.ownsRow w.heap.size 3 1 v (startsP L A N G).1.length (nflat (startsP L A N G).1) ∧ Below w.heap.size w w') := by
 have hb0 : Below w.heap.size w (w.alloc (.cells #[.slice ca L.length cc, .slice pa A.length pc] 29)) := below_new w _;have HI := lh (hI.grow hb0);have HN := lh (hN.grow hb0);have HG := lh (hG.grow hb0);have HX : Hid (∀ wr, Below (w.alloc (.cells #[.slice ca L.length cc, .slice pa A.length pc] 29)).heap.size (w.alloc (.cells #[.slice ca L.length cc, .slice pa A.length pc] 29)) wr → Below w.heap.size w wr ∧ wr.cell? ⟨w.heap.size, 0, none⟩ = some (.slice ca L.length cc) ∧ wr.cell? ⟨w.heap.size, 1, none⟩ = some (.slice pa A.length pc)) := lh fun wr h => ⟨mono_in _ h, box2 h⟩;have hz0 : w.heap.size ≤ (w.alloc (.cells #[.slice ca L.length cc, .slice pa A.length pc] 29)).heap.size := hb0.size;clear hb0 hI hN hG;obtain ⟨i0, hi, hy1, hy2, hy3⟩ := info_parts num_info;have HLK := lh hlk;obtain ⟨hl60, hlA⟩ := linked_len hlk;have HC1 : Hid (startsP L A N G = if N.length = L.length ∧ G.length = manTo L L.length then (if N.any wrongT || G.any wrongT then ([], 2) else if (ordP (hangs L)).length < L.length then ([], 23) else (startsV L N G, 0)) else ([], 3)) := lh (by unfold startsP; rw [hlk, if_pos rfl]);clear hlk
 by_cases hne : givenE L N G = 0
 ·have HGE := lh hne
  have hcnd : N.length = L.length ∧ G.length = manTo L L.length := by
   unfold givenE at hne
   split at hne
   ·assumption
   ·omega
  have hany : N.any wrongT = false ∧ G.any wrongT = false := by
   unfold givenE at hne;rw [if_pos hcnd] at hne
   split at hne
   ·omega
   ·next hx => simpa using hx
  have HNL := lh hcnd.1;have HGL := lh hcnd.2;have HWN' := lh hany.1;have HWG' := lh hany.2;have HC3 : Hid (startsP L A N G = if (ordP (hangs L)).length < L.length then ([], 23) else (startsV L N G, 0)) := lh (by rw [HC1.out, if_pos hcnd, hany.1, hany.2]; rfl);clear hne hcnd hany
  by_cases ho : (ordP (hangs L)).length < L.length
  ·have HOR : Hid (ordR L = ([], false)) := lh (by unfold ordR; rw [if_pos ho])
   have HP0 : Hid (startsP L A N G = ([], 23)) := lh (by rw [HC3.out, if_pos ho])
   go_enter Tryz.func38, Tryz.ntmps38
   go_wp2_with (first
    | (go_at_call 60; (with_reducible refine (given37_any _ _ _ _ L A N G _ _ _ _ _ (by omega) (by omega) (by omega) HI.out HN.out HG.out).mono ?_); rintro e w1 ⟨rfl, hb1⟩; rw [HGE.out]; obtain ⟨hB1, z0, z1⟩ := HX.out _ hb1)
    | (go_at_call 61; (with_reducible refine (reforder_any _ _ L A _ _ _ HLK.out (HI.out.grow hb1)).mono ?_); rintro e w2 hx; obtain ⟨v2, rfl, hr2, hb2⟩ := hx.out; rw [HOR.out] at hr2; rw [HOR.out]; have hB2 := hb1.trans (hb2.mono hb1.size); obtain ⟨hB2', y0, y1⟩ := HX.out _ hB2; obtain ⟨oa, oc, rfl, _, _, _, hno⟩ := num_of_row hr2; have HNO := lh hno; clear hx hr2 hno))
   go_ret2
   rw [HP0.out];exact lh ⟨_, rfl, World.ownsRow_nil _ _ _ _, hB2'⟩
  ·have hole := ord_le L
   have HOR0 : Hid (ordR L = (ordP (hangs L), true)) := lh (by unfold ordR; rw [if_neg ho]);have HORD : Hid (∀ k, k < (ordP (hangs L)).length → ∃ m : Nat, m < L.length ∧ ig (ordP (hangs L)) k = m) := lh fun k hk => ord_in L k hk;have HSM2 : Hid (∀ k, k ≤ (ordP (hangs L)).length → Small (refV L N G k) (4294967296 * (k + 1))) := lh fun k hk => refV_small HLK.out HWG'.out HGL.out HWN'.out HNL.out k hk;have HP2S : Hid (∀ k, k < (ordP (hangs L)).length → refV L N G (k + 1) = stepR L N G (refV L N G k) (ig (ordP (hangs L)) k)) := lh fun k hk => refV_succ L N G k hk;have HSV : Hid (startsP L A N G = (refV L N G (ordP (hangs L)).length, 0)) := lh (by rw [HC3.out, if_neg ho, refV_all HLK.out N G (by omega)]);obtain ⟨O, HO⟩ : ∃ O, Hid (ordP (hangs L) = O) := ⟨_, lh rfl⟩;rw [HO.out] at HOR0 hole HORD HSM2 HP2S HSV ho;have HOR := HOR0;have HOL : Hid (O.length = L.length) := lh (by omega);clear HOR0 ho
   go_enter Tryz.func38, Tryz.ntmps38
   go_wp2_with (first
    | (go_at_call 60; (with_reducible refine (given37_any _ _ _ _ L A N G _ _ _ _ _ (by omega) (by omega) (by omega) HI.out HN.out HG.out).mono ?_); rintro e w1 ⟨rfl, hb1⟩; rw [HGE.out]; obtain ⟨hB1, z0, z1⟩ := HX.out _ hb1)
    | (go_at_call 61; (with_reducible refine (reforder_any _ _ L A _ _ _ HLK.out (HI.out.grow hb1)).mono ?_); rintro e w2 hx; obtain ⟨v2, rfl, hr2, hb2⟩ := hx.out; rw [HOR.out] at hr2; rw [HOR.out]; have hB2 := hb1.trans (hb2.mono hb1.size); obtain ⟨hB2', y0, y1⟩ := HX.out _ hB2; obtain ⟨oa, oc, rfl, _, _, _, hno⟩ := num_of_row hr2; have HNO := lh hno; clear hx hr2 hno)
    | (at_make; refine wpList_make_full _ rfl _ _ 30 rfl w2.heap.size 3 i0 (.int .i64 0) 1 Tryz.underlying30 hi hy1 hy2 _ _ _ _ L.length rfl rfl rfl rfl (by rw [hy3]; omega) (by unfold maxLen; omega) (Nat.le_refl _) ?_; intro w5 hown5 hg5; have HD5 := lh (show w5.ownsRow w2.heap.size 3 1 (.slice (some ⟨w2.heap.size, 0, none⟩) L.length L.length) L.length (nflat (pass1 L G 0)) by rw [← made_zero L G L.length rfl]; exact hown5); have f0 := hg5.cell y0 (by simp); have f1 := hg5.cell y1 (by simp); clear hown5))
   have hB45 : Below w2.heap.size w2 w5 := (br).grown hg5 (Nat.le_refl _) (fun k e => by cases e);have hs4 := hB2.size;have hw45 : w2.heap.size < w5.heap.size := (HD5.out.lt _ rfl).2;have HI5 := lh ((HI.out.grow hB2).below hB45);have HG5 := lh ((HG.out.grow hB2).below hB45);have HN5 := lh ((HN.out.grow hB2).below hB45);have HO5 := lh (HNO.out.below hB45);have hw4 : w.heap.size < w2.heap.size := wl y0;have HZ0 := lh f0;have HZ1 := lh f1;have HFIN : Hid (∀ wr, Below w2.heap.size w5 wr → Below w.heap.size w wr) := lh fun wr h => (HX.out _ (hB2.trans ((hB45.trans h).mono hs4))).1;clear hb1 hb2 hB2 y0 y1 hB2' hg5 HNO HI HG HN z0 z1 f0 f1 hB1 hB45;generalize hgg : w2.heap.size = g at *;clear hgg
   go_loopw [12] (fun i wr => ∃ k : Nat, k ≤ O.length ∧ i = .int .i64 k ∧ Below g w5 wr ∧ Hid (wr.ownsRow g 3 1 (.slice (some ⟨g, 0, none⟩) L.length L.length) L.length (nflat (refV L N G k))) ∧ w5.heap.size ≤ wr.heap.size) (fun i _ => O.length - (intOf i).toNat)
   case atStart => exact ⟨0, Nat.zero_le _, rfl, br, HD5, Nat.le_refl _⟩
   case round =>
    clear HD5;obtain ⟨k, hk, rfl, hB, HR, hws⟩ := hrel;have z0 := (hB.cell (p := ⟨w.heap.size, 0, none⟩) hw4).trans HZ0.out;have z1 := (hB.cell (p := ⟨w.heap.size, 1, none⟩) hw4).trans HZ1.out;have hbz : w.heap.size < wr.heap.size := by omega
    by_cases hlt : k < O.length
    ·obtain ⟨ob, oo, rfl, hol, hoc⟩ := HO5.out (by omega)
     obtain ⟨m, hm, hmo⟩ := HORD.out k hlt;have o0 := (hB.cell (p := ⟨ob, oo + k, none⟩) hol).trans (hoc k hlt);rw [hmo] at o0;have HPS := lh (HP2S.out k hlt);rw [hmo] at HPS;obtain ⟨b, off, rfl, hbl, hc⟩ := HI5.out (by omega);obtain ⟨c0, c1, c2, c3, c4, c5, c6⟩ := hc m hm;have d0 := (hB.cell (p := ⟨b, off + m * 7, none⟩) hbl).trans c0;have d1 := (hB.cell (p := ⟨b, off + m * 7 + 1, none⟩) hbl).trans c1;have d2 := (hB.cell (p := ⟨b, off + m * 7 + 2, none⟩) hbl).trans c2;have d3 := (hB.cell (p := ⟨b, off + m * 7 + 3, none⟩) hbl).trans c3;have d4 := (hB.cell (p := ⟨b, off + m * 7 + 4, none⟩) hbl).trans c4;have d5 := (hB.cell (p := ⟨b, off + m * 7 + 5, none⟩) hbl).trans c5;have d6 := (hB.cell (p := ⟨b, off + m * 7 + 6, none⟩) hbl).trans c6;have HSM := lh (HSM2.out k (by omega));have how : g < wr.heap.size := by omega
     have HWA := lh (below_new wr (.cells #[.string (cg L m).name, .string (cg L m).after, .int .i64 (cg L m).link, .int .i64 (cg L m).delay, .slice (cg L m).ma (cg L m).moves.length (cg L m).mc, .int .i64 (cg L m).crew, .int .i64 (cg L m).power] 49));have hl6 : (refV L N G k).length = L.length := refV_len L N G k;have HL6 := lh hl6;clear hc c0 c1 c2 c3 c4 c5 c6 hoc hmo hl6;obtain ⟨q1, q2⟩ := (linked_cue HLK.out m hm).2.2.1;rcases (linked_cue HLK.out m hm).2.2.2 with ⟨l1, hempty⟩ | ⟨l23, l1, f, hf, hfa, hfm⟩
     ·have m1 : ((cg L m).link == 1) = true := beq_iff_eq.2 l1
      have hmg : manTo L m < G.length := by rw [HGL.out]; exact manTo_lt L m _ hm l1
      obtain ⟨gb, go, rfl, hgl, hgc⟩ := HG5.out (by omega);have HGC := lh ((hB.cell (p := ⟨gb, go + manTo L m, none⟩) hgl).trans (hgc _ hmg));obtain ⟨q3, q4⟩ := wrongT_no HWG'.out _ hmg;have HSTEP : Hid (refV L N G (k + 1) = (refV L N G k).set m (ig G (manTo L m) + (cg L m).delay)) := lh (by rw [HPS.out]; unfold stepR; rw [Int.toNat_natCast, if_pos l1]);clear hgc l1 hempty;generalize refV L N G k = s at *
      go_wp2_with fail
      have s1 : IntKind.i64.wrap (ig G (manTo L m) + (cg L m).delay) = ig G (manTo L m) + (cg L m).delay := IntWalk.i64_in _ (by omega);have HCA := lh (((HI5.out.below hB).mono (show g ≤ wr.heap.size by omega)).grow HWA.out);have hgw : gb < wr.heap.size := by omega
      go_region_law (first
       | (go_simp; go_at_call 62; (with_reducible refine (manual_any _ _ L A _ _ m _ (by omega) (by omega) ?_).mono ?_); (next => exact HCA.out); rintro e w6 ⟨rfl, hb6⟩; have hs6 : wr.heap.size < w6.heap.size := (by have := hb6.size; simp at this; omega); have x3 := (hb6.cell (p := ⟨wr.heap.size, 3, none⟩) (by simp)).trans (show _ = some (.int .i64 (cg L m).delay) by simp); have gG := (hb6.cell (p := ⟨gb, go + manTo L m, none⟩) (by simp; omega)).trans ((World.cell?_alloc_lt wr _ ⟨gb, go + manTo L m, none⟩ hgw).trans HGC.out); have HR6 := lh (ownsRow_below (show ((wr.alloc (.cells #[.string (cg L m).name, .string (cg L m).after, .int .i64 (cg L m).link, .int .i64 (cg L m).delay, .slice (cg L m).ma (cg L m).moves.length (cg L m).mc, .int .i64 (cg L m).crew, .int .i64 (cg L m).power] 49)).drew).ownsRow g 3 1 (.slice (some ⟨g, 0, none⟩) L.length L.length) L.length (nflat s) from (HR.out.alloc _).drew) hb6); have o2 : w6.cell? ⟨g, m, none⟩ = some (.int .i64 (ig s m)) := (by rw [HR6.out.cellAt m (by omega), nflat_at _ _ (by rw [HL6.out]; exact hm)]); have o3 := HR6.out.frozenAt m; have hgw6 : g < w6.heap.size := (by omega)))
      all_goals
       go_wp2_with fail
       have hB6 : Below g w5 w6 := (hB.trans (HWA.out.mono (by omega))).drew.trans (hb6.mono (by simp; omega));have HST := lh (show (w6.setCell ⟨g, m, none⟩ (.int .i64 (ig G (manTo L m) + (cg L m).delay))).ownsRow g 3 1 (.slice (some ⟨g, 0, none⟩) L.length L.length) L.length (nflat (refV L N G (k + 1))) by rw [HSTEP.out, ← nflat_set]; exact (HR6.out.stored m _).1);have hsb : w5.heap.size ≤ w6.heap.size := by omega
       go_roundw
       case rel => exact ⟨k + 1, by omega, by go_num, hB6.setCell (show g ≤ (⟨g, m, none⟩ : Addr).block from Nat.le_refl _) _, lh HST.out, by first | omega | (simp; omega)⟩
       case measure => first | (simp [intOf]; done) | (simp [intOf]; omega)
     ·have m1 : ((cg L m).link == 1) = false := beq_eq_false_iff_ne.2 l1
      have HFA := lh hfa;have hfN : f < N.length := by rw [HNL.out]; exact hf
      obtain ⟨q3, q4⟩ := HSM.out f (by rw [refV_len]; exact hf);obtain ⟨q5, q6⟩ := wrongT_no HWN'.out f hfN;obtain ⟨nb, no, rfl, hnl, hnc⟩ := HN5.out (by omega);have hn5 := hnc f hfN;have HSTEP : Hid (refV L N G (k + 1) = (refV L N G k).set m (ig (refV L N G k) f + (cg L m).delay + if (cg L m).link = 2 then ig N f else 0)) := lh (by rw [HPS.out]; unfold stepR; rw [Int.toNat_natCast, if_neg l1, hfa, Int.toNat_natCast]);have HHN := lh hn5;clear hnc hn5 hfa hfm;generalize refV L N G k = s at *;rcases l23 with l2 | l3
      ·have m2 : ((cg L m).link == 2) = true := beq_iff_eq.2 l2
       rw [if_pos l2] at HSTEP;clear l1 l2
       go_wp2_with (go_at_call 63; (with_reducible refine (reffind_any _ L _ _ (cg L m).after _ (by omega) ((HI5.out.below hB).mono (by omega) |>.grow HWA.out)).mono ?_); rintro e w6 ⟨rfl, hb6⟩; rw [HFA.out]; have hB6 := HWA.out.trans (hb6.mono HWA.out.size); have x2 := (hb6.cell (p := ⟨wr.heap.size, 2, none⟩) (by simp)).trans (show _ = some (.int .i64 (cg L m).link) by simp); have x3 := (hb6.cell (p := ⟨wr.heap.size, 3, none⟩) (by simp)).trans (show _ = some (.int .i64 (cg L m).delay) by simp))
       have hs6 := hB6.size;have hs6' : wr.heap.size < w6.heap.size := wl x2;have HR6 := lh (ownsRow_below HR.out hB6);have s1 : IntKind.i64.wrap (ig s f + (cg L m).delay) = ig s f + (cg L m).delay := IntWalk.i64_in _ (by omega);have o1 : w6.cell? ⟨g, f, none⟩ = some (.int .i64 (ig s f)) := by rw [HR6.out.cellAt f (by omega), nflat_at _ _ (by rw [HL6.out]; exact hf)]
       have o2 : w6.cell? ⟨g, m, none⟩ = some (.int .i64 (ig s m)) := by rw [HR6.out.cellAt m (by omega), nflat_at _ _ (by rw [HL6.out]; exact hm)]
       have o3 := HR6.out.frozenAt m;have how6 : g < w6.heap.size := by omega
       go_region
       have HR7 := lh (show ((w6.setCell ⟨g, m, none⟩ (.int .i64 (ig s f + (cg L m).delay))).drew).ownsRow g 3 1 (.slice (some ⟨g, 0, none⟩) L.length L.length) L.length (nflat (s.set m (ig s f + (cg L m).delay))) by rw [← nflat_set]; exact (HR6.out.stored m _).1.drew);have hB7 : Below g w5 (w6.setCell ⟨g, m, none⟩ (.int .i64 (ig s f + (cg L m).delay))).drew := ((hB.trans (hB6.mono (by omega))).setCell (show g ≤ (⟨g, m, none⟩ : Addr).block from Nat.le_refl _) _).drew;have hws7 : w5.heap.size ≤ (w6.setCell ⟨g, m, none⟩ (.int .i64 (ig s f + (cg L m).delay))).drew.heap.size := by simp; omega
       have x27 : (w6.setCell ⟨g, m, none⟩ (.int .i64 (ig s f + (cg L m).delay))).drew.cell? ⟨wr.heap.size, 2, none⟩ = some (.int .i64 (cg L m).link) := (World.cell?_setCell_other _ _ _ _ (by first | (simp; done) | (simp; omega))).trans x2;clear o1 o2 o3 x2 x3 s1;generalize (w6.setCell ⟨g, m, none⟩ (.int .i64 (ig s f + (cg L m).delay))).drew = w7 at *
       go_wp2_with fail
       have s2 : IntKind.i64.wrap (ig s f + (cg L m).delay + ig N f) = ig s f + (cg L m).delay + ig N f := IntWalk.i64_in _ (by omega);have n7 := (hB7.cell (p := ⟨nb, no + f, none⟩) hnl).trans HHN.out;have n8 : w7.cell? ⟨g, m, none⟩ = some (.int .i64 (ig s f + (cg L m).delay)) := by rw [HR7.out.cellAt m (by omega), nflat_at _ _ (by rw [List.length_set, HL6.out]; exact hm), ig_set _ _ _ _ (by rw [HL6.out]; exact hm), if_pos rfl]
       have n9 := HR7.out.frozenAt m
       go_region
       go_wp2_with fail
       have HST := lh (show (w7.setCell ⟨g, m, none⟩ (.int .i64 (ig s f + (cg L m).delay + ig N f))).ownsRow g 3 1 (.slice (some ⟨g, 0, none⟩) L.length L.length) L.length (nflat (refV L N G (k + 1))) by rw [HSTEP.out, ← List.set_set (a := ig s f + (cg L m).delay), ← nflat_set]; exact (HR7.out.stored m _).1);go_roundw
       case rel => exact ⟨k + 1, by omega, by go_num, (hB7.setCell (show g ≤ (⟨g, m, none⟩ : Addr).block from Nat.le_refl _) _).drew, lh HST.out.drew, by simp; omega⟩
       case measure => simp [intOf]; omega
      ·have m2 : ((cg L m).link == 2) = false := beq_eq_false_iff_ne.2 (by omega)
       rw [if_neg (by omega), Int.add_zero] at HSTEP;clear l1 l3
       go_wp2_with (go_at_call 63; (with_reducible refine (reffind_any _ L _ _ (cg L m).after _ (by omega) ((HI5.out.below hB).mono (by omega) |>.grow HWA.out)).mono ?_); rintro e w6 ⟨rfl, hb6⟩; rw [HFA.out]; have hB6 := HWA.out.trans (hb6.mono HWA.out.size); have x2 := (hb6.cell (p := ⟨wr.heap.size, 2, none⟩) (by simp)).trans (show _ = some (.int .i64 (cg L m).link) by simp); have x3 := (hb6.cell (p := ⟨wr.heap.size, 3, none⟩) (by simp)).trans (show _ = some (.int .i64 (cg L m).delay) by simp))
       have hs6 := hB6.size;have hs6' : wr.heap.size < w6.heap.size := wl x2;have HR6 := lh (ownsRow_below HR.out hB6);have s1 : IntKind.i64.wrap (ig s f + (cg L m).delay) = ig s f + (cg L m).delay := IntWalk.i64_in _ (by omega);have o1 : w6.cell? ⟨g, f, none⟩ = some (.int .i64 (ig s f)) := by rw [HR6.out.cellAt f (by omega), nflat_at _ _ (by rw [HL6.out]; exact hf)]
       have o2 : w6.cell? ⟨g, m, none⟩ = some (.int .i64 (ig s m)) := by rw [HR6.out.cellAt m (by omega), nflat_at _ _ (by rw [HL6.out]; exact hm)]
       have o3 := HR6.out.frozenAt m;have how6 : g < w6.heap.size := by omega
       go_region
       have HR7 := lh (show ((w6.setCell ⟨g, m, none⟩ (.int .i64 (ig s f + (cg L m).delay))).drew).ownsRow g 3 1 (.slice (some ⟨g, 0, none⟩) L.length L.length) L.length (nflat (s.set m (ig s f + (cg L m).delay))) by rw [← nflat_set]; exact (HR6.out.stored m _).1.drew);have hB7 : Below g w5 (w6.setCell ⟨g, m, none⟩ (.int .i64 (ig s f + (cg L m).delay))).drew := ((hB.trans (hB6.mono (by omega))).setCell (show g ≤ (⟨g, m, none⟩ : Addr).block from Nat.le_refl _) _).drew;have hws7 : w5.heap.size ≤ (w6.setCell ⟨g, m, none⟩ (.int .i64 (ig s f + (cg L m).delay))).drew.heap.size := by simp; omega
       have x27 : (w6.setCell ⟨g, m, none⟩ (.int .i64 (ig s f + (cg L m).delay))).drew.cell? ⟨wr.heap.size, 2, none⟩ = some (.int .i64 (cg L m).link) := (World.cell?_setCell_other _ _ _ _ (by first | (simp; done) | (simp; omega))).trans x2;clear o1 o2 o3 x2 x3 s1;generalize (w6.setCell ⟨g, m, none⟩ (.int .i64 (ig s f + (cg L m).delay))).drew = w7 at *
       go_wp2_with fail
       go_roundw
       case rel => exact ⟨k + 1, by omega, by go_num, hB7, lh (by rw [HSTEP.out]; exact HR7.out), hws7⟩
       case measure => simp [intOf]; omega
    ·obtain rfl : k = O.length := by omega
     go_wp2_with fail
     go_ret2
     rw [HSV.out];exact lh ⟨_, rfl, by rw [refV_len]; exact ownsRow_base HR.out (by omega), HFIN.out _ hB⟩
 ·have g0 : (givenE L N G != 0) = true := bne_iff_ne.2 hne
  obtain ⟨ge, hge⟩ := nm (givenE L N G);have HGE := lh hge;rw [hge] at g0
  have HP0 : Hid (startsP L A N G = ([], ge)) := lh (by
   rw [HC1.out, ← hge];unfold givenE at hne ⊢
   by_cases hcnd : N.length = L.length ∧ G.length = manTo L L.length
   ·rw [if_pos hcnd] at hne
    rw [if_pos hcnd, if_pos hcnd]
    by_cases hx : (N.any wrongT || G.any wrongT) = true
    ·rw [if_pos hx, if_pos hx]
    ·rw [if_neg hx] at hne; exact absurd rfl hne
   ·rw [if_neg hcnd, if_neg hcnd])
  clear hne hge
  go_enter Tryz.func38, Tryz.ntmps38
  go_wp2_with (go_at_call 60; (with_reducible refine (given37_any _ _ _ _ L A N G _ _ _ _ _ (by omega) (by omega) (by omega) HI.out HN.out HG.out).mono ?_); rintro e w1 ⟨rfl, hb1⟩; rw [HGE.out]; obtain ⟨hB1, z0, z1⟩ := HX.out _ hb1)
  go_ret2
  rw [HP0.out];exact lh ⟨_, rfl, World.ownsRow_nil _ _ _ _, hB1⟩
end
section
open Go.RowKit
structure PlanOK (C : List CueR) (A : List (ByteArray × ByteArray)) (N G S : List Int) : Prop where
 linked : linkedB C A = true
 lenN : N.length = C.length
 lenG : G.length = manTo C C.length
 lenS : S.length = C.length
 lens : ∀ i, i < C.length → 0 ≤ ig N i ∧ ig N i ≤ 2147483648
 starts : ∀ i, i < C.length → 0 ≤ ig S i ∧ ig S i ≤ 261993005056
theorem plan_ok {C : List CueR} {A : List (ByteArray × ByteArray)} {N G : List Int} (h : (startsP C A N G).2 = 0) (hl : C.length ≤ 60) : PlanOK C A N G (startsP C A N G).1 := by
 unfold startsP at h ⊢
 split at h
 case isFalse => cases h
 rename_i h1
 rw [if_pos h1]
 split at h
 case isFalse => cases h
 rename_i h2
 rw [if_pos h2]
 split at h
 ·cases h
 rename_i h3
 rw [if_neg h3]
 split at h
 ·cases h
 rename_i h4
 rw [if_neg h4]
 have hN : N.any wrongT = false := by
  cases e : N.any wrongT
  ·rfl
  ·exact absurd (by rw [e]; rfl) h3
 have hG : G.any wrongT = false := by
  cases e : G.any wrongT
  ·rfl
  ·exact absurd (by rw [e]; exact Bool.or_true _) h3
 have hS := pass2_small h1 hG h2.2 hN h2.1 (ordP (hangs C)).length (Nat.le_refl _);have ol := ord_le C;refine ⟨h1, h2.1, h2.2, pass2_len _ _ _ _, fun i hi => wrongT_no hN i (by omega), fun i hi => ?_⟩;have := hS i (by rw [pass2_len]; exact hi);have e : startsV C N G = pass2 C N G (ordP (hangs C)).length := rfl
 dsimp only
 rw [e];omega
end
section
open Go.RowKit Go.Shelf
attribute [local go_sem] Oper.semAt_some
noncomputable def planN (h : HouseR) (s : SheetR) : List Int := lensL h s.cues s.cues.length
noncomputable def planE (h : HouseR) (s : SheetR) (G : List Int) : Int := if sheetB h s = true then (startsP s.cues s.pairs (planN h s) G).2 else 1
noncomputable def planS (h : HouseR) (s : SheetR) (G : List Int) : List Int := (startsP s.cues s.pairs (planN h s) G).1
theorem plan_sheet {h : HouseR} {s : SheetR} {G : List Int} (e : planE h s G = 0) : SheetOK h s ∧ PlanOK s.cues s.pairs (planN h s) G (planS h s G) := by
 unfold planE at e
 by_cases c : sheetB h s = true
 ·rw [if_pos c] at e
  have ok := sheetB_iff.1 c;exact ⟨ok, plan_ok e ok.cues⟩
 ·rw [if_neg c] at e; cases e
def PlanAt (w : World) (h : HouseR) (s : SheetR) (G : List Int) (sa na : Option Addr) (sn nn : Nat) : Prop := sn = s.cues.length ∧ nn = s.cues.length ∧ Nums w.heap.size w sa (planS h s G) ∧ Nums w.heap.size w na (planN h s)
theorem made_any (h : HouseR) (s : SheetR) (ga : Option Addr) (G : List Int) (gc : Nat) (w : World) (hh : HouseIn w h) (hs : SheetIn w s) (hG : Nums w.heap.size w ga G) (hgl : G.length ≤ 1000) :
  Calls Tryz.prog 25 #[.agg #[.string h.name, .int .i64 h.height, .slice h.sa h.sets.length h.sc, .slice h.ra h.roofs.length h.rc], .agg #[.slice s.ca s.cues.length s.cc, .slice s.pa s.pairs.length s.pc], .slice ga G.length gc] w fun e w' => Hid (∃ (ta : Option Addr) (tn tc : Nat) (sa : Option Addr) (sn sc : Nat) (na : Option Addr) (nn nc : Nat), e = .returned (.tuple #[.agg #[.slice ta tn tc, .slice sa sn sc, .slice na nn nc], .int .i64 (planE h s G)]) ∧ (planE h s G = 0 → PlanAt w' h s G sa na sn nn)) ∧ Below w.heap.size w w' := by
 cases hv : sheetB h s
 ·refine (made_no h s ga G gc w hh hs hG hv).mono fun e w' z => ⟨lh ⟨none, 0, 0, none, 0, 0, none, 0, 0, z.1.trans ?_, ?_⟩, z.2⟩
  ·unfold planE; rw [hv]; rfl
  ·intro q; unfold planE at q; rw [hv] at q; cases q
 ·refine (made_yes h s ga G gc w hh hs hG hgl hv).mono fun e w' z => ⟨?_, z.2⟩
  obtain ⟨ta, tc, na, nc, sv, he, hn, ho⟩ := z.1.out;obtain ⟨sa, sc, hsv, -, -, -, hsn⟩ := num_of_row ho;subst hsv;refine lh ⟨ta, _, tc, sa, _, sc, na, _, nc, he.trans (by unfold planE; rw [if_pos hv]; rfl), fun q => ?_⟩;have po := plan_sheet q;exact ⟨po.2.lenS, rfl, hsn, hn⟩
noncomputable def endsL (h : HouseR) (s : SheetR) (G : List Int) (n : Nat) : List Int := (List.range n).map fun i => ig (planS h s G) i + ig (planN h s) i
theorem endsL_snoc (h : HouseR) (s : SheetR) (G : List Int) (n : Nat) : endsL h s G (n + 1) = endsL h s G n ++ [ig (planS h s G) n + ig (planN h s) n] := by
 unfold endsL;rw [List.range_succ, List.map_append]
 rfl
theorem endsL_len (h : HouseR) (s : SheetR) (G : List Int) (n : Nat) : (endsL h s G n).length = n := by unfold endsL; rw [List.length_map, List.length_range]
noncomputable def endsP (h : HouseR) (s : SheetR) (G : List Int) : List Int := if planE h s G = 0 then endsL h s G s.cues.length else []
theorem ends_any (h : HouseR) (s : SheetR) (ga : Option Addr) (G : List Int) (gc : Nat) (w : World) (hh : HouseIn w h) (hs : SheetIn w s) (hG : Nums w.heap.size w ga G) (hgl : G.length ≤ 1000) :
  Calls Tryz.prog 35 #[.agg #[.string h.name, .int .i64 h.height, .slice h.sa h.sets.length h.sc, .slice h.ra h.roofs.length h.rc], .agg #[.slice s.ca s.cues.length s.cc, .slice s.pa s.pairs.length s.pc], .slice ga G.length gc] w fun e w' => Hid (∃ v, e = .returned (.tuple #[v, .int .i64 (planE h s G)]) ∧ w'.ownsRow w.heap.size 3 1 v (endsP h s G).length (nflat (endsP h s G))) ∧ Below w.heap.size w w' := by
 obtain ⟨hb0, HX, HW⟩ := o1 hh hs hG;have HP := lh fun (q : planE h s G = 0) => plan_sheet q;have hcl := hs.clen;clear hh hs hG hb0;obtain ⟨E, hE⟩ := nm (planE h s G)
 by_cases hz : E = 0
 case neg =>
  have HE := lh hE;have HEP : Hid (endsP h s G = []) := lh (by unfold endsP; rw [hE, if_neg hz]);have g0 : (E != 0) = true := bne_iff_ne.2 hz;clear hz hE
  go_enter Tryz.func35, Tryz.ntmps35
  go_upto_region 1 with (fail)
  obtain ⟨W0, hW0⟩ := nm ((TW w h s) : World);simp only [hW0] at HX HW ⊢;clear hW0;obtain ⟨B1, hB1⟩ := nm (w.heap.size);obtain ⟨B2, hB2⟩ := nm (w.heap.size + 1);rw [hB2] at HX ⊢;rw [hB1] at HX ⊢;have HBB : Hid (w.heap.size = B1) := lh hB1;clear hB1 hB2;obtain ⟨⟨a0, a1, a2, a3⟩, ⟨s0, s1⟩, -, -, -⟩ := HX.out _ br;have HMD := lh (made_any h s ga G gc _ (HX.out _ br).2.2.1 (HX.out _ br).2.2.2.1 (HX.out _ br).2.2.2.2 hgl)
  go_wp2_with (go_at_call 25; (with_reducible refine HMD.out.mono ?_); rintro e w1 ⟨hx1, hb1⟩; obtain ⟨ta, tn, tc, sa, sn, sc, na, nn, nc, rfl, hp1⟩ := hx1.out; have HP1 := lh hp1; clear hx1 hp1; rw [HE.out])
  go_ret2
  exact ⟨lh ⟨.slice none 0 0, by first | rfl | (rw [HE.out]; rfl), by rw [HEP.out]; exact World.ownsRow_nil _ _ _ _⟩, (HW.out _ hb1).alloc (by have := (HW.out _ hb1).size; omega) _⟩
 case pos =>
  subst hz;have HE := lh hE;have HEP : Hid (endsP h s G = endsL h s G s.cues.length) := lh (by unfold endsP; rw [hE, if_pos rfl]);have HQ := lh (HP.out hE);clear hE HP
  go_enter Tryz.func35, Tryz.ntmps35
  go_upto_region 1 with (fail)
  obtain ⟨W0, hW0⟩ := nm ((TW w h s) : World);simp only [hW0] at HX HW ⊢;clear hW0;obtain ⟨B1, hB1⟩ := nm (w.heap.size);obtain ⟨B2, hB2⟩ := nm (w.heap.size + 1);rw [hB2] at HX ⊢;rw [hB1] at HX ⊢;have HBB : Hid (w.heap.size = B1) := lh hB1;clear hB1 hB2;obtain ⟨⟨a0, a1, a2, a3⟩, ⟨s0, s1⟩, -, -, -⟩ := HX.out _ br;have HMD := lh (made_any h s ga G gc _ (HX.out _ br).2.2.1 (HX.out _ br).2.2.2.1 (HX.out _ br).2.2.2.2 hgl)
  go_upto_region 5 with (go_at_call 25; (with_reducible refine HMD.out.mono ?_); rintro e w1 ⟨hx1, hb1⟩; obtain ⟨ta, tn, tc, sa, sn, sc, na, nn, nc, rfl, hp1⟩ := hx1.out; have HP1 := lh hp1; clear hx1 hp1; rw [HE.out])
  obtain ⟨e1, e2, hS1, hN1⟩ := HP1.out HE.out;subst e1;subst e2;have hbx := below_new w1 (.cells #[.slice ta tn tc, .slice sa s.cues.length sc, .slice na s.cues.length nc] 73);have hP2 := PC.put w1 (.slice ta tn tc) (.slice sa s.cues.length sc) (.slice na s.cues.length nc) 73;have hW2 := (HW.out _ hb1).alloc (by have := (HW.out _ hb1).size; omega) (.cells #[.slice ta tn tc, .slice sa s.cues.length sc, .slice na s.cues.length nc] 73);have hX2 : Hid (Below W0.heap.size W0 (w1.alloc (.cells #[.slice ta tn tc, .slice sa s.cues.length sc, .slice na s.cues.length nc] 73))) := lh (hb1.alloc hb1.size _);replace hS1 := hS1.grow hbx;replace hN1 := hN1.grow hbx;clear hbx HP1 HMD a0 a1 a2 a3 s0 s1;generalize w1.alloc (.cells #[.slice ta tn tc, .slice sa s.cues.length sc, .slice na s.cues.length nc] 73) = W2 at *;obtain ⟨B8, hB8⟩ := nm (w1.heap.size);rw [hB8] at hP2 ⊢;clear hB8
  have HXX : Hid (∀ w', Below W2.heap.size W2 w' → Below w.heap.size w w' ∧ PC w' B8 (.slice ta tn tc) (.slice sa s.cues.length sc) (.slice na s.cues.length nc) ∧ Nums w'.heap.size w' sa (planS h s G) ∧ Nums w'.heap.size w' na (planN h s) ∧ SheetAt w' B2 s ∧ SheetIn w' s) := lh fun w' z => by
   have y := hX2.out.trans (z.mono hX2.out.size);obtain ⟨-, y2, -, y4, -⟩ := HX.out w' y;exact ⟨hW2.trans (z.mono hW2.size), hP2.carry z, hS1.grow z, hN1.grow z, y2, y4⟩
  clear HX hW2 hS1 hN1 hP2 HW hX2 hb1;obtain ⟨n₂, hn2⟩ := nm (W2.heap.size);rw [hn2] at HXX;have hB2 : Below n₂ W2 W2 := by rw [← hn2]; exact br
  have hnn : n₂ ≤ W2.heap.size := by omega
  have HBN : Hid (w.heap.size ≤ n₂) := lh (by have := (HXX.out _ hB2).1.size; omega);clear hn2;obtain ⟨-, ⟨p0, p1, p2, p3, p4, p5, p6⟩, -, -, -, -⟩ := HXX.out _ hB2
  go_upto_region 6 with (fail)
  clear p0 p1 p2 p3 p4 p5 p6
  go_loopw [10, 11, 12, 26] (fun v10 _ _ iv wr => ∃ (k : Nat), iv = .int .i64 k ∧ k ≤ s.cues.length ∧ Below n₂ W2 wr ∧ n₂ ≤ wr.heap.size ∧ Hid (wr.ownsRow n₂ 3 1 v10 k (nflat (endsL h s G k)))) (fun _ _ _ iv _ => s.cues.length - (intOf iv).toNat)
  case atStart => exact ⟨0, rfl, Nat.zero_le _, hB2, hnn, lh (World.ownsRow_nil _ _ _ _)⟩
  case round =>
   clear hB2 hnn;obtain ⟨k, rfl, hk, hB, hnw, HR⟩ := hrel
   by_cases hlt : k < s.cues.length
   ·obtain ⟨-, ⟨p0, p1, p2, p3, p4, p5, p6⟩, hS, hN, -, -⟩ := HXX.out _ hB
    have hls : k < (planS h s G).length := by rw [HQ.out.2.lenS]; exact hlt
    have hln : k < (planN h s).length := by rw [HQ.out.2.lenN]; exact hlt
    obtain ⟨sb, so, hsa, hsb, hsx⟩ := hS (by omega);subst hsa;obtain ⟨nb, no, hna, hnb, hnx⟩ := hN (by omega);subst hna;have e0 := hsx k hls;have e1 := hnx k hln;have HSN := lh (endsL_snoc h s G k);have q1 := HQ.out.2.lens k hlt;have q2 := HQ.out.2.starts k hlt;obtain ⟨x, hx⟩ := nm (ig (planS h s G) k);obtain ⟨y, hy⟩ := nm (ig (planN h s) k);rw [hx] at e0 HSN q2;rw [hy] at e1 HSN q1;have hsum : IntKind.i64.wrap (x + y) = x + y := by simp only [IntKind.wrap_i64]; omega
    clear hS hN hsx hnx hx hy q1 q2 hls hln;have HKL : Hid ((endsL h s G k).length = k) := lh (endsL_len _ _ _ _);have hbx := below_new wr (.cells #[.int .i64 (x + y)] 3);have HO8 : Hid ((wr.alloc (.cells #[.int .i64 (x + y)] 3)).ownsRow n₂ 3 1 u10 (endsL h s G k).length (nflat (endsL h s G k))) := lh (by rw [HKL.out]; exact ownsRow_below HR.out hbx);have hB8 := hB.alloc hnw (.cells #[.int .i64 (x + y)] 3);have hn8 : n₂ ≤ (wr.alloc (.cells #[.int .i64 (x + y)] 3)).heap.size := by simp; omega
    have hkl : (endsL h s G k).length ≤ 1000000 := by rw [HKL.out]; omega
    have hc8 : (wr.alloc (.cells #[.int .i64 (x + y)] 3)).cell? ⟨wr.heap.size, 0, none⟩ = some (.int .i64 (x + y)) := by simp
    clear hbx
    go_wp2_with (at_builtin; refine num_append rfl _ _ rfl n₂ _ (endsL h s G k) rfl HO8.out _ (x + y) rfl (by first | exact hc8 | (rw [hsum]; exact hc8)) hkl hn8 ?_; intro v2 w8 hown8 hg8; have HO9 := lh hown8; have hB9 := hB8.grown hg8 (by omega) (fun j hj => (HO8.out.lt _ hj).1); have hn9 := Nat.le_trans hn8 hg8.size; clear hown8 hg8)
    go_roundw
    case rel => exact ⟨k + 1, by go_num, by omega, hB9, hn9, lh (by have := HO9.out; rw [List.length_append, HKL.out] at this; rw [HSN.out]; exact this)⟩
    case measure => simp [intOf]; omega
   ·obtain rfl : k = s.cues.length := by omega
    go_wp2_with fail
    go_ret2
    exact ⟨lh ⟨_, by first | rfl | (rw [HE.out]; rfl), by rw [HEP.out, endsL_len]; exact ownsRow_base HR.out HBN.out⟩, (HXX.out _ hB).1⟩
def PlanRows (w : World) (base : Nat) (h : HouseR) (s : SheetR) (G : List Int) (v1 v2 : Value) : Prop := w.ownsRow base 3 1 v1 s.cues.length (nflat (planS h s G)) ∧ w.ownsRow base 3 1 v2 s.cues.length (nflat (planN h s))
theorem rplan_any (h : HouseR) (s : SheetR) (ga : Option Addr) (G : List Int) (gc : Nat) (w : World) (hh : HouseIn w h) (hs : SheetIn w s) (hG : Nums w.heap.size w ga G) (hgl : G.length ≤ 1000) :
  Calls Tryz.prog 23 #[.agg #[.string h.name, .int .i64 h.height, .slice h.sa h.sets.length h.sc, .slice h.ra h.roofs.length h.rc], .agg #[.slice s.ca s.cues.length s.cc, .slice s.pa s.pairs.length s.pc], .slice ga G.length gc] w fun e w' => Hid (∃ v1 v2, e = .returned (.tuple #[v1, v2, .int .i64 (planE h s G)]) ∧ (planE h s G = 0 → PlanRows w' w.heap.size h s G v1 v2)) ∧ Below w.heap.size w w' := by
 obtain ⟨hb0, HX, HW⟩ := o1 hh hs hG;have hcl := hs.clen;clear hh hs hG hb0;have HC0 := lh (rsheet_any h s (TW w h s) (HX.out _ br).2.2.1 (HX.out _ br).2.2.2.1)
 cases hv : sheetB h s
 case false =>
  have HV := lh hv;have HE : Hid (planE h s G = 1) := lh (by unfold planE; rw [hv]; rfl);clear hv
  go_enter Tryz.func23, Tryz.ntmps23
  go_upto_region 1 with (fail)
  obtain ⟨W0, hW0⟩ := nm ((TW w h s) : World);simp only [hW0] at HX HW HC0 ⊢;clear hW0;obtain ⟨B1, hB1⟩ := nm (w.heap.size);obtain ⟨B2, hB2⟩ := nm (w.heap.size + 1);rw [hB2] at HX ⊢;rw [hB1] at HX ⊢;clear hB1 hB2;obtain ⟨⟨a0, a1, a2, a3⟩, ⟨s0, s1⟩, -, -, -⟩ := HX.out _ br
  go_wp2_with (go_at_call 36; (with_reducible refine (HC0.out).mono ?_); rintro e w1 ⟨rfl, hb1⟩; rw [HV.out]; obtain ⟨⟨t0, t1, t2, t3⟩, ⟨k0, k1⟩, -, -, -⟩ := HX.out _ hb1)
  go_ret3
  exact ⟨lh ⟨.slice none 0 0, .slice none 0 0, by rw [HE.out]; rfl, fun q => by rw [HE.out] at q; cases q⟩, HW.out _ hb1⟩
 have HV := lh hv;have HNL : Hid ((planN h s).length = s.cues.length) := lh (lensL_len _ _ _);have HPE : Hid (planE h s G = (startsP s.cues s.pairs (planN h s) G).2) := lh (by unfold planE; rw [if_pos hv]);have HPP := lh fun (z : planE h s G = 0) => (plan_sheet z).2.lenS;have HC1 : Hid (∀ w', HouseIn w' h → SheetIn w' s → Calls Tryz.prog 37 #[.agg #[.string h.name, .int .i64 h.height, .slice h.sa h.sets.length h.sc, .slice h.ra h.roofs.length h.rc], .agg #[.slice s.ca s.cues.length s.cc, .slice s.pa s.pairs.length s.pc]] w' fun e w2 => Hid (∃ v, e = .returned v ∧ w2.ownsRow w'.heap.size 3 1 v s.cues.length (nflat (planN h s))) ∧ Below w'.heap.size w' w2) := lh fun w' x y => rlens_any h s w' x y HV.out
 have HC2 : Hid (∀ w' (na : Option Addr) (nc : Nat), SheetIn w' s → Nums w'.heap.size w' na (planN h s) → Nums w'.heap.size w' ga G → Calls Tryz.prog 38 #[.agg #[.slice s.ca s.cues.length s.cc, .slice s.pa s.pairs.length s.pc], .slice na (planN h s).length nc, .slice ga G.length gc] w' fun e w2 => Hid (∃ v, e = .returned (.tuple #[v, .int .i64 (startsP s.cues s.pairs (planN h s) G).2]) ∧ w2.ownsRow w'.heap.size 3 1 v (startsP s.cues s.pairs (planN h s) G).1.length (nflat (startsP s.cues s.pairs (planN h s) G).1) ∧ Below w'.heap.size w' w2)) := lh fun w' na nc x y z =>
  refstarts_any s.ca s.pa na ga s.cues s.pairs (planN h s) G s.cc s.pc nc gc w' (sheet_linked (sheetB_iff.1 HV.out)) (by rw [HNL.out]; omega) hgl x.lies y z
 rw [← HPE.out] at HC2;clear hv;obtain ⟨E, hE⟩ := nm (planE h s G);have HE := lh hE
 by_cases hz : E = 0
 ·subst hz
  clear hE
  go_enter Tryz.func23, Tryz.ntmps23
  go_upto_region 1 with (fail)
  obtain ⟨W0, hW0⟩ := nm ((TW w h s) : World);simp only [hW0] at HX HW HC0 ⊢;clear hW0;obtain ⟨B1, hB1⟩ := nm (w.heap.size);obtain ⟨B2, hB2⟩ := nm (w.heap.size + 1);rw [hB2] at HX ⊢;rw [hB1] at HX ⊢;clear hB1 hB2;obtain ⟨⟨a0, a1, a2, a3⟩, ⟨s0, s1⟩, -, -, -⟩ := HX.out _ br
  go_wp2_with (first
   | (go_at_call 36; (with_reducible refine (HC0.out).mono ?_); rintro e w1 ⟨rfl, hb1⟩; rw [HV.out]; obtain ⟨⟨t0, t1, t2, t3⟩, ⟨k0, k1⟩, -, -, -⟩ := HX.out _ hb1)
   | (go_at_call 37; (with_reducible refine (HC1.out _ (HX.out _ hb1).2.2.1 (HX.out _ hb1).2.2.2.1).mono ?_); rintro e w2 ⟨hx2, hb2⟩; obtain ⟨v2, rfl, hr2⟩ := hx2.out; obtain ⟨na, nc, rfl, -, -, -, hn2⟩ := num_of_row (show w2.ownsRow w1.heap.size 3 1 v2 (planN h s).length (nflat (planN h s)) from by rw [HNL.out]; exact hr2); have HN2 := lh hn2; have HR2 := lh hr2; clear hx2 hn2 hr2; have hq2 := hb1.trans (hb2.mono hb1.size); obtain ⟨-, ⟨o0, o1⟩, -, -, -⟩ := HX.out _ hq2)
   | (go_at_call 38; (with_reducible refine (HC2.out _ na nc (HX.out _ hq2).2.2.2.1 HN2.out (HX.out _ hq2).2.2.2.2).mono ?_); rintro e w3 hx3; obtain ⟨v3, rfl, hr3, hb3⟩ := hx3.out; have HR3 := lh hr3; clear hx3 hr3; have hq3 := hq2.trans (hb3.mono hq2.size); rw [HE.out]))
  go_ret3
  exact ⟨lh ⟨v3, .slice na (planN h s).length nc, by first | rfl | (rw [HE.out]; rfl), fun q => ⟨by have := ownsRow_base HR3.out (show w.heap.size ≤ w2.heap.size from (HW.out _ hq2).size); rw [show (startsP s.cues s.pairs (planN h s) G).1.length = s.cues.length from HPP.out q] at this; exact this, ownsRow_base (ownsRow_below HR2.out hb3) (HW.out _ hb1).size⟩⟩, HW.out _ hq3⟩
 ·have g0 : (E != 0) = true := bne_iff_ne.2 hz
  have HZ := lh hz;clear hE hz
  go_enter Tryz.func23, Tryz.ntmps23
  go_upto_region 1 with (fail)
  obtain ⟨W0, hW0⟩ := nm ((TW w h s) : World);simp only [hW0] at HX HW HC0 ⊢;clear hW0;obtain ⟨B1, hB1⟩ := nm (w.heap.size);obtain ⟨B2, hB2⟩ := nm (w.heap.size + 1);rw [hB2] at HX ⊢;rw [hB1] at HX ⊢;clear hB1 hB2;obtain ⟨⟨a0, a1, a2, a3⟩, ⟨s0, s1⟩, -, -, -⟩ := HX.out _ br
  go_wp2_with (first
   | (go_at_call 36; (with_reducible refine (HC0.out).mono ?_); rintro e w1 ⟨rfl, hb1⟩; rw [HV.out]; obtain ⟨⟨t0, t1, t2, t3⟩, ⟨k0, k1⟩, -, -, -⟩ := HX.out _ hb1)
   | (go_at_call 37; (with_reducible refine (HC1.out _ (HX.out _ hb1).2.2.1 (HX.out _ hb1).2.2.2.1).mono ?_); rintro e w2 ⟨hx2, hb2⟩; obtain ⟨v2, rfl, hr2⟩ := hx2.out; obtain ⟨na, nc, rfl, -, -, -, hn2⟩ := num_of_row (show w2.ownsRow w1.heap.size 3 1 v2 (planN h s).length (nflat (planN h s)) from by rw [HNL.out]; exact hr2); have HN2 := lh hn2; have HR2 := lh hr2; clear hx2 hn2 hr2; have hq2 := hb1.trans (hb2.mono hb1.size); obtain ⟨-, ⟨o0, o1⟩, -, -, -⟩ := HX.out _ hq2)
   | (go_at_call 38; (with_reducible refine (HC2.out _ na nc (HX.out _ hq2).2.2.2.1 HN2.out (HX.out _ hq2).2.2.2.2).mono ?_); rintro e w3 hx3; obtain ⟨v3, rfl, hr3, hb3⟩ := hx3.out; have HR3 := lh hr3; clear hx3 hr3; have hq3 := hq2.trans (hb3.mono hq2.size); rw [HE.out]))
  go_ret3
  exact ⟨lh ⟨.slice none 0 0, .slice none 0 0, by first | rfl | (rw [HE.out]; rfl), fun q => absurd (HE.out.symm.trans q) HZ.out⟩, HW.out _ hq3⟩
end
section
open Go.RowKit Go.Shelf

def beg (L : List (ByteArray × Int)) (i : Nat) : ByteArray × Int := (L[i]?).getD (⟨#[]⟩, 0)
theorem beg_eq (L : List (ByteArray × Int)) (i : Nat) (h : i < L.length) : beg L i = L[i] := by unfold beg; rw [List.getElem?_eq_getElem h]; rfl
def begflat (L : List (ByteArray × Int)) : List Value := L.flatMap fun r => [.string r.1, .int .i64 r.2]
theorem begflat_at (L : List (ByteArray × Int)) (i : Nat) (hi : i < L.length) : (begflat L)[i * 2]? = some (.string (beg L i).1) ∧ (begflat L)[i * 2 + 1]? = some (.int .i64 (beg L i).2) := by
 induction L generalizing i with
 | nil => simp at hi
 | cons x r ih =>
  match i with
  | 0 => exact ⟨rfl, rfl⟩
  | i + 1 =>
   have := ih i (by simpa using hi);have e : begflat (x :: r) = .string x.1 :: .int .i64 x.2 :: begflat r := rfl;rw [e, show (i + 1) * 2 = i * 2 + 1 + 1 by omega]
   simpa [beg] using this
theorem begflat_snoc (L : List (ByteArray × Int)) (r : ByteArray × Int) : begflat (L ++ [r]) = begflat L ++ [.string r.1, .int .i64 r.2] := by simp [begflat]
def Begs (n₀ : Nat) (w : World) (a : Option Addr) (L : List (ByteArray × Int)) : Prop :=
 0 < L.length → ∃ b off, a = some ⟨b, off, none⟩ ∧ b < n₀ ∧ ∀ i, i < L.length → w.cell? ⟨b, off + i * 2, none⟩ = some (.string (beg L i).1) ∧ w.cell? ⟨b, off + i * 2 + 1, none⟩ = some (.int .i64 (beg L i).2)
theorem Begs.below {n₀ : Nat} {w w' : World} {a : Option Addr} {L : List (ByteArray × Int)} (h : Begs n₀ w a L) (hb : Below n₀ w w') : Begs n₀ w' a L := fun hl => by
 obtain ⟨b, off, rfl, hlt, hc⟩ := h hl;refine ⟨b, off, rfl, hlt, fun i hi => ?_⟩;obtain ⟨c0, c1⟩ := hc i hi;exact ⟨(hb.cell (p := ⟨b, _, none⟩) hlt).trans c0, (hb.cell (p := ⟨b, _, none⟩) hlt).trans c1⟩
theorem Begs.mono {n₀ n₁ : Nat} {w : World} {a : Option Addr} {L : List (ByteArray × Int)} (h : Begs n₀ w a L) (hn : n₀ ≤ n₁) : Begs n₁ w a L := fun hl => by
 obtain ⟨b, off, rfl, hlt, hc⟩ := h hl;exact ⟨b, off, rfl, by omega, hc⟩
theorem Begs.grow {w w' : World} {a : Option Addr} {L : List (ByteArray × Int)} (h : Begs w.heap.size w a L) (hb : Below w.heap.size w w') : Begs w'.heap.size w' a L := (h.below hb).mono hb.size
theorem beg_of_row {w : World} {base : Nat} {v : Value} {L : List (ByteArray × Int)} (h : w.ownsRow base 101 2 v L.length (begflat L)) : ∃ a cap, v = .slice a L.length cap ∧ L.length ≤ cap ∧ cap ≤ maxLen ∧ (a = none → cap = 0) ∧ Begs w.heap.size w a L := by
 rcases h.2 with ⟨rfl, h0⟩ | ⟨g, cap, cur, rfl, hb, hg, h1, h2, _⟩
 ·exact ⟨none, 0, by rw [h0], by omega, by unfold maxLen; omega, fun _ => rfl, fun hl => by omega⟩
 ·refine ⟨_, cap, rfl, h1, h2, (fun e => by cases e), fun _ => ⟨g, 0, rfl, (Array.getElem?_eq_some_iff.1 hg).1, fun i hi => ?_⟩⟩
  obtain ⟨f0, f1⟩ := begflat_at L i hi;have c0 := h.cellAt (i * 2) (by omega);have c1 := h.cellAt (i * 2 + 1) (by omega);rw [f0] at c0;rw [f1] at c1;rw [Nat.zero_add];exact ⟨c0, c1⟩
theorem beg_info : (Tryz.prog.info? 101).map (fun i => (i.zero, i.size, i.bytes)) = some (some (.agg #[.string ⟨#[]⟩, .int .i64 0]), 2, 24) := by kernel_rfl
end
section
open Go.RowKit Go.Shelf
attribute [local go_sem] Oper.semAt_some
noncomputable def begsL (h : HouseR) (s : SheetR) (G : List Int) (n : Nat) : List (ByteArray × Int) := (List.range n).map fun i => ((cg s.cues i).name, ig (planS h s G) i)
theorem begsL_snoc (h : HouseR) (s : SheetR) (G : List Int) (n : Nat) : begsL h s G (n + 1) = begsL h s G n ++ [((cg s.cues n).name, ig (planS h s G) n)] := by
 unfold begsL;rw [List.range_succ, List.map_append]
 rfl
theorem begsL_len (h : HouseR) (s : SheetR) (G : List Int) (n : Nat) : (begsL h s G n).length = n := by unfold begsL; rw [List.length_map, List.length_range]
noncomputable def begsP (h : HouseR) (s : SheetR) (G : List Int) : List (ByteArray × Int) := if planE h s G = 0 then begsL h s G s.cues.length else []
theorem cell_two_drew (w : World) (a b : Value) (t : TypeId) : ∀ j u, [a, b][j]? = some u → (w.alloc (.cells #[a, b] t)).cell? ((⟨w.heap.size, 0, none⟩ : Addr).add j) = some u := fun j u h => by
 rw [Go.WideShapes.add_plain, Nat.zero_add]
 match j, h with
 | 0, h => simp at h; subst h; simp
 | 1, h => simp at h; subst h; simp
theorem cueAt_grown {w w' : World} {B : Nat} {q : CueR} {row : Option Nat} (h : CueAt w B q) (hg : w.grownBy w' row) (hne : some B ≠ row) : CueAt w' B q := by
 have hlt : B < w.heap.size := wl h.1;obtain ⟨a0, a1, a2, a3, a4, a5, a6⟩ := h;exact ⟨(hg.cell_far ⟨B, 0, none⟩ hlt hne).trans a0, (hg.cell_far ⟨B, 1, none⟩ hlt hne).trans a1, (hg.cell_far ⟨B, 2, none⟩ hlt hne).trans a2, (hg.cell_far ⟨B, 3, none⟩ hlt hne).trans a3, (hg.cell_far ⟨B, 4, none⟩ hlt hne).trans a4, (hg.cell_far ⟨B, 5, none⟩ hlt hne).trans a5, (hg.cell_far ⟨B, 6, none⟩ hlt hne).trans a6⟩
theorem begins_any (h : HouseR) (s : SheetR) (ga : Option Addr) (G : List Int) (gc : Nat) (w : World) (hh : HouseIn w h) (hs : SheetIn w s) (hG : Nums w.heap.size w ga G) (hgl : G.length ≤ 1000) :
  Calls Tryz.prog 34 #[.agg #[.string h.name, .int .i64 h.height, .slice h.sa h.sets.length h.sc, .slice h.ra h.roofs.length h.rc], .agg #[.slice s.ca s.cues.length s.cc, .slice s.pa s.pairs.length s.pc], .slice ga G.length gc] w fun e w' => Hid (∃ v, e = .returned (.tuple #[v, .int .i64 (planE h s G)]) ∧ w'.ownsRow w.heap.size 101 2 v (begsP h s G).length (begflat (begsP h s G))) ∧ Below w.heap.size w w' := by
 obtain ⟨hb0, HX, HW⟩ := o1 hh hs hG;have HP := lh fun (q : planE h s G = 0) => plan_sheet q;have hcl := hs.clen;clear hh hs hG hb0;obtain ⟨E, hE⟩ := nm (planE h s G)
 by_cases hz : E = 0
 case neg =>
  have HE := lh hE;have HEP : Hid (begsP h s G = []) := lh (by unfold begsP; rw [hE, if_neg hz]);have g0 : (E != 0) = true := bne_iff_ne.2 hz;clear hz hE
  go_enter Tryz.func34, Tryz.ntmps34
  go_upto_region 1 with (fail)
  obtain ⟨W0, hW0⟩ := nm ((TW w h s) : World);simp only [hW0] at HX HW ⊢;clear hW0;obtain ⟨B1, hB1⟩ := nm (w.heap.size);obtain ⟨B2, hB2⟩ := nm (w.heap.size + 1);rw [hB2] at HX ⊢;rw [hB1] at HX ⊢;have HBB : Hid (w.heap.size = B1) := lh hB1;clear hB1 hB2;obtain ⟨⟨a0, a1, a2, a3⟩, ⟨s0, s1⟩, -, -, -⟩ := HX.out _ br;have HMD := lh (made_any h s ga G gc _ (HX.out _ br).2.2.1 (HX.out _ br).2.2.2.1 (HX.out _ br).2.2.2.2 hgl)
  go_wp2_with (go_at_call 25; (with_reducible refine HMD.out.mono ?_); rintro e w1 ⟨hx1, hb1⟩; obtain ⟨ta, tn, tc, sa, sn, sc, na, nn, nc, rfl, hp1⟩ := hx1.out; have HP1 := lh hp1; clear hx1 hp1; rw [HE.out])
  go_ret2
  exact ⟨lh ⟨.slice none 0 0, by first | rfl | (rw [HE.out]; rfl), by rw [HEP.out]; exact World.ownsRow_nil _ _ _ _⟩, (HW.out _ hb1).alloc (by have := (HW.out _ hb1).size; omega) _⟩
 case pos =>
  subst hz;have HE := lh hE;have HEP : Hid (begsP h s G = begsL h s G s.cues.length) := lh (by unfold begsP; rw [hE, if_pos rfl]);have HQ := lh (HP.out hE);clear hE HP;obtain ⟨i0, hi, hz0, hz1, hz2⟩ := info_parts beg_info;have HI := lh (And.intro hi (And.intro hz0 (And.intro hz1 hz2)));clear hi hz0 hz1 hz2
  go_enter Tryz.func34, Tryz.ntmps34
  go_upto_region 1 with (fail)
  obtain ⟨W0, hW0⟩ := nm ((TW w h s) : World);simp only [hW0] at HX HW ⊢;clear hW0;obtain ⟨B1, hB1⟩ := nm (w.heap.size);obtain ⟨B2, hB2⟩ := nm (w.heap.size + 1);rw [hB2] at HX ⊢;rw [hB1] at HX ⊢;have HBB : Hid (w.heap.size = B1) := lh hB1;clear hB1 hB2;obtain ⟨⟨a0, a1, a2, a3⟩, ⟨s0, s1⟩, -, -, -⟩ := HX.out _ br;have HMD := lh (made_any h s ga G gc _ (HX.out _ br).2.2.1 (HX.out _ br).2.2.2.1 (HX.out _ br).2.2.2.2 hgl);obtain ⟨ca, hca⟩ := nm (s.ca);have HCA := lh hca;rw [hca] at s0 HMD ⊢;clear hca
  go_upto_region 5 with (go_at_call 25; (with_reducible refine HMD.out.mono ?_); rintro e w1 ⟨hx1, hb1⟩; obtain ⟨ta, tn, tc, sa, sn, sc, na, nn, nc, rfl, hp1⟩ := hx1.out; have HP1 := lh hp1; clear hx1 hp1; rw [HE.out])
  obtain ⟨e1, e2, hS1, hN1⟩ := HP1.out HE.out;subst e1;subst e2;have hbx := below_new w1 (.cells #[.slice ta tn tc, .slice sa s.cues.length sc, .slice na s.cues.length nc] 73);have hP2 := PC.put w1 (.slice ta tn tc) (.slice sa s.cues.length sc) (.slice na s.cues.length nc) 73;have hW2 := (HW.out _ hb1).alloc (by have := (HW.out _ hb1).size; omega) (.cells #[.slice ta tn tc, .slice sa s.cues.length sc, .slice na s.cues.length nc] 73);have hX2 : Hid (Below W0.heap.size W0 (w1.alloc (.cells #[.slice ta tn tc, .slice sa s.cues.length sc, .slice na s.cues.length nc] 73))) := lh (hb1.alloc hb1.size _);replace hS1 := hS1.grow hbx;replace hN1 := hN1.grow hbx;clear hbx HP1 HMD a0 a1 a2 a3 s0 s1;generalize w1.alloc (.cells #[.slice ta tn tc, .slice sa s.cues.length sc, .slice na s.cues.length nc] 73) = W2 at *;obtain ⟨B8, hB8⟩ := nm (w1.heap.size);rw [hB8] at hP2 ⊢;clear hB8
  have HXX : Hid (∀ w', Below W2.heap.size W2 w' → Below w.heap.size w w' ∧ PC w' B8 (.slice ta tn tc) (.slice sa s.cues.length sc) (.slice na s.cues.length nc) ∧ Nums w'.heap.size w' sa (planS h s G) ∧ Nums w'.heap.size w' na (planN h s) ∧ SheetAt w' B2 s ∧ SheetIn w' s) := lh fun w' z => by
   have y := hX2.out.trans (z.mono hX2.out.size);obtain ⟨-, y2, -, y4, -⟩ := HX.out w' y;exact ⟨hW2.trans (z.mono hW2.size), hP2.carry z, hS1.grow z, hN1.grow z, y2, y4⟩
  clear HX hW2 hS1 hN1 hP2 HW hX2 hb1;obtain ⟨n₂, hn2⟩ := nm (W2.heap.size);rw [hn2] at HXX;have hB2 : Below n₂ W2 W2 := by rw [← hn2]; exact br
  have hnn : n₂ ≤ W2.heap.size := by omega
  have HBN : Hid (w.heap.size ≤ n₂) := lh (by have := (HXX.out _ hB2).1.size; omega);clear hn2;obtain ⟨-, -, -, -, ⟨s0, s1⟩, -⟩ := HXX.out _ hB2;rw [HCA.out] at s0
  go_upto_region 6 with (fail)
  clear s0 s1
  go_loopw [10, 11, 12, 26] (fun v10 _ _ iv wr => ∃ (k : Nat), iv = .int .i64 k ∧ k ≤ s.cues.length ∧ Below n₂ W2 wr ∧ n₂ ≤ wr.heap.size ∧ Hid (wr.ownsRow n₂ 101 2 v10 k (begflat (begsL h s G k)))) (fun _ _ _ iv _ => s.cues.length - (intOf iv).toNat)
  case atStart => exact ⟨0, rfl, Nat.zero_le _, hB2, hnn, lh (World.ownsRow_nil _ _ _ _)⟩
  case round =>
   clear hB2 hnn;obtain ⟨k, rfl, hk, hB, hnw, HR⟩ := hrel
   by_cases hlt : k < s.cues.length
   ·obtain ⟨-, -, hS, -, -, hsi⟩ := HXX.out _ hB
    obtain ⟨b, off, ha, hb, hc⟩ := hsi.lies (by omega);rw [HCA.out] at ha;subst ha;obtain ⟨d0, d1, d2, d3, d4, d5, d6⟩ := hc k hlt;have hls : k < (planS h s G).length := by rw [HQ.out.2.lenS]; exact hlt
    obtain ⟨sb, so, hsa, hsb, hsx⟩ := hS (by omega);subst hsa;have HSN := lh (begsL_snoc h s G k);obtain ⟨q, hq⟩ := nm (cg s.cues k);rw [hq] at d0 d1 d2 d3 d4 d5 d6 HSN;obtain ⟨x, hx⟩ := nm (ig (planS h s G) k);rw [hx] at HSN;have HX5 := lh hx;clear hS hsi hc hsx hq hx;have HKL : Hid ((begsL h s G k).length = k) := lh (begsL_len _ _ _ _);have hB3 := hB.alloc hnw (CC q);have hbn := below_new wr (CC q);have HC3 := CueAt.new wr q 49 _ rfl;have hn3 : n₂ + 1 ≤ (wr.alloc (CC q)).heap.size := by simp; omega
    have HR3 := lh (ownsRow_below HR.out hbn);have HNE : Hid (u10.ownBlock ≠ some wr.heap.size) := lh fun e => by have := (HR.out.lt _ e).2; omega
    go_upto_region 8 with (fail)
    clear d0 d1 d2 d3 d4 d5 d6 HR hbn hB hnw hb;generalize wr.alloc (CC q) = W3 at *;obtain ⟨B12, hB12⟩ := nm (wr.heap.size);rw [hB12] at HC3 HNE ⊢;clear hB12;have HHQ : HeldQ n₂ W2 B12 q W3 := ⟨hB3, hn3, HC3⟩;have HOd := lh (ownsRow_below HR3.out (below_drewR W3));have x1 : ∀ w', HeldQ n₂ W2 B12 q w' → w'.cell? ⟨B8, 1, none⟩ = some (.slice (some ⟨sb, so, none⟩) s.cues.length sc) := fun w' z => (HXX.out w' z.old).2.1.2.1
    have x2 : ∀ w', HeldQ n₂ W2 B12 q w' → w'.cell? ⟨sb, so + k, none⟩ = some (.int .i64 x) := fun w' z => by
     obtain ⟨tb', tf', e, _, ex⟩ := (HXX.out w' z.old).2.2.1 (by omega)
     cases e
     have := ex k hls;rw [HX5.out] at this;exact this
    have c0 : ∀ w', HeldQ n₂ W2 B12 q w' → w'.cell? ⟨B12, 0, none⟩ = some (.string q.name) := fun w' z => z.cu.1;refine wp_region_held_drew (S := (HeldQ n₂ W2 B12 q)) (by kernel_rfl) (HHQ.next (below_drewR W3)) (fun hHeld => ?_);obtain ⟨W5, hW5⟩ := nm (W3.drew);simp only [hW5] at hHeld HOd ⊢;clear hW5;refine tk 0 ?_; refine tk 1 ?_; refine tk 2 ?_; refine tk 3 ?_; refine tk 4 ?_; refine tk 5 ?_; refine tk 6 ?_; refine tk 7 ?_; refine tk 8 ?_;clear x1 x2 c0;refine r1 9 (fun K hK => ?_);rw [if_pos (by rfl)]
    go_wp2_with fail
    have hHN := hHeld.next (below_new W5 (.cells #[.string q.name, .int .i64 x] 101));have HO6 := lh (ownsRow_below HOd.out (below_new W5 (.cells #[.string q.name, .int .i64 x] 101)));refine hK.out _ _ hHN (fun hHeld => ?_);clear hK K
    try simp only [Act.put, qq]
    refine r1 10 (fun K hK => ?_);refine step_append_lies _ rfl (.tmp 31) (.tmp 40) 95 rfl n₂ 101 i0 (.agg #[.string ⟨#[]⟩, .int .i64 0]) 2 24 Tryz.underlying95 HI.out.1 HI.out.2.1 HI.out.2.2.1 HI.out.2.2.2 rfl (by decide) u10 k (begflat (begsL h s G k)) ?_ HO6.out ⟨W5.heap.size, 0, none⟩ 1 1 [.string q.name, .int .i64 x] ?_ rfl (cell_two_drew W5 _ _ _) ?_ (by omega) ?_ ?_ ?_ _ rfl ?_
    ·simp [Act.eval]
    ·simp [Act.eval]
    ·simp [Value.oneCell']
    ·unfold maxLen; omega
    ·omega
    ·have := hHN.lo; omega
    intro g7 cap7 w7 hown7 hgr7 hat7 hg7;clear hat7;have hS7 : HeldQ n₂ W2 B12 q w7 := ⟨hHN.old.grown hgr7 (by have := hHN.lo; omega) (fun j hj => (HO6.out.lt _ hj).1), Nat.le_trans hHN.lo hgr7.size, cueAt_grown hHN.cu hgr7 (fun e => HNE.out e.symm)⟩;have HO7 := lh hown7;clear hown7 hgr7 hg7;refine hK.out _ _ hS7 (fun hHeld => ?_);clear hK K
    try simp only [Act.put, qq]
    refine tk 11 ?_;refine wpAnyH_done (by kernel_rfl) ?_ _;have hB9 := hS7.old;have hn9 : n₂ ≤ w7.heap.size := by have := hS7.lo; omega
    go_wp2_with fail
    go_roundw
    case rel => exact ⟨k + 1, by go_num, by omega, hB9, hn9, lh (by rw [HSN.out, begflat_snoc]; exact HO7.out)⟩
    case measure => simp [intOf]; omega
   ·obtain rfl : k = s.cues.length := by omega
    go_wp2_with fail
    go_ret2
    exact ⟨lh ⟨_, by first | rfl | (rw [HE.out]; rfl), by rw [HEP.out, begsL_len]; exact ownsRow_base HR.out HBN.out⟩, (HXX.out _ hB).1⟩
end
end Go.Proofs.YtlnodjcmdnmnlaaGreat
