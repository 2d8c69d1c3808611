/-
  THE WALK of the reference's Starts, at a linked sheet.
-/
import Derived.Test.YtapjhjpibefooaaStPlain
import Derived.Test.YtapjhjpibefooaaGiven
import Derived.Test.YtapjhjpibefooaaROrder
import Derived.Test.YtapjhjpibefooaaStarts
import Derived.IntWalk
import Derived.RegionTactic
import Derived.Deep.RegionLaw
namespace Go.Proofs.Ytapjhjpibefooaa
open Go.RowKit Go.Shelf

set_option maxRecDepth 100000 in
set_option maxHeartbeats 16000000 in
theorem refstarts_any (ca pa na ga : Option Addr) (L : List CueR) (A : List (ByteArray × ByteArray)) (N G : List Int) (cc pc nc gc : Nat) (w : World) (hlk : linkedB L A = true) (hlN : N.length ≤ 1000) (hlG : G.length ≤ 1000) (hI : Cues w.heap.size w ca L) (hN : Nums w.heap.size w na N) (hG : Nums w.heap.size w ga G) :
    Calls Try.prog 15 #[.agg #[.slice ca L.length cc, .slice pa A.length pc], .slice na N.length nc, .slice ga G.length gc] w fun e w' => Hid (∃ v, e = .returned (.tuple #[v, .int .i64 (startsP L A N G).2]) ∧ w'.ownsRow w.heap.size 3 1 v (startsP L A N G).1.length (nflat (startsP L A N G).1) ∧ Below w.heap.size w w') := by
  have hb0 : Below w.heap.size w (w.alloc (.cells #[.slice ca L.length cc, .slice pa A.length pc] 25)) := below_new w _
  have HI := Lib.hid (hI.grow hb0)
  have HN := Lib.hid (hN.grow hb0)
  have HG := Lib.hid (hG.grow hb0)
  have HX : Hid (∀ wr, Below (w.alloc (.cells #[.slice ca L.length cc, .slice pa A.length pc] 25)).heap.size (w.alloc (.cells #[.slice ca L.length cc, .slice pa A.length pc] 25)) wr → Below w.heap.size w wr ∧ wr.cell? ⟨w.heap.size, 0, none⟩ = some (.slice ca L.length cc) ∧ wr.cell? ⟨w.heap.size, 1, none⟩ = some (.slice pa A.length pc)) := Lib.hid fun wr h => ⟨mono_in _ h, box2 h⟩
  have hz0 : w.heap.size ≤ (w.alloc (.cells #[.slice ca L.length cc, .slice pa A.length pc] 25)).heap.size := hb0.size
  clear hb0 hI hN hG
  obtain ⟨i0, hi, hy1, hy2, hy3⟩ := info_parts num_info
  have HLK := Lib.hid hlk
  obtain ⟨hl60, hlA⟩ := linked_len hlk
  have HC1 : Hid (startsP L A N G = if N.length = L.length ∧ G.length = manTo L L.length then (if N.any wrongT || G.any wrongT then ([], 2) else if (ordP (hangs L)).length < L.length then ([], 23) else (startsV L N G, 0)) else ([], 3)) := Lib.hid (by unfold startsP; rw [hlk, if_pos rfl])
  clear hlk
  by_cases hne : givenE L N G = 0
  · have HGE := Lib.hid hne
    have hcnd : N.length = L.length ∧ G.length = manTo L L.length := by
      unfold givenE at hne
      split at hne
      · assumption
      · omega
    have hany : N.any wrongT = false ∧ G.any wrongT = false := by
      unfold givenE at hne
      rw [if_pos hcnd] at hne
      split at hne
      · omega
      · next hx => simpa using hx
    have HNL := Lib.hid hcnd.1
    have HGL := Lib.hid hcnd.2
    have HWN' := Lib.hid hany.1
    have HWG' := Lib.hid hany.2
    have HC3 : Hid (startsP L A N G = if (ordP (hangs L)).length < L.length then ([], 23) else (startsV L N G, 0)) := Lib.hid (by rw [HC1.out, if_pos hcnd, hany.1, hany.2]; rfl)
    clear hne hcnd hany
    by_cases ho : (ordP (hangs L)).length < L.length
    · have HOR : Hid (ordR L = ([], false)) := Lib.hid (by unfold ordR; rw [if_pos ho])
      have HP0 : Hid (startsP L A N G = ([], 23)) := Lib.hid (by rw [HC3.out, if_pos ho])
      go_enter Try.func15, Try.ntmps15
      go_wp2_with (first
        | (go_at_call 59; (with_reducible refine (given_any _ _ _ _ L A N G _ _ _ _ _ (by omega) (by omega) (by omega) HI.out HN.out HG.out).mono ?_); rintro e w1 ⟨rfl, hb1⟩; rw [HGE.out]; obtain ⟨hB1, z0, z1⟩ := HX.out _ hb1)
        | (go_at_call 41; (with_reducible refine (reforder_any _ _ L A _ _ _ HLK.out (HI.out.grow hb1)).mono ?_); rintro e w2 hx; obtain ⟨v2, rfl, hr2, hb2⟩ := hx.out; rw [HOR.out] at hr2; rw [HOR.out]; have hB2 := hb1.trans (hb2.mono hb1.size); obtain ⟨hB2', y0, y1⟩ := HX.out _ hB2; obtain ⟨oa, oc, rfl, _, _, _, hno⟩ := num_of_row hr2; have HNO := Lib.hid hno; clear hx hr2 hno))
      go_ret2
      rw [HP0.out]
      exact Lib.hid ⟨_, rfl, World.ownsRow_nil _ _ _ _, hB2'⟩
    · have hole := ord_le L
      have HOR0 : Hid (ordR L = (ordP (hangs L), true)) := Lib.hid (by unfold ordR; rw [if_neg ho])
      have HORD : Hid (∀ k, k < (ordP (hangs L)).length → ∃ m : Nat, m < L.length ∧ ig (ordP (hangs L)) k = m) := Lib.hid fun k hk => ord_in L k hk
      have HSM2 : Hid (∀ k, k ≤ (ordP (hangs L)).length → Small (refV L N G k) (4294967296 * (k + 1))) := Lib.hid fun k hk => refV_small HLK.out HWG'.out HGL.out HWN'.out HNL.out k hk
      have HP2S : Hid (∀ k, k < (ordP (hangs L)).length → refV L N G (k + 1) = stepR L N G (refV L N G k) (ig (ordP (hangs L)) k)) := Lib.hid fun k hk => refV_succ L N G k hk
      have HSV : Hid (startsP L A N G = (refV L N G (ordP (hangs L)).length, 0)) := Lib.hid (by rw [HC3.out, if_neg ho, refV_all HLK.out N G (by omega)])
      obtain ⟨O, HO⟩ : ∃ O, Hid (ordP (hangs L) = O) := ⟨_, Lib.hid rfl⟩
      rw [HO.out] at HOR0 hole HORD HSM2 HP2S HSV ho
      have HOR := HOR0
      have HOL : Hid (O.length = L.length) := Lib.hid (by omega)
      clear HOR0 ho
      go_enter Try.func15, Try.ntmps15
      go_wp2_with (first
        | (go_at_call 59; (with_reducible refine (given_any _ _ _ _ L A N G _ _ _ _ _ (by omega) (by omega) (by omega) HI.out HN.out HG.out).mono ?_); rintro e w1 ⟨rfl, hb1⟩; rw [HGE.out]; obtain ⟨hB1, z0, z1⟩ := HX.out _ hb1)
        | (go_at_call 41; (with_reducible refine (reforder_any _ _ L A _ _ _ HLK.out (HI.out.grow hb1)).mono ?_); rintro e w2 hx; obtain ⟨v2, rfl, hr2, hb2⟩ := hx.out; rw [HOR.out] at hr2; rw [HOR.out]; have hB2 := hb1.trans (hb2.mono hb1.size); obtain ⟨hB2', y0, y1⟩ := HX.out _ hB2; obtain ⟨oa, oc, rfl, _, _, _, hno⟩ := num_of_row hr2; have HNO := Lib.hid hno; clear hx hr2 hno)
        | (at_make; refine wpList_make_full _ rfl _ _ 26 rfl w2.heap.size 3 i0 (.int .i64 0) 1 Try.underlying26 hi hy1 hy2 _ _ _ _ L.length rfl rfl rfl rfl (by rw [hy3]; omega) (by unfold maxLen; omega) (Nat.le_refl _) ?_; intro w5 hown5 hg5; have HD5 := Lib.hid (show w5.ownsRow w2.heap.size 3 1 (.slice (some ⟨w2.heap.size, 0, none⟩) L.length L.length) L.length (nflat (pass1 L G 0)) by rw [← made_zero L G L.length rfl]; exact hown5); have f0 := hg5.cell y0 (by simp); have f1 := hg5.cell y1 (by simp); clear hown5))
      have hB45 : Below w2.heap.size w2 w5 := (Below.refl _ _).grown hg5 (Nat.le_refl _) (fun k e => by cases e)
      have hs4 := hB2.size
      have hw45 : w2.heap.size < w5.heap.size := (HD5.out.lt _ rfl).2
      have HI5 := Lib.hid ((HI.out.grow hB2).below hB45)
      have HG5 := Lib.hid ((HG.out.grow hB2).below hB45)
      have HN5 := Lib.hid ((HN.out.grow hB2).below hB45)
      have HO5 := Lib.hid (HNO.out.below hB45)
      have hw4 : w.heap.size < w2.heap.size := World.block_lt_of_cell? _ _ y0
      have HZ0 := Lib.hid f0
      have HZ1 := Lib.hid f1
      have HFIN : Hid (∀ wr, Below w2.heap.size w5 wr → Below w.heap.size w wr) := Lib.hid fun wr h => (HX.out _ (hB2.trans ((hB45.trans h).mono hs4))).1
      clear hb1 hb2 hB2 y0 y1 hB2' hg5 HNO HI HG HN z0 z1 f0 f1 hB1 hB45
      generalize hgg : w2.heap.size = g at *
      clear hgg
      go_loopw [12] (fun i wr => ∃ k : Nat, k ≤ O.length ∧ i = .int .i64 k ∧ Below g w5 wr ∧ Hid (wr.ownsRow g 3 1 (.slice (some ⟨g, 0, none⟩) L.length L.length) L.length (nflat (refV L N G k))) ∧ w5.heap.size ≤ wr.heap.size) (fun i _ => O.length - (intOf i).toNat)
      case atStart => exact ⟨0, Nat.zero_le _, rfl, Below.refl _ _, HD5, Nat.le_refl _⟩
      case round =>
        clear HD5
        obtain ⟨k, hk, rfl, hB, HR, hws⟩ := hrel
        have z0 := (hB.cell (p := ⟨w.heap.size, 0, none⟩) hw4).trans HZ0.out
        have z1 := (hB.cell (p := ⟨w.heap.size, 1, none⟩) hw4).trans HZ1.out
        have hbz : w.heap.size < wr.heap.size := by omega
        by_cases hlt : k < O.length
        · obtain ⟨ob, oo, rfl, hol, hoc⟩ := HO5.out (by omega)
          obtain ⟨m, hm, hmo⟩ := HORD.out k hlt
          have o0 := (hB.cell (p := ⟨ob, oo + k, none⟩) hol).trans (hoc k hlt)
          rw [hmo] at o0
          have HPS := Lib.hid (HP2S.out k hlt)
          rw [hmo] at HPS
          obtain ⟨b, off, rfl, hbl, hc⟩ := HI5.out (by omega)
          obtain ⟨c0, c1, c2, c3, c4, c5, c6⟩ := hc m hm
          have d0 := (hB.cell (p := ⟨b, off + m * 7, none⟩) hbl).trans c0
          have d1 := (hB.cell (p := ⟨b, off + m * 7 + 1, none⟩) hbl).trans c1
          have d2 := (hB.cell (p := ⟨b, off + m * 7 + 2, none⟩) hbl).trans c2
          have d3 := (hB.cell (p := ⟨b, off + m * 7 + 3, none⟩) hbl).trans c3
          have d4 := (hB.cell (p := ⟨b, off + m * 7 + 4, none⟩) hbl).trans c4
          have d5 := (hB.cell (p := ⟨b, off + m * 7 + 5, none⟩) hbl).trans c5
          have d6 := (hB.cell (p := ⟨b, off + m * 7 + 6, none⟩) hbl).trans c6
          have HSM := Lib.hid (HSM2.out k (by omega))
          have how : g < wr.heap.size := by omega
          have HWA := Lib.hid (below_new wr (.cells #[.string (cg L m).name, .string (cg L m).after, .int .i64 (cg L m).link, .int .i64 (cg L m).delay, .slice (cg L m).ma (cg L m).ml (cg L m).mc, .int .i64 (cg L m).crew, .int .i64 (cg L m).power] 56))
          have hl6 : (refV L N G k).length = L.length := refV_len L N G k
          have HL6 := Lib.hid hl6
          clear hc c0 c1 c2 c3 c4 c5 c6 hoc hmo hl6
          obtain ⟨q1, q2⟩ := (linked_cue HLK.out m hm).2.2.1
          rcases (linked_cue HLK.out m hm).2.2.2 with ⟨l1, hempty⟩ | ⟨l23, l1, f, hf, hfa, hfm⟩
          · have m1 : ((cg L m).link == 1) = true := beq_iff_eq.2 l1
            have hmg : manTo L m < G.length := by rw [HGL.out]; exact manTo_lt L m _ hm l1
            obtain ⟨gb, go, rfl, hgl, hgc⟩ := HG5.out (by omega)
            have HGC := Lib.hid ((hB.cell (p := ⟨gb, go + manTo L m, none⟩) hgl).trans (hgc _ hmg))
            obtain ⟨q3, q4⟩ := wrongT_no HWG'.out _ hmg
            have HSTEP : Hid (refV L N G (k + 1) = (refV L N G k).set m (ig G (manTo L m) + (cg L m).delay)) := Lib.hid (by rw [HPS.out]; unfold stepR; rw [Int.toNat_natCast, if_pos l1])
            clear hgc l1 hempty
            generalize refV L N G k = s at *
            go_wp2_with fail
            have s1 : IntKind.i64.wrap (ig G (manTo L m) + (cg L m).delay) = ig G (manTo L m) + (cg L m).delay := IntWalk.i64_in _ (by omega)
            have HCA := Lib.hid (((HI5.out.below hB).mono (show g ≤ wr.heap.size by omega)).grow HWA.out)
            have hgw : gb < wr.heap.size := by omega
            go_region_law (first
              | (go_simp; go_at_call 60; (with_reducible refine (manual_any _ _ L A _ _ m _ (by omega) (by omega) ?_).mono ?_); (next => exact HCA.out); rintro e w6 ⟨rfl, hb6⟩; have hs6 : wr.heap.size < w6.heap.size := (by have := hb6.size; simp at this; omega); have x3 := (hb6.cell (p := ⟨wr.heap.size, 3, none⟩) (by simp)).trans (show _ = some (.int .i64 (cg L m).delay) by simp); have gG := (hb6.cell (p := ⟨gb, go + manTo L m, none⟩) (by simp; omega)).trans ((World.cell?_alloc_lt wr _ ⟨gb, go + manTo L m, none⟩ hgw).trans HGC.out); have HR6 := Lib.hid (ownsRow_below (show ((wr.alloc (.cells #[.string (cg L m).name, .string (cg L m).after, .int .i64 (cg L m).link, .int .i64 (cg L m).delay, .slice (cg L m).ma (cg L m).ml (cg L m).mc, .int .i64 (cg L m).crew, .int .i64 (cg L m).power] 56)).drew).ownsRow g 3 1 (.slice (some ⟨g, 0, none⟩) L.length L.length) L.length (nflat s) from (HR.out.alloc _).drew) hb6); have o2 : w6.cell? ⟨g, m, none⟩ = some (.int .i64 (ig s m)) := (by rw [HR6.out.cellAt m (by omega), nflat_at _ _ (by rw [HL6.out]; exact hm)]); have o3 := HR6.out.frozenAt m; have hgw6 : g < w6.heap.size := (by omega)))
            all_goals
              go_wp2_with fail
              have hB6 : Below g w5 w6 := (hB.trans (HWA.out.mono (by omega))).drew.trans (hb6.mono (by simp; omega))
              have HST := Lib.hid (show (w6.setCell ⟨g, m, none⟩ (.int .i64 (ig G (manTo L m) + (cg L m).delay))).ownsRow g 3 1 (.slice (some ⟨g, 0, none⟩) L.length L.length) L.length (nflat (refV L N G (k + 1))) by rw [HSTEP.out, ← nflat_set]; exact (HR6.out.stored m _).1)
              have hsb : w5.heap.size ≤ w6.heap.size := by omega
              go_roundw
              case rel => exact ⟨k + 1, by omega, by go_num, hB6.setCell (show g ≤ (⟨g, m, none⟩ : Addr).block from Nat.le_refl _) _, Lib.hid HST.out, by first | omega | (simp; omega)⟩
              case measure => first | (simp [intOf]; done) | (simp [intOf]; omega)
          · have m1 : ((cg L m).link == 1) = false := beq_eq_false_iff_ne.2 l1
            have HFA := Lib.hid hfa
            have hfN : f < N.length := by rw [HNL.out]; exact hf
            obtain ⟨q3, q4⟩ := HSM.out f (by rw [refV_len]; exact hf)
            obtain ⟨q5, q6⟩ := wrongT_no HWN'.out f hfN
            obtain ⟨nb, no, rfl, hnl, hnc⟩ := HN5.out (by omega)
            have hn5 := hnc f hfN
            have HSTEP : Hid (refV L N G (k + 1) = (refV L N G k).set m (ig (refV L N G k) f + (cg L m).delay + if (cg L m).link = 2 then ig N f else 0)) := Lib.hid (by rw [HPS.out]; unfold stepR; rw [Int.toNat_natCast, if_neg l1, hfa, Int.toNat_natCast])
            have HHN := Lib.hid hn5
            clear hnc hn5 hfa hfm
            generalize refV L N G k = s at *
            rcases l23 with l2 | l3
            · have m2 : ((cg L m).link == 2) = true := beq_iff_eq.2 l2
              rw [if_pos l2] at HSTEP
              clear l1 l2
              go_wp2_with (go_at_call 17; (with_reducible refine (reffind_any _ L _ _ (cg L m).after _ (by omega) ((HI5.out.below hB).mono (by omega) |>.grow HWA.out)).mono ?_); rintro e w6 ⟨rfl, hb6⟩; rw [HFA.out]; have hB6 := HWA.out.trans (hb6.mono HWA.out.size); have x2 := (hb6.cell (p := ⟨wr.heap.size, 2, none⟩) (by simp)).trans (show _ = some (.int .i64 (cg L m).link) by simp); have x3 := (hb6.cell (p := ⟨wr.heap.size, 3, none⟩) (by simp)).trans (show _ = some (.int .i64 (cg L m).delay) by simp))
              have hs6 := hB6.size
              have hs6' : wr.heap.size < w6.heap.size := World.block_lt_of_cell? _ _ x2
              have HR6 := Lib.hid (ownsRow_below HR.out hB6)
              have s1 : IntKind.i64.wrap (ig s f + (cg L m).delay) = ig s f + (cg L m).delay := IntWalk.i64_in _ (by omega)
              have o1 : w6.cell? ⟨g, f, none⟩ = some (.int .i64 (ig s f)) := by rw [HR6.out.cellAt f (by omega), nflat_at _ _ (by rw [HL6.out]; exact hf)]
              have o2 : w6.cell? ⟨g, m, none⟩ = some (.int .i64 (ig s m)) := by rw [HR6.out.cellAt m (by omega), nflat_at _ _ (by rw [HL6.out]; exact hm)]
              have o3 := HR6.out.frozenAt m
              have how6 : g < w6.heap.size := by omega
              go_region
              have HR7 := Lib.hid (show ((w6.setCell ⟨g, m, none⟩ (.int .i64 (ig s f + (cg L m).delay))).drew).ownsRow g 3 1 (.slice (some ⟨g, 0, none⟩) L.length L.length) L.length (nflat (s.set m (ig s f + (cg L m).delay))) by rw [← nflat_set]; exact (HR6.out.stored m _).1.drew)
              have hB7 : Below g w5 (w6.setCell ⟨g, m, none⟩ (.int .i64 (ig s f + (cg L m).delay))).drew := ((hB.trans (hB6.mono (by omega))).setCell (show g ≤ (⟨g, m, none⟩ : Addr).block from Nat.le_refl _) _).drew
              have hws7 : w5.heap.size ≤ (w6.setCell ⟨g, m, none⟩ (.int .i64 (ig s f + (cg L m).delay))).drew.heap.size := by simp; omega
              have x27 : (w6.setCell ⟨g, m, none⟩ (.int .i64 (ig s f + (cg L m).delay))).drew.cell? ⟨wr.heap.size, 2, none⟩ = some (.int .i64 (cg L m).link) := (World.cell?_setCell_other _ _ _ _ (by first | (simp; done) | (simp; omega))).trans x2
              clear o1 o2 o3 x2 x3 s1
              generalize (w6.setCell ⟨g, m, none⟩ (.int .i64 (ig s f + (cg L m).delay))).drew = w7 at *
              go_wp2_with fail
              have s2 : IntKind.i64.wrap (ig s f + (cg L m).delay + ig N f) = ig s f + (cg L m).delay + ig N f := IntWalk.i64_in _ (by omega)
              have n7 := (hB7.cell (p := ⟨nb, no + f, none⟩) hnl).trans HHN.out
              have n8 : w7.cell? ⟨g, m, none⟩ = some (.int .i64 (ig s f + (cg L m).delay)) := by rw [HR7.out.cellAt m (by omega), nflat_at _ _ (by rw [List.length_set, HL6.out]; exact hm), ig_set _ _ _ _ (by rw [HL6.out]; exact hm), if_pos rfl]
              have n9 := HR7.out.frozenAt m
              go_region
              go_wp2_with fail
              have HST := Lib.hid (show (w7.setCell ⟨g, m, none⟩ (.int .i64 (ig s f + (cg L m).delay + ig N f))).ownsRow g 3 1 (.slice (some ⟨g, 0, none⟩) L.length L.length) L.length (nflat (refV L N G (k + 1))) by rw [HSTEP.out, ← List.set_set (a := ig s f + (cg L m).delay), ← nflat_set]; exact (HR7.out.stored m _).1)
              go_roundw
              case rel => exact ⟨k + 1, by omega, by go_num, (hB7.setCell (show g ≤ (⟨g, m, none⟩ : Addr).block from Nat.le_refl _) _).drew, Lib.hid HST.out.drew, by simp; omega⟩
              case measure => simp [intOf]; omega
            · have m2 : ((cg L m).link == 2) = false := beq_eq_false_iff_ne.2 (by omega)
              rw [if_neg (by omega), Int.add_zero] at HSTEP
              clear l1 l3
              go_wp2_with (go_at_call 17; (with_reducible refine (reffind_any _ L _ _ (cg L m).after _ (by omega) ((HI5.out.below hB).mono (by omega) |>.grow HWA.out)).mono ?_); rintro e w6 ⟨rfl, hb6⟩; rw [HFA.out]; have hB6 := HWA.out.trans (hb6.mono HWA.out.size); have x2 := (hb6.cell (p := ⟨wr.heap.size, 2, none⟩) (by simp)).trans (show _ = some (.int .i64 (cg L m).link) by simp); have x3 := (hb6.cell (p := ⟨wr.heap.size, 3, none⟩) (by simp)).trans (show _ = some (.int .i64 (cg L m).delay) by simp))
              have hs6 := hB6.size
              have hs6' : wr.heap.size < w6.heap.size := World.block_lt_of_cell? _ _ x2
              have HR6 := Lib.hid (ownsRow_below HR.out hB6)
              have s1 : IntKind.i64.wrap (ig s f + (cg L m).delay) = ig s f + (cg L m).delay := IntWalk.i64_in _ (by omega)
              have o1 : w6.cell? ⟨g, f, none⟩ = some (.int .i64 (ig s f)) := by rw [HR6.out.cellAt f (by omega), nflat_at _ _ (by rw [HL6.out]; exact hf)]
              have o2 : w6.cell? ⟨g, m, none⟩ = some (.int .i64 (ig s m)) := by rw [HR6.out.cellAt m (by omega), nflat_at _ _ (by rw [HL6.out]; exact hm)]
              have o3 := HR6.out.frozenAt m
              have how6 : g < w6.heap.size := by omega
              go_region
              have HR7 := Lib.hid (show ((w6.setCell ⟨g, m, none⟩ (.int .i64 (ig s f + (cg L m).delay))).drew).ownsRow g 3 1 (.slice (some ⟨g, 0, none⟩) L.length L.length) L.length (nflat (s.set m (ig s f + (cg L m).delay))) by rw [← nflat_set]; exact (HR6.out.stored m _).1.drew)
              have hB7 : Below g w5 (w6.setCell ⟨g, m, none⟩ (.int .i64 (ig s f + (cg L m).delay))).drew := ((hB.trans (hB6.mono (by omega))).setCell (show g ≤ (⟨g, m, none⟩ : Addr).block from Nat.le_refl _) _).drew
              have hws7 : w5.heap.size ≤ (w6.setCell ⟨g, m, none⟩ (.int .i64 (ig s f + (cg L m).delay))).drew.heap.size := by simp; omega
              have x27 : (w6.setCell ⟨g, m, none⟩ (.int .i64 (ig s f + (cg L m).delay))).drew.cell? ⟨wr.heap.size, 2, none⟩ = some (.int .i64 (cg L m).link) := (World.cell?_setCell_other _ _ _ _ (by first | (simp; done) | (simp; omega))).trans x2
              clear o1 o2 o3 x2 x3 s1
              generalize (w6.setCell ⟨g, m, none⟩ (.int .i64 (ig s f + (cg L m).delay))).drew = w7 at *
              go_wp2_with fail
              go_roundw
              case rel => exact ⟨k + 1, by omega, by go_num, hB7, Lib.hid (by rw [HSTEP.out]; exact HR7.out), hws7⟩
              case measure => simp [intOf]; omega
        · obtain rfl : k = O.length := by omega
          go_wp2_with fail
          go_ret2
          rw [HSV.out]
          exact Lib.hid ⟨_, rfl, by rw [refV_len]; exact ownsRow_base HR.out (by omega), HFIN.out _ hB⟩
  · have g0 : (givenE L N G != 0) = true := bne_iff_ne.2 hne
    obtain ⟨ge, hge⟩ : ∃ ge, givenE L N G = ge := ⟨_, rfl⟩
    have HGE := Lib.hid hge
    rw [hge] at g0
    have HP0 : Hid (startsP L A N G = ([], ge)) := Lib.hid (by
      rw [HC1.out, ← hge]
      unfold givenE at hne ⊢
      by_cases hcnd : N.length = L.length ∧ G.length = manTo L L.length
      · rw [if_pos hcnd] at hne
        rw [if_pos hcnd, if_pos hcnd]
        by_cases hx : (N.any wrongT || G.any wrongT) = true
        · rw [if_pos hx, if_pos hx]
        · rw [if_neg hx] at hne; exact absurd rfl hne
      · rw [if_neg hcnd, if_neg hcnd])
    clear hne hge
    go_enter Try.func15, Try.ntmps15
    go_wp2_with (go_at_call 59; (with_reducible refine (given_any _ _ _ _ L A N G _ _ _ _ _ (by omega) (by omega) (by omega) HI.out HN.out HG.out).mono ?_); rintro e w1 ⟨rfl, hb1⟩; rw [HGE.out]; obtain ⟨hB1, z0, z1⟩ := HX.out _ hb1)
    go_ret2
    rw [HP0.out]
    exact Lib.hid ⟨_, rfl, World.ownsRow_nil _ _ _ _, hB1⟩
end Go.Proofs.Ytapjhjpibefooaa
