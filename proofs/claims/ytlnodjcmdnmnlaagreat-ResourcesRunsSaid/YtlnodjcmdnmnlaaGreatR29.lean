/-
  THE WALKS of resources.sheet, Crew and Power.
  PLAIN: what the steps of a plan's uses tell, and which cues run.
  THE WALK of the law's own helper short, at steps that are short.
-/
import Derived.IntWalk
import Derived.RegionTactic
import Derived.Test.YtlnodjcmdnmnlaaGreatR26
import Derived.Test.YtlnodjcmdnmnlaaGreatR27
import Derived.Test.YtlnodjcmdnmnlaaGreatR28
namespace Go.Proofs.YtlnodjcmdnmnlaaGreat
open Go.RowKit Go.Shelf
attribute [local go_sem] Oper.semAt_some
noncomputable def usesL (h : HouseR) (s : SheetR) (G : List Int) (nd : CueR → Int) (n : Nat) : List (Int × Int × Int) := (List.range n).map fun i => (ig (planS h s G) i, ig (planS h s G) i + ig (planN h s) i, nd (cg s.cues i))
theorem usesL_snoc (h : HouseR) (s : SheetR) (G : List Int) (nd : CueR → Int) (n : Nat) : usesL h s G nd (n + 1) = usesL h s G nd n ++ [(ig (planS h s G) n, ig (planS h s G) n + ig (planN h s) n, nd (cg s.cues n))] := by
 unfold usesL
 rw [List.range_succ, List.map_append]
 rfl
theorem usesL_len (h : HouseR) (s : SheetR) (G : List Int) (nd : CueR → Int) (n : Nat) : (usesL h s G nd n).length = n := by unfold usesL; rw [List.length_map, List.length_range]
noncomputable def sheetP (h : HouseR) (s : SheetR) (G : List Int) (nd : CueR → Int) : List (Int × Int) := if planE h s G = 0 then stepsP (usesL h s G nd s.cues.length) else []
theorem begsL_at (h : HouseR) (s : SheetR) (G : List Int) {k : Nat} (hk : k < s.cues.length) : (beg (begsL h s G s.cues.length) k).2 = ig (planS h s G) k := by
 rw [beg_eq _ _ (by rw [begsL_len]; exact hk)]
 unfold begsL
 rw [List.getElem_map, List.getElem_range]
theorem endsL_at (h : HouseR) (s : SheetR) (G : List Int) {k : Nat} (hk : k < s.cues.length) : ig (endsL h s G s.cues.length) k = ig (planS h s G) k + ig (planN h s) k := by
 rw [ig_eq _ _ (by rw [endsL_len]; exact hk)]
 unfold endsL
 rw [List.getElem_map, List.getElem_range]
theorem usesL_bd {h : HouseR} {s : SheetR} {G : List Int} {nd : CueR → Int} (ok : SheetOK h s) (hn : ∀ q, HeadOK q → 0 ≤ nd q ∧ nd q ≤ 100) : UseB (usesL h s G nd s.cues.length) := fun k hk => by
 rw [usesL_len] at hk
 have e : (ug (usesL h s G nd s.cues.length) k).2.2 = nd (cg s.cues k) := by
  rw [ug_eq _ _ (by rw [usesL_len]; exact hk)]
  unfold usesL
  rw [List.getElem_map, List.getElem_range]
 have := hn _ (ok.each k hk).1.1
 omega
theorem crew_one (q : CueR) (w : World) : Calls Tryz.prog 21 #[.agg #[.string q.name, .string q.after, .int .i64 q.link, .int .i64 q.delay, .slice q.ma q.moves.length q.mc, .int .i64 q.crew, .int .i64 q.power]] w fun e w' => e = .returned (.int .i64 q.crew) ∧ Below w.heap.size w w' := by
 go_enter Tryz.func21, Tryz.ntmps21
 go_wp2_with fail
 go_ret
 exact ⟨rfl, below_new _ _⟩
theorem power_one (q : CueR) (w : World) : Calls Tryz.prog 22 #[.agg #[.string q.name, .string q.after, .int .i64 q.link, .int .i64 q.delay, .slice q.ma q.moves.length q.mc, .int .i64 q.crew, .int .i64 q.power]] w fun e w' => e = .returned (.int .i64 q.power) ∧ Below w.heap.size w w' := by
 go_enter Tryz.func22, Tryz.ntmps22
 go_wp2_with fail
 go_ret
 exact ⟨rfl, below_new _ _⟩
set_option maxRecDepth 100000 in
set_option maxHeartbeats 16000000 in
theorem sheet_crew (h : HouseR) (s : SheetR) (ga : Option Addr) (G : List Int) (gc : Nat) (w : World) (hh : HouseIn w h) (hs : SheetIn w s) (hG : Nums w.heap.size w ga G) (hgl : G.length ≤ 1000) :
  Calls Tryz.prog 20 #[.agg #[.string h.name, .int .i64 h.height, .slice h.sa h.sets.length h.sc, .slice h.ra h.roofs.length h.rc], .agg #[.slice s.ca s.cues.length s.cc, .slice s.pa s.pairs.length s.pc], .slice ga G.length gc, .func (.func 21) #[] #[]] w fun e w' => Hid (∃ v, e = .returned (.tuple #[v, .int .i64 (planE h s G)]) ∧ w'.ownsRow w.heap.size 41 2 v (sheetP h s G (·.crew)).length (oflat (sheetP h s G (·.crew)))) ∧ Below w.heap.size w w' := by
 have hb0 : Below w.heap.size w ((w.alloc (.cells #[.string h.name, .int .i64 h.height, .slice h.sa h.sets.length h.sc, .slice h.ra h.roofs.length h.rc] 25)).alloc (.cells #[.slice s.ca s.cues.length s.cc, .slice s.pa s.pairs.length s.pc] 29)) := (below_new w _).alloc (by simp) _
 have HX : Hid (∀ w', Below ((w.alloc (.cells #[.string h.name, .int .i64 h.height, .slice h.sa h.sets.length h.sc, .slice h.ra h.roofs.length h.rc] 25)).alloc (.cells #[.slice s.ca s.cues.length s.cc, .slice s.pa s.pairs.length s.pc] 29)).heap.size ((w.alloc (.cells #[.string h.name, .int .i64 h.height, .slice h.sa h.sets.length h.sc, .slice h.ra h.roofs.length h.rc] 25)).alloc (.cells #[.slice s.ca s.cues.length s.cc, .slice s.pa s.pairs.length s.pc] 29)) w' → HouseAt w' w.heap.size h ∧ SheetAt w' (w.heap.size + 1) s ∧ HouseIn w' h ∧ SheetIn w' s ∧ Nums w'.heap.size w' ga G) := Lib.hid fun w' z =>
  ⟨((HouseAt.new w h _).carry (below_new _ _)).carry z, (show SheetAt ((w.alloc (.cells #[.string h.name, .int .i64 h.height, .slice h.sa h.sets.length h.sc, .slice h.ra h.roofs.length h.rc] 25)).alloc (.cells #[.slice s.ca s.cues.length s.cc, .slice s.pa s.pairs.length s.pc] 29)) (w.heap.size + 1) s by unfold SheetAt; simp).carry z, (hh.grow hb0).grow z, (hs.grow hb0).grow z, (hG.grow hb0).grow z⟩
 have HW : Hid (∀ w', Below ((w.alloc (.cells #[.string h.name, .int .i64 h.height, .slice h.sa h.sets.length h.sc, .slice h.ra h.roofs.length h.rc] 25)).alloc (.cells #[.slice s.ca s.cues.length s.cc, .slice s.pa s.pairs.length s.pc] 29)).heap.size ((w.alloc (.cells #[.string h.name, .int .i64 h.height, .slice h.sa h.sets.length h.sc, .slice h.ra h.roofs.length h.rc] 25)).alloc (.cells #[.slice s.ca s.cues.length s.cc, .slice s.pa s.pairs.length s.pc] 29)) w' → Below w.heap.size w w') := Lib.hid fun w' z => hb0.trans (z.mono hb0.size)
 have HP := Lib.hid fun (q : planE h s G = 0) => plan_sheet q
 have hcl := hs.clen
 clear hh hs hG hb0
 obtain ⟨E, hE⟩ : ∃ E, planE h s G = E := ⟨_, rfl⟩
 by_cases hz : E = 0
 case neg =>
  have HE := Lib.hid hE
  have HEP : Hid (sheetP h s G (·.crew) = []) := Lib.hid (by unfold sheetP; rw [hE, if_neg hz])
  have g0 : (E != 0) = true := bne_iff_ne.2 hz
  clear hz hE
  go_enter Tryz.func20, Tryz.ntmps20
  go_upto_region 1 with (fail)
  obtain ⟨W0, hW0⟩ : ∃ W0 : World, ((w.alloc (.cells #[.string h.name, .int .i64 h.height, .slice h.sa h.sets.length h.sc, .slice h.ra h.roofs.length h.rc] 25)).alloc (.cells #[.slice s.ca s.cues.length s.cc, .slice s.pa s.pairs.length s.pc] 29)) = W0 := ⟨_, rfl⟩
  simp only [hW0] at HX HW ⊢
  clear hW0
  obtain ⟨B1, hB1⟩ : ∃ b, w.heap.size = b := ⟨_, rfl⟩
  obtain ⟨B2, hB2⟩ : ∃ b, w.heap.size + 1 = b := ⟨_, rfl⟩
  rw [hB2] at HX ⊢
  rw [hB1] at HX ⊢
  clear hB1 hB2
  obtain ⟨⟨a0, a1, a2, a3⟩, ⟨s0, s1⟩, -, -, -⟩ := HX.out _ (Below.refl _ _)
  have HBG := Lib.hid (begins_any h s ga G gc _ (HX.out _ (Below.refl _ _)).2.2.1 (HX.out _ (Below.refl _ _)).2.2.2.1 (HX.out _ (Below.refl _ _)).2.2.2.2 hgl)
  go_wp2_with (go_at_call 34; (with_reducible refine HBG.out.mono ?_); rintro e w1 ⟨hx1, hb1⟩; obtain ⟨v1, rfl, -⟩ := hx1.out; clear hx1; rw [HE.out])
  go_ret2
  exact ⟨Lib.hid ⟨.slice none 0 0, by first | rfl | (rw [HE.out]; rfl), by rw [HEP.out]; exact World.ownsRow_nil _ _ _ _⟩, HW.out _ hb1⟩
 case pos =>
  subst hz
  have HE := Lib.hid hE
  have HEP : Hid (sheetP h s G (·.crew) = stepsP (usesL h s G (·.crew) s.cues.length)) := Lib.hid (by unfold sheetP; rw [hE, if_pos rfl])
  have HB0 : Hid (begsP h s G = begsL h s G s.cues.length) := Lib.hid (by unfold begsP; rw [hE, if_pos rfl])
  have HE0 : Hid (endsP h s G = endsL h s G s.cues.length) := Lib.hid (by unfold endsP; rw [hE, if_pos rfl])
  have HQ := Lib.hid (HP.out hE)
  clear hE HP
  obtain ⟨i0, hi, hz0, hz1, hz2⟩ := info_parts use_info
  have HI := Lib.hid (And.intro hi (And.intro hz0 (And.intro hz1 hz2)))
  clear hi hz0 hz1 hz2
  go_enter Tryz.func20, Tryz.ntmps20
  go_upto_region 1 with (fail)
  obtain ⟨W0, hW0⟩ : ∃ W0 : World, ((w.alloc (.cells #[.string h.name, .int .i64 h.height, .slice h.sa h.sets.length h.sc, .slice h.ra h.roofs.length h.rc] 25)).alloc (.cells #[.slice s.ca s.cues.length s.cc, .slice s.pa s.pairs.length s.pc] 29)) = W0 := ⟨_, rfl⟩
  simp only [hW0] at HX HW ⊢
  clear hW0
  obtain ⟨B1, hB1⟩ : ∃ b, w.heap.size = b := ⟨_, rfl⟩
  obtain ⟨B2, hB2⟩ : ∃ b, w.heap.size + 1 = b := ⟨_, rfl⟩
  rw [hB2] at HX ⊢
  rw [hB1] at HX ⊢
  clear hB1 hB2
  obtain ⟨⟨a0, a1, a2, a3⟩, ⟨s0, s1⟩, -, -, -⟩ := HX.out _ (Below.refl _ _)
  have HBG := Lib.hid (begins_any h s ga G gc _ (HX.out _ (Below.refl _ _)).2.2.1 (HX.out _ (Below.refl _ _)).2.2.2.1 (HX.out _ (Below.refl _ _)).2.2.2.2 hgl)
  obtain ⟨ca, hca⟩ : ∃ a, s.ca = a := ⟨_, rfl⟩
  have HCA := Lib.hid hca
  have HEN := Lib.hid fun (w' : World) (z : Below W0.heap.size W0 w') => ends_any h s ga G gc w' (HX.out _ z).2.2.1 (HX.out _ z).2.2.2.1 (HX.out _ z).2.2.2.2 hgl
  rw [hca] at s0 HBG HEN ⊢
  clear hca
  go_upto_region 8 with (first
   | (go_at_call 34; (with_reducible refine HBG.out.mono ?_); rintro e w1 ⟨hx1, hb1⟩; obtain ⟨v1, rfl, ho1⟩ := hx1.out; have HO1 := Lib.hid ho1; clear hx1 ho1; rw [HE.out]; obtain ⟨⟨x0, x1, x2, x3⟩, ⟨y0, y1⟩, -, -, -⟩ := HX.out _ hb1; rw [HCA.out] at y0)
   | (go_at_call 35; (with_reducible refine (HEN.out _ hb1).mono ?_); rintro e w2 ⟨hx2, hb2⟩; obtain ⟨v2, rfl, ho2⟩ := hx2.out; have HO2 := Lib.hid ho2; clear hx2 ho2; rw [HE.out]))
  clear a0 a1 a2 a3 s0 s1 x0 x1 x2 x3 y0 y1 HBG HEN
  obtain ⟨ba, bc, hv1, -, -, -, hb1s⟩ := beg_of_row HO1.out
  subst hv1
  obtain ⟨ea, ec, hv2, -, -, -, he2s⟩ := num_of_row HO2.out
  subst hv2
  rw [HB0.out] at hb1s ⊢
  rw [HE0.out] at he2s ⊢
  rw [begsL_len, endsL_len]
  have hb1g := hb1s.grow hb2
  have hX2 : Hid (Below W0.heap.size W0 w2) := Lib.hid (hb1.trans (hb2.mono hb1.size))
  have HXX : Hid (∀ w', Below w2.heap.size w2 w' → Below w.heap.size w w' ∧ Begs w'.heap.size w' ba (begsL h s G s.cues.length) ∧ Nums w'.heap.size w' ea (endsL h s G s.cues.length) ∧ SheetAt w' B2 s ∧ SheetIn w' s) := Lib.hid fun w' z => by
   have y := hX2.out.trans (z.mono hX2.out.size)
   obtain ⟨-, y2, -, y4, -⟩ := HX.out w' y
   exact ⟨HW.out w' y, hb1g.grow z, he2s.grow z, y2, y4⟩
  clear HX HW hX2 hb1 hb2 hb1s he2s hb1g HO1 HO2 HB0 HE0
  obtain ⟨n₂, hn2⟩ : ∃ n, w2.heap.size = n := ⟨_, rfl⟩
  rw [hn2] at HXX
  have hB2 : Below n₂ w2 w2 := by rw [← hn2]; exact Below.refl _ _
  have hnn : n₂ ≤ w2.heap.size := by omega
  have HBN : Hid (w.heap.size ≤ n₂) := Lib.hid (by have := (HXX.out _ hB2).1.size; omega)
  clear hn2
  obtain ⟨-, -, -, ⟨s0, s1⟩, -⟩ := HXX.out _ hB2
  rw [HCA.out] at s0
  go_upto_region 9 with (fail)
  clear s0 s1
  go_loopw [13, 14, 15, 39] (fun v13 _ _ iv wr => ∃ (k : Nat), iv = .int .i64 k ∧ k ≤ s.cues.length ∧ Below n₂ w2 wr ∧ n₂ ≤ wr.heap.size ∧ Hid (wr.ownsRow n₂ 83 3 v13 k (ugflat (usesL h s G (·.crew) k)))) (fun _ _ _ iv _ => s.cues.length - (intOf iv).toNat)
  case atStart => exact ⟨0, rfl, Nat.zero_le _, hB2, hnn, Lib.hid (World.ownsRow_nil _ _ _ _)⟩
  case round =>
   clear hB2 hnn
   obtain ⟨k, rfl, hk, hB, hnw, HR⟩ := hrel
   by_cases hlt : k < s.cues.length
   ·obtain ⟨-, hS, hN, -, hsi⟩ := HXX.out _ hB
    obtain ⟨b, off, ha, hb, hc⟩ := hsi.lies (by omega)
    rw [HCA.out] at ha
    subst ha
    obtain ⟨d0, d1, d2, d3, d4, d5, d6⟩ := hc k hlt
    have hls : k < (begsL h s G s.cues.length).length := by rw [begsL_len]; exact hlt
    have hln : k < (endsL h s G s.cues.length).length := by rw [endsL_len]; exact hlt
    obtain ⟨sb, so, hsa, hsb, hsx⟩ := hS (by omega)
    subst hsa
    obtain ⟨nb, no, hna, hnb, hnx⟩ := hN (by omega)
    subst hna
    have q1 := HQ.out.2.lens k hlt
    have q2 := HQ.out.2.starts k hlt
    have HSN := Lib.hid (usesL_snoc h s G (·.crew) k)
    have HBK : Hid ((beg (begsL h s G s.cues.length) k).2 = ig (planS h s G) k) := Lib.hid (begsL_at h s G hlt)
    have HEK : Hid (ig (endsL h s G s.cues.length) k = ig (planS h s G) k + ig (planN h s) k) := Lib.hid (endsL_at h s G hlt)
    obtain ⟨q, hq⟩ : ∃ q, cg s.cues k = q := ⟨_, rfl⟩
    rw [hq] at d0 d1 d2 d3 d4 d5 d6 HSN
    obtain ⟨x, hx⟩ : ∃ x, ig (planS h s G) k = x := ⟨_, rfl⟩
    obtain ⟨y, hy⟩ : ∃ x, ig (planN h s) k = x := ⟨_, rfl⟩
    rw [hx] at q2
    rw [hy] at q1
    rw [hx, hy] at HSN HEK
    rw [hx] at HBK
    obtain ⟨z, hz⟩ : ∃ z, x + y = z := ⟨_, rfl⟩
    rw [hz] at HSN HEK
    have b2 : decide ((1099511627776 : Int) < z) = false := decide_eq_false (by omega)
    clear hS hN hsi hc hsx hnx hq hx hy q1 q2 hz
    have HKL : Hid ((usesL h s G (·.crew) k).length = k) := Lib.hid (usesL_len _ _ _ _ _)
    have hB3 := hB.alloc hnw (.cells #[.string q.name, .string q.after, .int .i64 q.link, .int .i64 q.delay, .slice q.ma q.moves.length q.mc, .int .i64 q.crew, .int .i64 q.power] 49)
    have hbn := below_new wr (.cells #[.string q.name, .string q.after, .int .i64 q.link, .int .i64 q.delay, .slice q.ma q.moves.length q.mc, .int .i64 q.crew, .int .i64 q.power] 49)
    have HC3 := CueAt.new wr q 49 _ rfl
    have hn3 : n₂ + 1 ≤ (wr.alloc (.cells #[.string q.name, .string q.after, .int .i64 q.link, .int .i64 q.delay, .slice q.ma q.moves.length q.mc, .int .i64 q.crew, .int .i64 q.power] 49)).heap.size := by simp; omega
    have HR3 := Lib.hid (ownsRow_below HR.out hbn)
    have HNE : Hid (u13.ownBlock ≠ some wr.heap.size) := Lib.hid fun e => by have := (HR.out.lt _ e).2; omega
    go_upto_region 11 with (fail)
    clear d0 d1 d2 d3 d4 d5 d6 HR hbn hB hnw hb
    generalize wr.alloc (.cells #[.string q.name, .string q.after, .int .i64 q.link, .int .i64 q.delay, .slice q.ma q.moves.length q.mc, .int .i64 q.crew, .int .i64 q.power] 49) = W3 at *
    obtain ⟨B12, hB12⟩ : ∃ b, wr.heap.size = b := ⟨_, rfl⟩
    rw [hB12] at HC3 HNE ⊢
    clear hB12
    obtain ⟨-, hS, hN, -, -⟩ := HXX.out _ hB3
    obtain ⟨tb, tf, e1, -, ex⟩ := hS (by omega)
    cases e1
    have x2 := (ex k hls).2
    obtain ⟨tb, tf, e1, -, ey⟩ := hN (by omega)
    cases e1
    have y2 := ey k hln
    rw [HBK.out] at x2
    rw [HEK.out] at y2
    clear hS hN ex ey
    go_cut [60] (fun v wx => v = .bool false ∧ ∃ n, wx = W3.drewN n)
    case first =>
     by_cases r1 : x < z
     ·have b1 : decide (x < z) = true := decide_eq_true r1
      clear r1
      go_wp2_with (go_quiet (fail))
      go_meet
      exact ⟨rfl, _, rfl⟩
     ·have b1 : decide (x < z) = false := decide_eq_false r1
      clear r1
      go_wp2_with (go_quiet (fail))
      go_meet
      exact ⟨rfl, _, rfl⟩
    case rest =>
     obtain ⟨rfl, nd, rfl⟩ := hcut
     have hbq := below_drewN (Below.refl W3.heap.size W3) nd
     have hB6 := hB3.trans (hbq.mono (by omega))
     have hn6 : n₂ + 1 ≤ (W3.drewN nd).heap.size := hn3
     have HR6 := Lib.hid (ownsRow_below HR3.out hbq)
     have HC6 := HC3.carry hbq
     clear hbq x2 y2 b2 hB3 hn3 HR3 HC3
     generalize W3.drewN nd = W6 at *
     go_upto_region 13 with (fail)
     have HHQ : HeldQ n₂ w2 B12 q W6 := ⟨hB6, hn6, HC6⟩
     have HOd := Lib.hid (ownsRow_below HR6.out (below_drewR W6))
     have x2 : ∀ w', HeldQ n₂ w2 B12 q w' → w'.cell? ⟨sb, so + k * 2 + 1, none⟩ = some (.int .i64 x) := fun w' z => by
      obtain ⟨tb', tf', e, _, ex⟩ := (HXX.out w' z.old).2.1 (by omega)
      cases e
      have := (ex k hls).2
      rw [HBK.out] at this
      exact this
     have y2 : ∀ w', HeldQ n₂ w2 B12 q w' → w'.cell? ⟨nb, no + k, none⟩ = some (.int .i64 z) := fun w' z => by
      obtain ⟨tb', tf', e, _, ex⟩ := (HXX.out w' z.old).2.2.1 (by omega)
      cases e
      have := ex k hln
      rw [HEK.out] at this
      exact this
     have c0 : ∀ w', HeldQ n₂ w2 B12 q w' → w'.cell? ⟨B12, 0, none⟩ = some (.string q.name) := fun w' z => z.cu.1
     have c1 : ∀ w', HeldQ n₂ w2 B12 q w' → w'.cell? ⟨B12, 1, none⟩ = some (.string q.after) := fun w' z => z.cu.2.1
     have c2 : ∀ w', HeldQ n₂ w2 B12 q w' → w'.cell? ⟨B12, 2, none⟩ = some (.int .i64 q.link) := fun w' z => z.cu.2.2.1
     have c3 : ∀ w', HeldQ n₂ w2 B12 q w' → w'.cell? ⟨B12, 3, none⟩ = some (.int .i64 q.delay) := fun w' z => z.cu.2.2.2.1
     have c4 : ∀ w', HeldQ n₂ w2 B12 q w' → w'.cell? ⟨B12, 4, none⟩ = some (.slice q.ma q.moves.length q.mc) := fun w' z => z.cu.2.2.2.2.1
     have c5 : ∀ w', HeldQ n₂ w2 B12 q w' → w'.cell? ⟨B12, 5, none⟩ = some (.int .i64 q.crew) := fun w' z => z.cu.2.2.2.2.2.1
     have c6 : ∀ w', HeldQ n₂ w2 B12 q w' → w'.cell? ⟨B12, 6, none⟩ = some (.int .i64 q.power) := fun w' z => z.cu.2.2.2.2.2.2
     refine wp_region_held_drew (S := (HeldQ n₂ w2 B12 q)) (by kernel_rfl) (HHQ.next (below_drewR W6)) (fun hHeld => ?_)
     obtain ⟨W5, hW5⟩ : ∃ x, W6.drew = x := ⟨_, rfl⟩
     simp only [hW5] at hHeld HOd ⊢
     clear hW5
     refine tk 0 ?_; refine tk 1 ?_; refine tk 2 ?_; refine tk 3 ?_; refine tk 4 ?_; refine tk 5 ?_; refine tk 6 ?_; refine tk 7 ?_; refine tk 8 ?_; refine tk 9 ?_; refine tk 10 ?_; refine tk 11 ?_
     clear x2 y2 c0 c1 c2 c3 c4 c5 c6
     refine wpAnyH_ready (rs := [12]) (by kernel_rfl) (by simp) ?_
     refine AllReadyH.cons (o := _) rfl (fun K hK => ?_) AllReadyH.nil
     try simp only [List.getElem_toArray, List.getElem_cons_succ, List.getElem_cons_zero]
     go_simp
     (go_at_call 21; go_split_ands; (with_reducible refine (crew_one q _).mono ?_); rintro e y1 ⟨rfl, hy1⟩; have hH1 := hHeld.next hy1; have HO1 := Lib.hid (ownsRow_below HOd.out hy1))
     go_wp2_with fail
     refine hK.out _ _ hH1 (fun hHeld => ?_)
     clear hK K
     try simp only [Act.put, List.setIfInBounds_toArray, List.set_cons_zero, List.set_cons_succ, List.getElem_toArray, List.getElem_cons_succ, List.getElem_cons_zero]
     refine tk 13 ?_
     refine wpAnyH_ready (rs := [14]) (by kernel_rfl) (by simp) ?_
     refine AllReadyH.cons (o := _) rfl (fun K hK => ?_) AllReadyH.nil
     rw [if_pos (by rfl)]
     go_wp2_with fail
     have hHN := hH1.next (below_new y1 (.cells #[.int .i64 x, .int .i64 z, .int .i64 q.crew] 83))
     have HO6 := Lib.hid (ownsRow_below HO1.out (below_new y1 (.cells #[.int .i64 x, .int .i64 z, .int .i64 q.crew] 83)))
     refine hK.out _ _ hHN (fun hHeld => ?_)
     clear hK K
     try simp only [Act.put, List.setIfInBounds_toArray, List.set_cons_zero, List.set_cons_succ, List.getElem_toArray, List.getElem_cons_succ, List.getElem_cons_zero]
     refine wpAnyH_ready (rs := [15]) (by kernel_rfl) (by simp) ?_
     refine AllReadyH.cons (o := _) rfl (fun K hK => ?_) AllReadyH.nil
     refine step_append_lies _ rfl (.tmp 61) (.tmp 75) 81 rfl n₂ 83 i0 (.agg #[.int .i64 0, .int .i64 0, .int .i64 0]) 3 24 Tryz.underlying81 HI.out.1 HI.out.2.1 HI.out.2.2.1 HI.out.2.2.2 rfl (by decide) u13 k (ugflat (usesL h s G (·.crew) k)) ?_ HO6.out ⟨y1.heap.size, 0, none⟩ 1 1 [.int .i64 x, .int .i64 z, .int .i64 q.crew] ?_ rfl (cell_three_new y1 _ _ _ _) ?_ (by omega) ?_ ?_ ?_ _ rfl ?_
     ·simp [Act.eval]
     ·simp [Act.eval]
     ·simp [Value.oneCell']
     ·unfold maxLen; omega
     ·omega
     ·have := hHN.lo; omega
     intro g7 cap7 w7 hown7 hgr7 hat7 hg7
     have hS7 : HeldQ n₂ w2 B12 q w7 := ⟨hHN.old.grown hgr7 (by have := hHN.lo; omega) (fun j hj => (HO6.out.lt _ hj).1), Nat.le_trans hHN.lo hgr7.size, cueAt_grown hHN.cu hgr7 (fun e => HNE.out e.symm)⟩
     have HO7 := Lib.hid hown7
     clear hown7 hgr7 hg7 hat7
     refine hK.out _ _ hS7 (fun hHeld => ?_)
     clear hK K
     try simp only [Act.put, List.setIfInBounds_toArray, List.set_cons_zero, List.set_cons_succ, List.getElem_toArray, List.getElem_cons_succ, List.getElem_cons_zero]
     refine tk 16 ?_
     refine wpAnyH_done (by kernel_rfl) ?_ _
     have hB9 := hS7.old
     have hn9 : n₂ ≤ w7.heap.size := by have := hS7.lo; omega
     go_wp2_with fail
     go_roundw
     case rel => exact ⟨k + 1, by go_num, by omega, hB9, hn9, Lib.hid (by rw [HSN.out, ugflat_snoc]; exact HO7.out)⟩
     case measure => simp [intOf]; omega
   ·obtain rfl : k = s.cues.length := by omega
    have hul : (usesL h s G (·.crew) s.cues.length).length = s.cues.length := usesL_len _ _ _ _ _
    obtain ⟨ua, uc, hv, -, -, -, hus⟩ := use_of_row (L := usesL h s G (·.crew) s.cues.length) (by rw [hul]; exact HR.out)
    rw [hul] at hv
    subst hv
    have HST := Lib.hid (steps_any ua (usesL h s G (·.crew) s.cues.length) uc wr (by rw [hul]; exact hcl) (usesL_bd HQ.out.1 (fun q z => z.crew)) hus)
    rw [hul] at HST
    clear hul hus
    go_wp2_with (go_at_call 31; (with_reducible refine HST.out.mono ?_); rintro e w9 hx9; obtain ⟨v9, rfl, ho9, hb9⟩ := hx9.out; have HO9 := Lib.hid ho9; clear hx9 ho9)
    go_ret2
    exact ⟨Lib.hid ⟨_, by first | rfl | (rw [HE.out]; rfl), by rw [HEP.out]; exact ownsRow_base HO9.out (by have := HBN.out; omega)⟩, (HXX.out _ hB).1.trans (hb9.mono (HXX.out _ hB).1.size)⟩
set_option maxRecDepth 100000 in
set_option maxHeartbeats 16000000 in
theorem sheet_power (h : HouseR) (s : SheetR) (ga : Option Addr) (G : List Int) (gc : Nat) (w : World) (hh : HouseIn w h) (hs : SheetIn w s) (hG : Nums w.heap.size w ga G) (hgl : G.length ≤ 1000) :
  Calls Tryz.prog 20 #[.agg #[.string h.name, .int .i64 h.height, .slice h.sa h.sets.length h.sc, .slice h.ra h.roofs.length h.rc], .agg #[.slice s.ca s.cues.length s.cc, .slice s.pa s.pairs.length s.pc], .slice ga G.length gc, .func (.func 22) #[] #[]] w fun e w' => Hid (∃ v, e = .returned (.tuple #[v, .int .i64 (planE h s G)]) ∧ w'.ownsRow w.heap.size 41 2 v (sheetP h s G (·.power)).length (oflat (sheetP h s G (·.power)))) ∧ Below w.heap.size w w' := by
 have hb0 : Below w.heap.size w ((w.alloc (.cells #[.string h.name, .int .i64 h.height, .slice h.sa h.sets.length h.sc, .slice h.ra h.roofs.length h.rc] 25)).alloc (.cells #[.slice s.ca s.cues.length s.cc, .slice s.pa s.pairs.length s.pc] 29)) := (below_new w _).alloc (by simp) _
 have HX : Hid (∀ w', Below ((w.alloc (.cells #[.string h.name, .int .i64 h.height, .slice h.sa h.sets.length h.sc, .slice h.ra h.roofs.length h.rc] 25)).alloc (.cells #[.slice s.ca s.cues.length s.cc, .slice s.pa s.pairs.length s.pc] 29)).heap.size ((w.alloc (.cells #[.string h.name, .int .i64 h.height, .slice h.sa h.sets.length h.sc, .slice h.ra h.roofs.length h.rc] 25)).alloc (.cells #[.slice s.ca s.cues.length s.cc, .slice s.pa s.pairs.length s.pc] 29)) w' → HouseAt w' w.heap.size h ∧ SheetAt w' (w.heap.size + 1) s ∧ HouseIn w' h ∧ SheetIn w' s ∧ Nums w'.heap.size w' ga G) := Lib.hid fun w' z =>
  ⟨((HouseAt.new w h _).carry (below_new _ _)).carry z, (show SheetAt ((w.alloc (.cells #[.string h.name, .int .i64 h.height, .slice h.sa h.sets.length h.sc, .slice h.ra h.roofs.length h.rc] 25)).alloc (.cells #[.slice s.ca s.cues.length s.cc, .slice s.pa s.pairs.length s.pc] 29)) (w.heap.size + 1) s by unfold SheetAt; simp).carry z, (hh.grow hb0).grow z, (hs.grow hb0).grow z, (hG.grow hb0).grow z⟩
 have HW : Hid (∀ w', Below ((w.alloc (.cells #[.string h.name, .int .i64 h.height, .slice h.sa h.sets.length h.sc, .slice h.ra h.roofs.length h.rc] 25)).alloc (.cells #[.slice s.ca s.cues.length s.cc, .slice s.pa s.pairs.length s.pc] 29)).heap.size ((w.alloc (.cells #[.string h.name, .int .i64 h.height, .slice h.sa h.sets.length h.sc, .slice h.ra h.roofs.length h.rc] 25)).alloc (.cells #[.slice s.ca s.cues.length s.cc, .slice s.pa s.pairs.length s.pc] 29)) w' → Below w.heap.size w w') := Lib.hid fun w' z => hb0.trans (z.mono hb0.size)
 have HP := Lib.hid fun (q : planE h s G = 0) => plan_sheet q
 have hcl := hs.clen
 clear hh hs hG hb0
 obtain ⟨E, hE⟩ : ∃ E, planE h s G = E := ⟨_, rfl⟩
 by_cases hz : E = 0
 case neg =>
  have HE := Lib.hid hE
  have HEP : Hid (sheetP h s G (·.power) = []) := Lib.hid (by unfold sheetP; rw [hE, if_neg hz])
  have g0 : (E != 0) = true := bne_iff_ne.2 hz
  clear hz hE
  go_enter Tryz.func20, Tryz.ntmps20
  go_upto_region 1 with (fail)
  obtain ⟨W0, hW0⟩ : ∃ W0 : World, ((w.alloc (.cells #[.string h.name, .int .i64 h.height, .slice h.sa h.sets.length h.sc, .slice h.ra h.roofs.length h.rc] 25)).alloc (.cells #[.slice s.ca s.cues.length s.cc, .slice s.pa s.pairs.length s.pc] 29)) = W0 := ⟨_, rfl⟩
  simp only [hW0] at HX HW ⊢
  clear hW0
  obtain ⟨B1, hB1⟩ : ∃ b, w.heap.size = b := ⟨_, rfl⟩
  obtain ⟨B2, hB2⟩ : ∃ b, w.heap.size + 1 = b := ⟨_, rfl⟩
  rw [hB2] at HX ⊢
  rw [hB1] at HX ⊢
  clear hB1 hB2
  obtain ⟨⟨a0, a1, a2, a3⟩, ⟨s0, s1⟩, -, -, -⟩ := HX.out _ (Below.refl _ _)
  have HBG := Lib.hid (begins_any h s ga G gc _ (HX.out _ (Below.refl _ _)).2.2.1 (HX.out _ (Below.refl _ _)).2.2.2.1 (HX.out _ (Below.refl _ _)).2.2.2.2 hgl)
  go_wp2_with (go_at_call 34; (with_reducible refine HBG.out.mono ?_); rintro e w1 ⟨hx1, hb1⟩; obtain ⟨v1, rfl, -⟩ := hx1.out; clear hx1; rw [HE.out])
  go_ret2
  exact ⟨Lib.hid ⟨.slice none 0 0, by first | rfl | (rw [HE.out]; rfl), by rw [HEP.out]; exact World.ownsRow_nil _ _ _ _⟩, HW.out _ hb1⟩
 case pos =>
  subst hz
  have HE := Lib.hid hE
  have HEP : Hid (sheetP h s G (·.power) = stepsP (usesL h s G (·.power) s.cues.length)) := Lib.hid (by unfold sheetP; rw [hE, if_pos rfl])
  have HB0 : Hid (begsP h s G = begsL h s G s.cues.length) := Lib.hid (by unfold begsP; rw [hE, if_pos rfl])
  have HE0 : Hid (endsP h s G = endsL h s G s.cues.length) := Lib.hid (by unfold endsP; rw [hE, if_pos rfl])
  have HQ := Lib.hid (HP.out hE)
  clear hE HP
  obtain ⟨i0, hi, hz0, hz1, hz2⟩ := info_parts use_info
  have HI := Lib.hid (And.intro hi (And.intro hz0 (And.intro hz1 hz2)))
  clear hi hz0 hz1 hz2
  go_enter Tryz.func20, Tryz.ntmps20
  go_upto_region 1 with (fail)
  obtain ⟨W0, hW0⟩ : ∃ W0 : World, ((w.alloc (.cells #[.string h.name, .int .i64 h.height, .slice h.sa h.sets.length h.sc, .slice h.ra h.roofs.length h.rc] 25)).alloc (.cells #[.slice s.ca s.cues.length s.cc, .slice s.pa s.pairs.length s.pc] 29)) = W0 := ⟨_, rfl⟩
  simp only [hW0] at HX HW ⊢
  clear hW0
  obtain ⟨B1, hB1⟩ : ∃ b, w.heap.size = b := ⟨_, rfl⟩
  obtain ⟨B2, hB2⟩ : ∃ b, w.heap.size + 1 = b := ⟨_, rfl⟩
  rw [hB2] at HX ⊢
  rw [hB1] at HX ⊢
  clear hB1 hB2
  obtain ⟨⟨a0, a1, a2, a3⟩, ⟨s0, s1⟩, -, -, -⟩ := HX.out _ (Below.refl _ _)
  have HBG := Lib.hid (begins_any h s ga G gc _ (HX.out _ (Below.refl _ _)).2.2.1 (HX.out _ (Below.refl _ _)).2.2.2.1 (HX.out _ (Below.refl _ _)).2.2.2.2 hgl)
  obtain ⟨ca, hca⟩ : ∃ a, s.ca = a := ⟨_, rfl⟩
  have HCA := Lib.hid hca
  have HEN := Lib.hid fun (w' : World) (z : Below W0.heap.size W0 w') => ends_any h s ga G gc w' (HX.out _ z).2.2.1 (HX.out _ z).2.2.2.1 (HX.out _ z).2.2.2.2 hgl
  rw [hca] at s0 HBG HEN ⊢
  clear hca
  go_upto_region 8 with (first
   | (go_at_call 34; (with_reducible refine HBG.out.mono ?_); rintro e w1 ⟨hx1, hb1⟩; obtain ⟨v1, rfl, ho1⟩ := hx1.out; have HO1 := Lib.hid ho1; clear hx1 ho1; rw [HE.out]; obtain ⟨⟨x0, x1, x2, x3⟩, ⟨y0, y1⟩, -, -, -⟩ := HX.out _ hb1; rw [HCA.out] at y0)
   | (go_at_call 35; (with_reducible refine (HEN.out _ hb1).mono ?_); rintro e w2 ⟨hx2, hb2⟩; obtain ⟨v2, rfl, ho2⟩ := hx2.out; have HO2 := Lib.hid ho2; clear hx2 ho2; rw [HE.out]))
  clear a0 a1 a2 a3 s0 s1 x0 x1 x2 x3 y0 y1 HBG HEN
  obtain ⟨ba, bc, hv1, -, -, -, hb1s⟩ := beg_of_row HO1.out
  subst hv1
  obtain ⟨ea, ec, hv2, -, -, -, he2s⟩ := num_of_row HO2.out
  subst hv2
  rw [HB0.out] at hb1s ⊢
  rw [HE0.out] at he2s ⊢
  rw [begsL_len, endsL_len]
  have hb1g := hb1s.grow hb2
  have hX2 : Hid (Below W0.heap.size W0 w2) := Lib.hid (hb1.trans (hb2.mono hb1.size))
  have HXX : Hid (∀ w', Below w2.heap.size w2 w' → Below w.heap.size w w' ∧ Begs w'.heap.size w' ba (begsL h s G s.cues.length) ∧ Nums w'.heap.size w' ea (endsL h s G s.cues.length) ∧ SheetAt w' B2 s ∧ SheetIn w' s) := Lib.hid fun w' z => by
   have y := hX2.out.trans (z.mono hX2.out.size)
   obtain ⟨-, y2, -, y4, -⟩ := HX.out w' y
   exact ⟨HW.out w' y, hb1g.grow z, he2s.grow z, y2, y4⟩
  clear HX HW hX2 hb1 hb2 hb1s he2s hb1g HO1 HO2 HB0 HE0
  obtain ⟨n₂, hn2⟩ : ∃ n, w2.heap.size = n := ⟨_, rfl⟩
  rw [hn2] at HXX
  have hB2 : Below n₂ w2 w2 := by rw [← hn2]; exact Below.refl _ _
  have hnn : n₂ ≤ w2.heap.size := by omega
  have HBN : Hid (w.heap.size ≤ n₂) := Lib.hid (by have := (HXX.out _ hB2).1.size; omega)
  clear hn2
  obtain ⟨-, -, -, ⟨s0, s1⟩, -⟩ := HXX.out _ hB2
  rw [HCA.out] at s0
  go_upto_region 9 with (fail)
  clear s0 s1
  go_loopw [13, 14, 15, 39] (fun v13 _ _ iv wr => ∃ (k : Nat), iv = .int .i64 k ∧ k ≤ s.cues.length ∧ Below n₂ w2 wr ∧ n₂ ≤ wr.heap.size ∧ Hid (wr.ownsRow n₂ 83 3 v13 k (ugflat (usesL h s G (·.power) k)))) (fun _ _ _ iv _ => s.cues.length - (intOf iv).toNat)
  case atStart => exact ⟨0, rfl, Nat.zero_le _, hB2, hnn, Lib.hid (World.ownsRow_nil _ _ _ _)⟩
  case round =>
   clear hB2 hnn
   obtain ⟨k, rfl, hk, hB, hnw, HR⟩ := hrel
   by_cases hlt : k < s.cues.length
   ·obtain ⟨-, hS, hN, -, hsi⟩ := HXX.out _ hB
    obtain ⟨b, off, ha, hb, hc⟩ := hsi.lies (by omega)
    rw [HCA.out] at ha
    subst ha
    obtain ⟨d0, d1, d2, d3, d4, d5, d6⟩ := hc k hlt
    have hls : k < (begsL h s G s.cues.length).length := by rw [begsL_len]; exact hlt
    have hln : k < (endsL h s G s.cues.length).length := by rw [endsL_len]; exact hlt
    obtain ⟨sb, so, hsa, hsb, hsx⟩ := hS (by omega)
    subst hsa
    obtain ⟨nb, no, hna, hnb, hnx⟩ := hN (by omega)
    subst hna
    have q1 := HQ.out.2.lens k hlt
    have q2 := HQ.out.2.starts k hlt
    have HSN := Lib.hid (usesL_snoc h s G (·.power) k)
    have HBK : Hid ((beg (begsL h s G s.cues.length) k).2 = ig (planS h s G) k) := Lib.hid (begsL_at h s G hlt)
    have HEK : Hid (ig (endsL h s G s.cues.length) k = ig (planS h s G) k + ig (planN h s) k) := Lib.hid (endsL_at h s G hlt)
    obtain ⟨q, hq⟩ : ∃ q, cg s.cues k = q := ⟨_, rfl⟩
    rw [hq] at d0 d1 d2 d3 d4 d5 d6 HSN
    obtain ⟨x, hx⟩ : ∃ x, ig (planS h s G) k = x := ⟨_, rfl⟩
    obtain ⟨y, hy⟩ : ∃ x, ig (planN h s) k = x := ⟨_, rfl⟩
    rw [hx] at q2
    rw [hy] at q1
    rw [hx, hy] at HSN HEK
    rw [hx] at HBK
    obtain ⟨z, hz⟩ : ∃ z, x + y = z := ⟨_, rfl⟩
    rw [hz] at HSN HEK
    have b2 : decide ((1099511627776 : Int) < z) = false := decide_eq_false (by omega)
    clear hS hN hsi hc hsx hnx hq hx hy q1 q2 hz
    have HKL : Hid ((usesL h s G (·.power) k).length = k) := Lib.hid (usesL_len _ _ _ _ _)
    have hB3 := hB.alloc hnw (.cells #[.string q.name, .string q.after, .int .i64 q.link, .int .i64 q.delay, .slice q.ma q.moves.length q.mc, .int .i64 q.crew, .int .i64 q.power] 49)
    have hbn := below_new wr (.cells #[.string q.name, .string q.after, .int .i64 q.link, .int .i64 q.delay, .slice q.ma q.moves.length q.mc, .int .i64 q.crew, .int .i64 q.power] 49)
    have HC3 := CueAt.new wr q 49 _ rfl
    have hn3 : n₂ + 1 ≤ (wr.alloc (.cells #[.string q.name, .string q.after, .int .i64 q.link, .int .i64 q.delay, .slice q.ma q.moves.length q.mc, .int .i64 q.crew, .int .i64 q.power] 49)).heap.size := by simp; omega
    have HR3 := Lib.hid (ownsRow_below HR.out hbn)
    have HNE : Hid (u13.ownBlock ≠ some wr.heap.size) := Lib.hid fun e => by have := (HR.out.lt _ e).2; omega
    go_upto_region 11 with (fail)
    clear d0 d1 d2 d3 d4 d5 d6 HR hbn hB hnw hb
    generalize wr.alloc (.cells #[.string q.name, .string q.after, .int .i64 q.link, .int .i64 q.delay, .slice q.ma q.moves.length q.mc, .int .i64 q.crew, .int .i64 q.power] 49) = W3 at *
    obtain ⟨B12, hB12⟩ : ∃ b, wr.heap.size = b := ⟨_, rfl⟩
    rw [hB12] at HC3 HNE ⊢
    clear hB12
    obtain ⟨-, hS, hN, -, -⟩ := HXX.out _ hB3
    obtain ⟨tb, tf, e1, -, ex⟩ := hS (by omega)
    cases e1
    have x2 := (ex k hls).2
    obtain ⟨tb, tf, e1, -, ey⟩ := hN (by omega)
    cases e1
    have y2 := ey k hln
    rw [HBK.out] at x2
    rw [HEK.out] at y2
    clear hS hN ex ey
    go_cut [60] (fun v wx => v = .bool false ∧ ∃ n, wx = W3.drewN n)
    case first =>
     by_cases r1 : x < z
     ·have b1 : decide (x < z) = true := decide_eq_true r1
      clear r1
      go_wp2_with (go_quiet (fail))
      go_meet
      exact ⟨rfl, _, rfl⟩
     ·have b1 : decide (x < z) = false := decide_eq_false r1
      clear r1
      go_wp2_with (go_quiet (fail))
      go_meet
      exact ⟨rfl, _, rfl⟩
    case rest =>
     obtain ⟨rfl, nd, rfl⟩ := hcut
     have hbq := below_drewN (Below.refl W3.heap.size W3) nd
     have hB6 := hB3.trans (hbq.mono (by omega))
     have hn6 : n₂ + 1 ≤ (W3.drewN nd).heap.size := hn3
     have HR6 := Lib.hid (ownsRow_below HR3.out hbq)
     have HC6 := HC3.carry hbq
     clear hbq x2 y2 b2 hB3 hn3 HR3 HC3
     generalize W3.drewN nd = W6 at *
     go_upto_region 13 with (fail)
     have HHQ : HeldQ n₂ w2 B12 q W6 := ⟨hB6, hn6, HC6⟩
     have HOd := Lib.hid (ownsRow_below HR6.out (below_drewR W6))
     have x2 : ∀ w', HeldQ n₂ w2 B12 q w' → w'.cell? ⟨sb, so + k * 2 + 1, none⟩ = some (.int .i64 x) := fun w' z => by
      obtain ⟨tb', tf', e, _, ex⟩ := (HXX.out w' z.old).2.1 (by omega)
      cases e
      have := (ex k hls).2
      rw [HBK.out] at this
      exact this
     have y2 : ∀ w', HeldQ n₂ w2 B12 q w' → w'.cell? ⟨nb, no + k, none⟩ = some (.int .i64 z) := fun w' z => by
      obtain ⟨tb', tf', e, _, ex⟩ := (HXX.out w' z.old).2.2.1 (by omega)
      cases e
      have := ex k hln
      rw [HEK.out] at this
      exact this
     have c0 : ∀ w', HeldQ n₂ w2 B12 q w' → w'.cell? ⟨B12, 0, none⟩ = some (.string q.name) := fun w' z => z.cu.1
     have c1 : ∀ w', HeldQ n₂ w2 B12 q w' → w'.cell? ⟨B12, 1, none⟩ = some (.string q.after) := fun w' z => z.cu.2.1
     have c2 : ∀ w', HeldQ n₂ w2 B12 q w' → w'.cell? ⟨B12, 2, none⟩ = some (.int .i64 q.link) := fun w' z => z.cu.2.2.1
     have c3 : ∀ w', HeldQ n₂ w2 B12 q w' → w'.cell? ⟨B12, 3, none⟩ = some (.int .i64 q.delay) := fun w' z => z.cu.2.2.2.1
     have c4 : ∀ w', HeldQ n₂ w2 B12 q w' → w'.cell? ⟨B12, 4, none⟩ = some (.slice q.ma q.moves.length q.mc) := fun w' z => z.cu.2.2.2.2.1
     have c5 : ∀ w', HeldQ n₂ w2 B12 q w' → w'.cell? ⟨B12, 5, none⟩ = some (.int .i64 q.crew) := fun w' z => z.cu.2.2.2.2.2.1
     have c6 : ∀ w', HeldQ n₂ w2 B12 q w' → w'.cell? ⟨B12, 6, none⟩ = some (.int .i64 q.power) := fun w' z => z.cu.2.2.2.2.2.2
     refine wp_region_held_drew (S := (HeldQ n₂ w2 B12 q)) (by kernel_rfl) (HHQ.next (below_drewR W6)) (fun hHeld => ?_)
     obtain ⟨W5, hW5⟩ : ∃ x, W6.drew = x := ⟨_, rfl⟩
     simp only [hW5] at hHeld HOd ⊢
     clear hW5
     refine tk 0 ?_; refine tk 1 ?_; refine tk 2 ?_; refine tk 3 ?_; refine tk 4 ?_; refine tk 5 ?_; refine tk 6 ?_; refine tk 7 ?_; refine tk 8 ?_; refine tk 9 ?_; refine tk 10 ?_; refine tk 11 ?_
     clear x2 y2 c0 c1 c2 c3 c4 c5 c6
     refine wpAnyH_ready (rs := [12]) (by kernel_rfl) (by simp) ?_
     refine AllReadyH.cons (o := _) rfl (fun K hK => ?_) AllReadyH.nil
     try simp only [List.getElem_toArray, List.getElem_cons_succ, List.getElem_cons_zero]
     go_simp
     (go_at_call 22; go_split_ands; (with_reducible refine (power_one q _).mono ?_); rintro e y1 ⟨rfl, hy1⟩; have hH1 := hHeld.next hy1; have HO1 := Lib.hid (ownsRow_below HOd.out hy1))
     go_wp2_with fail
     refine hK.out _ _ hH1 (fun hHeld => ?_)
     clear hK K
     try simp only [Act.put, List.setIfInBounds_toArray, List.set_cons_zero, List.set_cons_succ, List.getElem_toArray, List.getElem_cons_succ, List.getElem_cons_zero]
     refine tk 13 ?_
     refine wpAnyH_ready (rs := [14]) (by kernel_rfl) (by simp) ?_
     refine AllReadyH.cons (o := _) rfl (fun K hK => ?_) AllReadyH.nil
     rw [if_pos (by rfl)]
     go_wp2_with fail
     have hHN := hH1.next (below_new y1 (.cells #[.int .i64 x, .int .i64 z, .int .i64 q.power] 83))
     have HO6 := Lib.hid (ownsRow_below HO1.out (below_new y1 (.cells #[.int .i64 x, .int .i64 z, .int .i64 q.power] 83)))
     refine hK.out _ _ hHN (fun hHeld => ?_)
     clear hK K
     try simp only [Act.put, List.setIfInBounds_toArray, List.set_cons_zero, List.set_cons_succ, List.getElem_toArray, List.getElem_cons_succ, List.getElem_cons_zero]
     refine wpAnyH_ready (rs := [15]) (by kernel_rfl) (by simp) ?_
     refine AllReadyH.cons (o := _) rfl (fun K hK => ?_) AllReadyH.nil
     refine step_append_lies _ rfl (.tmp 61) (.tmp 75) 81 rfl n₂ 83 i0 (.agg #[.int .i64 0, .int .i64 0, .int .i64 0]) 3 24 Tryz.underlying81 HI.out.1 HI.out.2.1 HI.out.2.2.1 HI.out.2.2.2 rfl (by decide) u13 k (ugflat (usesL h s G (·.power) k)) ?_ HO6.out ⟨y1.heap.size, 0, none⟩ 1 1 [.int .i64 x, .int .i64 z, .int .i64 q.power] ?_ rfl (cell_three_new y1 _ _ _ _) ?_ (by omega) ?_ ?_ ?_ _ rfl ?_
     ·simp [Act.eval]
     ·simp [Act.eval]
     ·simp [Value.oneCell']
     ·unfold maxLen; omega
     ·omega
     ·have := hHN.lo; omega
     intro g7 cap7 w7 hown7 hgr7 hat7 hg7
     have hS7 : HeldQ n₂ w2 B12 q w7 := ⟨hHN.old.grown hgr7 (by have := hHN.lo; omega) (fun j hj => (HO6.out.lt _ hj).1), Nat.le_trans hHN.lo hgr7.size, cueAt_grown hHN.cu hgr7 (fun e => HNE.out e.symm)⟩
     have HO7 := Lib.hid hown7
     clear hown7 hgr7 hg7 hat7
     refine hK.out _ _ hS7 (fun hHeld => ?_)
     clear hK K
     try simp only [Act.put, List.setIfInBounds_toArray, List.set_cons_zero, List.set_cons_succ, List.getElem_toArray, List.getElem_cons_succ, List.getElem_cons_zero]
     refine tk 16 ?_
     refine wpAnyH_done (by kernel_rfl) ?_ _
     have hB9 := hS7.old
     have hn9 : n₂ ≤ w7.heap.size := by have := hS7.lo; omega
     go_wp2_with fail
     go_roundw
     case rel => exact ⟨k + 1, by go_num, by omega, hB9, hn9, Lib.hid (by rw [HSN.out, ugflat_snoc]; exact HO7.out)⟩
     case measure => simp [intOf]; omega
   ·obtain rfl : k = s.cues.length := by omega
    have hul : (usesL h s G (·.power) s.cues.length).length = s.cues.length := usesL_len _ _ _ _ _
    obtain ⟨ua, uc, hv, -, -, -, hus⟩ := use_of_row (L := usesL h s G (·.power) s.cues.length) (by rw [hul]; exact HR.out)
    rw [hul] at hv
    subst hv
    have HST := Lib.hid (steps_any ua (usesL h s G (·.power) s.cues.length) uc wr (by rw [hul]; exact hcl) (usesL_bd HQ.out.1 (fun q z => z.power)) hus)
    rw [hul] at HST
    clear hul hus
    go_wp2_with (go_at_call 31; (with_reducible refine HST.out.mono ?_); rintro e w9 hx9; obtain ⟨v9, rfl, ho9, hb9⟩ := hx9.out; have HO9 := Lib.hid ho9; clear hx9 ho9)
    go_ret2
    exact ⟨Lib.hid ⟨_, by first | rfl | (rw [HE.out]; rfl), by rw [HEP.out]; exact ownsRow_base HO9.out (by have := HBN.out; omega)⟩, (HXX.out _ hB).1.trans (hb9.mono (HXX.out _ hB).1.size)⟩
set_option maxRecDepth 100000 in
set_option maxHeartbeats 4000000 in
theorem Crew_any (h : HouseR) (s : SheetR) (ga : Option Addr) (G : List Int) (gc : Nat) (w : World) (hh : HouseIn w h) (hs : SheetIn w s) (hG : Nums w.heap.size w ga G) (hgl : G.length ≤ 1000) :
  Calls Tryz.prog 7 #[.agg #[.string h.name, .int .i64 h.height, .slice h.sa h.sets.length h.sc, .slice h.ra h.roofs.length h.rc], .agg #[.slice s.ca s.cues.length s.cc, .slice s.pa s.pairs.length s.pc], .slice ga G.length gc] w fun e w' => Hid (∃ v, e = .returned (.tuple #[v, .int .i64 (planE h s G)]) ∧ w'.ownsRow w.heap.size 41 2 v (sheetP h s G (·.crew)).length (oflat (sheetP h s G (·.crew)))) ∧ Below w.heap.size w w' := by
 have hb0 : Below w.heap.size w ((w.alloc (.cells #[.string h.name, .int .i64 h.height, .slice h.sa h.sets.length h.sc, .slice h.ra h.roofs.length h.rc] 25)).alloc (.cells #[.slice s.ca s.cues.length s.cc, .slice s.pa s.pairs.length s.pc] 29)) := (below_new w _).alloc (by simp) _
 have HX : Hid (∀ w', Below ((w.alloc (.cells #[.string h.name, .int .i64 h.height, .slice h.sa h.sets.length h.sc, .slice h.ra h.roofs.length h.rc] 25)).alloc (.cells #[.slice s.ca s.cues.length s.cc, .slice s.pa s.pairs.length s.pc] 29)).heap.size ((w.alloc (.cells #[.string h.name, .int .i64 h.height, .slice h.sa h.sets.length h.sc, .slice h.ra h.roofs.length h.rc] 25)).alloc (.cells #[.slice s.ca s.cues.length s.cc, .slice s.pa s.pairs.length s.pc] 29)) w' → HouseAt w' w.heap.size h ∧ SheetAt w' (w.heap.size + 1) s ∧ HouseIn w' h ∧ SheetIn w' s ∧ Nums w'.heap.size w' ga G) := Lib.hid fun w' z =>
  ⟨((HouseAt.new w h _).carry (below_new _ _)).carry z, (show SheetAt ((w.alloc (.cells #[.string h.name, .int .i64 h.height, .slice h.sa h.sets.length h.sc, .slice h.ra h.roofs.length h.rc] 25)).alloc (.cells #[.slice s.ca s.cues.length s.cc, .slice s.pa s.pairs.length s.pc] 29)) (w.heap.size + 1) s by unfold SheetAt; simp).carry z, (hh.grow hb0).grow z, (hs.grow hb0).grow z, (hG.grow hb0).grow z⟩
 have HW : Hid (∀ w', Below ((w.alloc (.cells #[.string h.name, .int .i64 h.height, .slice h.sa h.sets.length h.sc, .slice h.ra h.roofs.length h.rc] 25)).alloc (.cells #[.slice s.ca s.cues.length s.cc, .slice s.pa s.pairs.length s.pc] 29)).heap.size ((w.alloc (.cells #[.string h.name, .int .i64 h.height, .slice h.sa h.sets.length h.sc, .slice h.ra h.roofs.length h.rc] 25)).alloc (.cells #[.slice s.ca s.cues.length s.cc, .slice s.pa s.pairs.length s.pc] 29)) w' → Below w.heap.size w w') := Lib.hid fun w' z => hb0.trans (z.mono hb0.size)
 clear hb0 hh hs hG
 go_enter Tryz.func7, Tryz.ntmps7
 go_upto_region 1 with (fail)
 obtain ⟨W0, hW0⟩ : ∃ W0 : World, ((w.alloc (.cells #[.string h.name, .int .i64 h.height, .slice h.sa h.sets.length h.sc, .slice h.ra h.roofs.length h.rc] 25)).alloc (.cells #[.slice s.ca s.cues.length s.cc, .slice s.pa s.pairs.length s.pc] 29)) = W0 := ⟨_, rfl⟩
 simp only [hW0] at HX HW ⊢
 clear hW0
 obtain ⟨B1, hB1⟩ : ∃ b, w.heap.size = b := ⟨_, rfl⟩
 obtain ⟨B2, hB2⟩ : ∃ b, w.heap.size + 1 = b := ⟨_, rfl⟩
 rw [hB2] at HX ⊢
 rw [hB1] at HX ⊢
 clear hB1 hB2
 obtain ⟨⟨a0, a1, a2, a3⟩, ⟨s0, s1⟩, -, -, -⟩ := HX.out _ (Below.refl _ _)
 have HSH := Lib.hid (sheet_crew h s ga G gc _ (HX.out _ (Below.refl _ _)).2.2.1 (HX.out _ (Below.refl _ _)).2.2.2.1 (HX.out _ (Below.refl _ _)).2.2.2.2 hgl)
 go_wp2_with (go_at_call 20; (with_reducible refine HSH.out.mono ?_); rintro e w1 ⟨hx1, hb1⟩; obtain ⟨v1, rfl, ho1⟩ := hx1.out; have HO1 := Lib.hid ho1; clear hx1 ho1)
 go_ret2
 exact ⟨Lib.hid ⟨_, rfl, ownsRow_base HO1.out (HW.out _ (Below.refl _ _)).size⟩, HW.out _ hb1⟩
set_option maxRecDepth 100000 in
set_option maxHeartbeats 4000000 in
theorem Power_any (h : HouseR) (s : SheetR) (ga : Option Addr) (G : List Int) (gc : Nat) (w : World) (hh : HouseIn w h) (hs : SheetIn w s) (hG : Nums w.heap.size w ga G) (hgl : G.length ≤ 1000) :
  Calls Tryz.prog 8 #[.agg #[.string h.name, .int .i64 h.height, .slice h.sa h.sets.length h.sc, .slice h.ra h.roofs.length h.rc], .agg #[.slice s.ca s.cues.length s.cc, .slice s.pa s.pairs.length s.pc], .slice ga G.length gc] w fun e w' => Hid (∃ v, e = .returned (.tuple #[v, .int .i64 (planE h s G)]) ∧ w'.ownsRow w.heap.size 41 2 v (sheetP h s G (·.power)).length (oflat (sheetP h s G (·.power)))) ∧ Below w.heap.size w w' := by
 have hb0 : Below w.heap.size w ((w.alloc (.cells #[.string h.name, .int .i64 h.height, .slice h.sa h.sets.length h.sc, .slice h.ra h.roofs.length h.rc] 25)).alloc (.cells #[.slice s.ca s.cues.length s.cc, .slice s.pa s.pairs.length s.pc] 29)) := (below_new w _).alloc (by simp) _
 have HX : Hid (∀ w', Below ((w.alloc (.cells #[.string h.name, .int .i64 h.height, .slice h.sa h.sets.length h.sc, .slice h.ra h.roofs.length h.rc] 25)).alloc (.cells #[.slice s.ca s.cues.length s.cc, .slice s.pa s.pairs.length s.pc] 29)).heap.size ((w.alloc (.cells #[.string h.name, .int .i64 h.height, .slice h.sa h.sets.length h.sc, .slice h.ra h.roofs.length h.rc] 25)).alloc (.cells #[.slice s.ca s.cues.length s.cc, .slice s.pa s.pairs.length s.pc] 29)) w' → HouseAt w' w.heap.size h ∧ SheetAt w' (w.heap.size + 1) s ∧ HouseIn w' h ∧ SheetIn w' s ∧ Nums w'.heap.size w' ga G) := Lib.hid fun w' z =>
  ⟨((HouseAt.new w h _).carry (below_new _ _)).carry z, (show SheetAt ((w.alloc (.cells #[.string h.name, .int .i64 h.height, .slice h.sa h.sets.length h.sc, .slice h.ra h.roofs.length h.rc] 25)).alloc (.cells #[.slice s.ca s.cues.length s.cc, .slice s.pa s.pairs.length s.pc] 29)) (w.heap.size + 1) s by unfold SheetAt; simp).carry z, (hh.grow hb0).grow z, (hs.grow hb0).grow z, (hG.grow hb0).grow z⟩
 have HW : Hid (∀ w', Below ((w.alloc (.cells #[.string h.name, .int .i64 h.height, .slice h.sa h.sets.length h.sc, .slice h.ra h.roofs.length h.rc] 25)).alloc (.cells #[.slice s.ca s.cues.length s.cc, .slice s.pa s.pairs.length s.pc] 29)).heap.size ((w.alloc (.cells #[.string h.name, .int .i64 h.height, .slice h.sa h.sets.length h.sc, .slice h.ra h.roofs.length h.rc] 25)).alloc (.cells #[.slice s.ca s.cues.length s.cc, .slice s.pa s.pairs.length s.pc] 29)) w' → Below w.heap.size w w') := Lib.hid fun w' z => hb0.trans (z.mono hb0.size)
 clear hb0 hh hs hG
 go_enter Tryz.func8, Tryz.ntmps8
 go_upto_region 1 with (fail)
 obtain ⟨W0, hW0⟩ : ∃ W0 : World, ((w.alloc (.cells #[.string h.name, .int .i64 h.height, .slice h.sa h.sets.length h.sc, .slice h.ra h.roofs.length h.rc] 25)).alloc (.cells #[.slice s.ca s.cues.length s.cc, .slice s.pa s.pairs.length s.pc] 29)) = W0 := ⟨_, rfl⟩
 simp only [hW0] at HX HW ⊢
 clear hW0
 obtain ⟨B1, hB1⟩ : ∃ b, w.heap.size = b := ⟨_, rfl⟩
 obtain ⟨B2, hB2⟩ : ∃ b, w.heap.size + 1 = b := ⟨_, rfl⟩
 rw [hB2] at HX ⊢
 rw [hB1] at HX ⊢
 clear hB1 hB2
 obtain ⟨⟨a0, a1, a2, a3⟩, ⟨s0, s1⟩, -, -, -⟩ := HX.out _ (Below.refl _ _)
 have HSH := Lib.hid (sheet_power h s ga G gc _ (HX.out _ (Below.refl _ _)).2.2.1 (HX.out _ (Below.refl _ _)).2.2.2.1 (HX.out _ (Below.refl _ _)).2.2.2.2 hgl)
 go_wp2_with (go_at_call 20; (with_reducible refine HSH.out.mono ?_); rintro e w1 ⟨hx1, hb1⟩; obtain ⟨v1, rfl, ho1⟩ := hx1.out; have HO1 := Lib.hid ho1; clear hx1 ho1)
 go_ret2
 exact ⟨Lib.hid ⟨_, rfl, ownsRow_base HO1.out (HW.out _ (Below.refl _ _)).size⟩, HW.out _ hb1⟩
end Go.Proofs.YtlnodjcmdnmnlaaGreat
namespace Go.Proofs.YtlnodjcmdnmnlaaGreat
open Go.RowKit Go.Shelf
theorem usesL_at (h : HouseR) (s : SheetR) (G : List Int) (nd : CueR → Int) {n k : Nat} (hk : k < n) : ug (usesL h s G nd n) k = (ig (planS h s G) k, ig (planS h s G) k + ig (planN h s) k, nd (cg s.cues k)) := by
 rw [ug_eq _ _ (by rw [usesL_len]; exact hk)]
 unfold usesL
 rw [List.getElem_map, List.getElem_range]
noncomputable def needTo (h : HouseR) (s : SheetR) (G : List Int) (nd : CueR → Int) (t : Int) (k : Nat) : Int := sumTo (usesL h s G nd s.cues.length) t k
theorem need_yes {h : HouseR} {s : SheetR} {G : List Int} {nd : CueR → Int} {t : Int} {k : Nat} (hk : k < s.cues.length) (r : Runs (planS h s G) (planN h s) t k) : needTo h s G nd t (k + 1) = needTo h s G nd t k + nd (cg s.cues k) := by
 unfold needTo
 simp only [sumTo]
 rw [usesL_at h s G nd hk]
 show _ + (if ig (planS h s G) k ≤ t ∧ t < ig (planS h s G) k + ig (planN h s) k then nd (cg s.cues k) else 0) = _
 rw [if_pos (show ig (planS h s G) k ≤ t ∧ t < ig (planS h s G) k + ig (planN h s) k from r)]
theorem need_no {h : HouseR} {s : SheetR} {G : List Int} {nd : CueR → Int} {t : Int} {k : Nat} (hk : k < s.cues.length) (r : ¬ Runs (planS h s G) (planN h s) t k) : needTo h s G nd t (k + 1) = needTo h s G nd t k := by
 unfold needTo
 simp only [sumTo]
 rw [usesL_at h s G nd hk]
 show _ + (if ig (planS h s G) k ≤ t ∧ t < ig (planS h s G) k + ig (planN h s) k then nd (cg s.cues k) else 0) = _
 rw [if_neg (show ¬ (ig (planS h s G) k ≤ t ∧ t < ig (planS h s G) k + ig (planN h s) k) from r), Int.add_zero]
theorem need_bd {h : HouseR} {s : SheetR} {G : List Int} {nd : CueR → Int} (ok : SheetOK h s) (hn : ∀ q, HeadOK q → 0 ≤ nd q ∧ nd q ≤ 100) (t : Int) : ∀ k, k ≤ s.cues.length → 0 ≤ needTo h s G nd t k ∧ needTo h s G nd t k ≤ 100 * (k : Int) := by
 intro k hk
 refine sumTo_w t (fun j hj => ?_) k (by rw [usesL_len]; exact hk)
 rw [usesL_len] at hj
 rw [usesL_at h s G nd hj]
 exact hn _ (ok.each j hj).1.1
structure StepsOK (h : HouseR) (s : SheetR) (G : List Int) (nd : CueR → Int) : Prop where
 few : (sheetP h s G nd).length ≤ 2 * s.cues.length + 1
 valid : validB (sheetP h s G nd) = true
 last : (og (sheetP h s G nd) ((sheetP h s G nd).length - 1)).2 = 0
 turn : ∀ k, 0 < k → k < (sheetP h s G nd).length → (og (sheetP h s G nd) k).2 ≠ (og (sheetP h s G nd) (k - 1)).2
 told : ∀ t, 0 ≤ t → toldP (sheetP h s G nd) t = needTo h s G nd t s.cues.length
theorem steps_of_plan {h : HouseR} {s : SheetR} {G : List Int} {nd : CueR → Int} (e : planE h s G = 0) (hn : ∀ q, HeadOK q → 0 ≤ nd q ∧ nd q ≤ 100) : StepsOK h s G nd := by
 obtain ⟨ok, po⟩ := plan_sheet e
 have hU : ∀ u ∈ usesL h s G nd s.cues.length, 0 ≤ u.1 ∧ u.2.1 ≤ 1099511627776 ∧ 0 ≤ u.2.2 ∧ u.2.2 ≤ 100 := by
  intro u hu
  obtain ⟨j, hj, rfl⟩ := mem_ug.1 hu
  rw [usesL_len] at hj
  rw [usesL_at h s G nd hj]
  have a := po.starts j hj
  have b := po.lens j hj
  have c := hn _ (ok.each j hj).1.1
  exact ⟨a.1, by show ig (planS h s G) j + ig (planN h s) j ≤ _; omega, c.1, c.2⟩
 have eP : sheetP h s G nd = stepsP (lastsU (usesL h s G nd s.cues.length)) := by unfold sheetP; rw [if_pos e, steps_lasts]
 have uo := lasts_ok fun u hu => (hU u hu).1
 have ul := lasts_len (usesL h s G nd s.cues.length)
 rw [usesL_len] at ul
 have hl60 := ok.cues
 have hlast : ∀ j, j < (lastsU (usesL h s G nd s.cues.length)).length → (ug (lastsU (usesL h s G nd s.cues.length)) j).2.1 ≤ 1099511627776 ∧ 0 ≤ (ug (lastsU (usesL h s G nd s.cues.length)) j).2.2 ∧ (ug (lastsU (usesL h s G nd s.cues.length)) j).2.2 ≤ 100 := fun j hj => by
  have hm : ug (lastsU (usesL h s G nd s.cues.length)) j ∈ lastsU (usesL h s G nd s.cues.length) := mem_ug.2 ⟨j, hj, rfl⟩
  exact (hU _ (List.mem_filter.1 hm).1).2
 have I := steps_all (lastsU (usesL h s G nd s.cues.length))
 have h1 := stepsK_len (lastsU (usesL h s G nd s.cues.length)) (timesP (lastsU (usesL h s G nd s.cues.length))).length (Nat.le_refl _)
 rw [stepsK_all] at h1
 have h2 := times_len (lastsU (usesL h s G nd s.cues.length))
 refine ⟨by rw [eP]; omega, by rw [eP]; exact steps_valid uo (by omega) hlast, by rw [eP]; exact steps_last uo, by rw [eP]; exact fun k h0 hk => (I.up k h0 hk).2, fun t h0 => ?_⟩
 rw [eP, told_steps uo t h0, sumAt_map, sum_lasts, ← sumAt_map]
 unfold sumAt needTo
 rw [usesL_len]
theorem sheet_none {h : HouseR} {s : SheetR} {G : List Int} (nd : CueR → Int) (e : planE h s G ≠ 0) : sheetP h s G nd = [] := by unfold sheetP; rw [if_neg e]
theorem names_apart {h : HouseR} {s : SheetR} (ok : SheetOK h s) {i j : Nat} (hi : i < s.cues.length) (hj : j < s.cues.length) (e : (cg s.cues i).name = (cg s.cues j).name) : i = j := by
 have a := (ok.each i hi).2.1
 have b := (ok.each j hj).2.1
 rw [e, b] at a
 omega
theorem busy_has {h : HouseR} {s : SheetR} {G : List Int} {t : Int} (e : planE h s G = 0) {k : Nat} (hk : k < s.cues.length) : str_any (busyP h s G t) (fun y => decide (y = (cg s.cues k).name)) = decide (Runs (planS h s G) (planN h s) t k) := by
 obtain ⟨ok, _⟩ := plan_sheet e
 rw [str_any_eq, Bool.eq_iff_iff, List.any_eq_true, decide_eq_true_eq]
 unfold busyP
 rw [if_pos e]
 unfold busyL
 constructor
 ·rintro ⟨x, hx, hp⟩
  obtain ⟨i, hi, rfl⟩ := List.mem_map.1 hx
  obtain ⟨hi, hr⟩ := List.mem_filter.1 hi
  have := names_apart ok (List.mem_range.1 hi) hk (of_decide_eq_true hp)
  subst this
  exact of_decide_eq_true hr
 ·intro r
  exact ⟨_, List.mem_map.2 ⟨k, List.mem_filter.2 ⟨List.mem_range.2 hk, decide_eq_true r⟩, rfl⟩, decide_eq_true rfl⟩
end Go.Proofs.YtlnodjcmdnmnlaaGreat
namespace Go.Proofs.YtlnodjcmdnmnlaaGreat
open Go.RowKit Go.Shelf
set_option maxRecDepth 100000 in
set_option maxHeartbeats 8000000 in
theorem short_any (a : Option Addr) (L : List (Int × Int)) (cap : Nat) (m : Int) (w : World) (hl : L.length ≤ 1100) (hm : (L.length : Int) ≤ m) (hv : validB L = true) (hz : (og L (L.length - 1)).2 = 0) (hd : ∀ k, 0 < k → k < L.length → (og L k).2 ≠ (og L (k - 1)).2) (hL : Loads w.heap.size w a L) :
  Calls Tryz.prog 12 #[.slice a L.length cap, .int .i64 m] w fun e w' => e = .returned (.bool true) ∧ Below w.heap.size w w' := by
 have HL := Lib.hid hL; clear hL
 have hp : 1 ≤ L.length := (valid_step hv).1
 have HV := Lib.hid hv
 have HD := Lib.hid hd
 have b1 : decide (m < (L.length : Int)) = false := decide_eq_false (by omega)
 obtain ⟨j, hj⟩ : ∃ j, L.length = j + 1 := ⟨L.length - 1, by omega⟩
 obtain ⟨b, off, rfl, hb, hc⟩ := HL.out (by omega)
 have K0 : ∀ wr, Below w.heap.size w wr → wr.cell? ⟨b, off + j * 2 + 1, none⟩ = some (.int .i64 0) := fun wr h => by
  have := (h.cell (p := ⟨b, off + j * 2 + 1, none⟩) hb).trans (hc j (by omega)).2
  rw [this]
  rw [hj, Nat.add_sub_cancel] at hz
  rw [hz]
 have i1 : IntKind.i64.wrap ((L.length : Int) - 1) = (j : Int) := (IntWalk.i64_in _ (by omega)).trans (by omega)
 have hjl : j < L.length := by omega
 clear hv hd hz hj
 have HC := Lib.hid hc; clear hc
 go_enter Tryz.func12, Tryz.ntmps12
 go_wp2_with (go_at_call 26; (with_reducible refine (refvalid_any _ L _ _ (by omega) HL.out).mono ?_); rintro e w4 ⟨rfl, hb4⟩; rw [HV.out])
 clear K0 i1 hjl
 go_loopw [5] (fun i wr => ∃ k : Nat, 1 ≤ k ∧ k ≤ L.length ∧ i = .int .i64 k ∧ Below w.heap.size w wr) (fun i _ => L.length - (intOf i).toNat)
 case atStart => exact ⟨1, Nat.le_refl _, by omega, rfl, hb4⟩
 case round =>
  obtain ⟨k, hk1, hk, rfl, hB⟩ := hrel
  have hbs := hB.size
  by_cases hlt : k < L.length
  ·obtain ⟨i, rfl⟩ : ∃ i, k = i + 1 := ⟨k - 1, by omega⟩
   have c0 := (hB.cell (p := ⟨b, off + (i + 1) * 2 + 1, none⟩) hb).trans (HC.out (i + 1) hlt).2
   have c1 := (hB.cell (p := ⟨b, off + i * 2 + 1, none⟩) hb).trans (HC.out i (by omega)).2
   have hne := HD.out (i + 1) (by omega) hlt
   rw [Nat.add_sub_cancel] at hne
   have z1 : ((og L (i + 1)).2 == (og L i).2) = false := beq_eq_false_iff_ne.2 hne
   have i1 : IntKind.i64.wrap (((i + 1 : Nat) : Int) - 1) = (i : Int) := (IntWalk.i64_in _ (by omega)).trans (by omega)
   clear hne
   go_wp2_with fail
   all_goals go_quiet (fail)
   all_goals (go_wp2_with fail; go_roundw)
   all_goals first
    | exact ⟨i + 2, by omega, by omega, by go_num, below_drewN hB _⟩
    | exact ⟨i + 2, by omega, by omega, by go_num, hB⟩
    | (simp [intOf]; omega)
  ·obtain rfl : k = L.length := by omega
   go_wp2_with fail
   go_ret
   exact ⟨rfl, hB⟩
end Go.Proofs.YtlnodjcmdnmnlaaGreat
