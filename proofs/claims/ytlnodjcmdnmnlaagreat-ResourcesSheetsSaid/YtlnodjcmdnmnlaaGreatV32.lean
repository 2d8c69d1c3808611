import Derived.Test.YtlnodjcmdnmnlaaGreatV31
import Derived.Test.YtlnodjcmdnmnlaaGreatV28
namespace Go.Proofs.YtlnodjcmdnmnlaaGreat
set_option maxRecDepth 100000
set_option linter.unusedSimpArgs false
set_option maxHeartbeats 80000000
section
open Go.RowKit Go.Shelf
attribute [local go_sem] Oper.semAt_some
noncomputable def usesL (h : HouseR) (s : SheetR) (G : List Int) (nd : CueR → Int) (n : Nat) : List (Int × Int × Int) := (List.range n).map fun i => (ig (planS h s G) i, ig (planS h s G) i + ig (planN h s) i, nd (cg s.cues i))
theorem usesL_snoc (h : HouseR) (s : SheetR) (G : List Int) (nd : CueR → Int) (n : Nat) : usesL h s G nd (n + 1) = usesL h s G nd n ++ [(ig (planS h s G) n, ig (planS h s G) n + ig (planN h s) n, nd (cg s.cues n))] := by
 unfold usesL;rw [List.range_succ, List.map_append]
 rfl
theorem usesL_len (h : HouseR) (s : SheetR) (G : List Int) (nd : CueR → Int) (n : Nat) : (usesL h s G nd n).length = n := by unfold usesL; rw [List.length_map, List.length_range]
noncomputable def sheetP (h : HouseR) (s : SheetR) (G : List Int) (nd : CueR → Int) : List (Int × Int) := if planE h s G = 0 then stepsP (usesL h s G nd s.cues.length) else []
theorem begsL_at (h : HouseR) (s : SheetR) (G : List Int) {k : Nat} (hk : k < s.cues.length) : (beg (begsL h s G s.cues.length) k).2 = ig (planS h s G) k := by
 rw [beg_eq _ _ (by rw [begsL_len]; exact hk)];unfold begsL;rw [List.getElem_map, List.getElem_range]
theorem endsL_at (h : HouseR) (s : SheetR) (G : List Int) {k : Nat} (hk : k < s.cues.length) : ig (endsL h s G s.cues.length) k = ig (planS h s G) k + ig (planN h s) k := by
 rw [ig_eq _ _ (by rw [endsL_len]; exact hk)];unfold endsL;rw [List.getElem_map, List.getElem_range]
theorem usesL_bd {h : HouseR} {s : SheetR} {G : List Int} {nd : CueR → Int} (ok : SheetOK h s) (hn : ∀ q, HeadOK q → 0 ≤ nd q ∧ nd q ≤ 100) : UseB (usesL h s G nd s.cues.length) := fun k hk => by
 rw [usesL_len] at hk
 have e : (ug (usesL h s G nd s.cues.length) k).2.2 = nd (cg s.cues k) := by
  rw [ug_eq _ _ (by rw [usesL_len]; exact hk)];unfold usesL;rw [List.getElem_map, List.getElem_range]
 have := hn _ (ok.each k hk).1.1;omega
theorem crew_one (q : CueR) (w : World) : Calls Tryz.prog 21 #[.agg #[.string q.name, .string q.after, .int .i64 q.link, .int .i64 q.delay, .slice q.ma q.moves.length q.mc, .int .i64 q.crew, .int .i64 q.power]] w fun e w' => e = .returned (.int .i64 q.crew) ∧ Below w.heap.size w w' := by
 go_enter Tryz.func21, Tryz.ntmps21
 go_wp2_with fail
 go_ret;exact ⟨rfl, below_new _ _⟩
theorem power_one (q : CueR) (w : World) : Calls Tryz.prog 22 #[.agg #[.string q.name, .string q.after, .int .i64 q.link, .int .i64 q.delay, .slice q.ma q.moves.length q.mc, .int .i64 q.crew, .int .i64 q.power]] w fun e w' => e = .returned (.int .i64 q.power) ∧ Below w.heap.size w w' := by
 go_enter Tryz.func22, Tryz.ntmps22
 go_wp2_with fail
 go_ret;exact ⟨rfl, below_new _ _⟩
theorem ent_crew (args : Array Value) (w : World) : (callFunc 21 args).run Tryz.prog w = .ok (.enter 21 args) w := enters_of Tryz.func21 (by kernel_rfl) rfl args w
theorem ent_power (args : Array Value) (w : World) : (callFunc 22 args).run Tryz.prog w = .ok (.enter 22 args) w := enters_of Tryz.func22 (by kernel_rfl) rfl args w
theorem sheet_nd (need : CueR → Int) (g : Nat) (hnd : ∀ q, HeadOK q → 0 ≤ need q ∧ need q ≤ 100) (hg : ∀ (q : CueR) (w : World), Calls Tryz.prog g #[.agg #[.string q.name, .string q.after, .int .i64 q.link, .int .i64 q.delay, .slice q.ma q.moves.length q.mc, .int .i64 q.crew, .int .i64 q.power]] w fun e w' => e = .returned (.int .i64 (need q)) ∧ Below w.heap.size w w') (eg : ∀ args w, (callFunc g args).run Tryz.prog w = .ok (.enter g args) w) (h : HouseR) (s : SheetR) (ga : Option Addr) (G : List Int) (gc : Nat) (w : World) (hh : HouseIn w h) (hs : SheetIn w s) (hG : Nums w.heap.size w ga G) (hgl : G.length ≤ 1000) :
  Calls Tryz.prog 20 #[.agg #[.string h.name, .int .i64 h.height, .slice h.sa h.sets.length h.sc, .slice h.ra h.roofs.length h.rc], .agg #[.slice s.ca s.cues.length s.cc, .slice s.pa s.pairs.length s.pc], .slice ga G.length gc, .func (.func g) #[] #[]] w fun e w' => Hid (∃ v, e = .returned (.tuple #[v, .int .i64 (planE h s G)]) ∧ w'.ownsRow w.heap.size 41 2 v (sheetP h s G need).length (oflat (sheetP h s G need))) ∧ Below w.heap.size w w' := by
 have HG := lh hg;have HND := lh hnd;clear hg hnd;obtain ⟨hb0, HX, HW⟩ := o1 hh hs hG;have HP := lh fun (q : planE h s G = 0) => plan_sheet q;have hcl := hs.clen;clear hh hs hG hb0;obtain ⟨E, hE⟩ := nm (planE h s G)
 by_cases hz : E = 0
 case neg =>
  have HE := lh hE;have HEP : Hid (sheetP h s G need = []) := lh (by unfold sheetP; rw [hE, if_neg hz]);have g0 : (E != 0) = true := bne_iff_ne.2 hz;clear hz hE
  go_enter Tryz.func20, Tryz.ntmps20
  go_upto_region 1 with (fail)
  obtain ⟨W0, hW0⟩ := nm ((TW w h s) : World);simp only [hW0] at HX HW ⊢;clear hW0;obtain ⟨B1, hB1⟩ := nm (w.heap.size);obtain ⟨B2, hB2⟩ := nm (w.heap.size + 1);rw [hB2] at HX ⊢;rw [hB1] at HX ⊢;clear hB1 hB2;obtain ⟨⟨a0, a1, a2, a3⟩, ⟨s0, s1⟩, -, -, -⟩ := HX.out _ br;have HBG := lh (begins_any h s ga G gc _ (HX.out _ br).2.2.1 (HX.out _ br).2.2.2.1 (HX.out _ br).2.2.2.2 hgl)
  go_wp2_with (go_at_call 34; (with_reducible refine HBG.out.mono ?_); rintro e w1 ⟨hx1, hb1⟩; obtain ⟨v1, rfl, -⟩ := hx1.out; clear hx1; rw [HE.out])
  go_ret2
  exact ⟨lh ⟨.slice none 0 0, by first | rfl | (rw [HE.out]; rfl), by rw [HEP.out]; exact World.ownsRow_nil _ _ _ _⟩, HW.out _ hb1⟩
 case pos =>
  subst hz;have HE := lh hE;have HEP : Hid (sheetP h s G need = stepsP (usesL h s G need s.cues.length)) := lh (by unfold sheetP; rw [hE, if_pos rfl]);have HB0 : Hid (begsP h s G = begsL h s G s.cues.length) := lh (by unfold begsP; rw [hE, if_pos rfl]);have HE0 : Hid (endsP h s G = endsL h s G s.cues.length) := lh (by unfold endsP; rw [hE, if_pos rfl]);have HQ := lh (HP.out hE);clear hE HP;obtain ⟨i0, hi, hz0, hz1, hz2⟩ := info_parts use_info;have HI := lh (And.intro hi (And.intro hz0 (And.intro hz1 hz2)));clear hi hz0 hz1 hz2
  go_enter Tryz.func20, Tryz.ntmps20
  go_upto_region 1 with (fail)
  obtain ⟨W0, hW0⟩ := nm ((TW w h s) : World);simp only [hW0] at HX HW ⊢;clear hW0;obtain ⟨B1, hB1⟩ := nm (w.heap.size);obtain ⟨B2, hB2⟩ := nm (w.heap.size + 1);rw [hB2] at HX ⊢;rw [hB1] at HX ⊢;clear hB1 hB2;obtain ⟨⟨a0, a1, a2, a3⟩, ⟨s0, s1⟩, -, -, -⟩ := HX.out _ br;have HBG := lh (begins_any h s ga G gc _ (HX.out _ br).2.2.1 (HX.out _ br).2.2.2.1 (HX.out _ br).2.2.2.2 hgl);obtain ⟨ca, hca⟩ := nm (s.ca);have HCA := lh hca;have HEN := lh fun (w' : World) (z : Below W0.heap.size W0 w') => ends_any h s ga G gc w' (HX.out _ z).2.2.1 (HX.out _ z).2.2.2.1 (HX.out _ z).2.2.2.2 hgl;rw [hca] at s0 HBG HEN ⊢;clear hca
  go_upto_region 8 with (first
   | (go_at_call 34; (with_reducible refine HBG.out.mono ?_); rintro e w1 ⟨hx1, hb1⟩; obtain ⟨v1, rfl, ho1⟩ := hx1.out; have HO1 := lh ho1; clear hx1 ho1; rw [HE.out]; obtain ⟨⟨x0, x1, x2, x3⟩, ⟨y0, y1⟩, -, -, -⟩ := HX.out _ hb1; rw [HCA.out] at y0)
   | (go_at_call 35; (with_reducible refine (HEN.out _ hb1).mono ?_); rintro e w2 ⟨hx2, hb2⟩; obtain ⟨v2, rfl, ho2⟩ := hx2.out; have HO2 := lh ho2; clear hx2 ho2; rw [HE.out]))
  clear a0 a1 a2 a3 s0 s1 x0 x1 x2 x3 y0 y1 HBG HEN;obtain ⟨ba, bc, hv1, -, -, -, hb1s⟩ := beg_of_row HO1.out;subst hv1;obtain ⟨ea, ec, hv2, -, -, -, he2s⟩ := num_of_row HO2.out;subst hv2;rw [HB0.out] at hb1s ⊢;rw [HE0.out] at he2s ⊢;rw [begsL_len, endsL_len];have hb1g := hb1s.grow hb2;have hX2 : Hid (Below W0.heap.size W0 w2) := lh (hb1.trans (hb2.mono hb1.size))
  have HXX : Hid (∀ w', Below w2.heap.size w2 w' → Below w.heap.size w w' ∧ Begs w'.heap.size w' ba (begsL h s G s.cues.length) ∧ Nums w'.heap.size w' ea (endsL h s G s.cues.length) ∧ SheetAt w' B2 s ∧ SheetIn w' s) := lh fun w' z => by
   have y := hX2.out.trans (z.mono hX2.out.size);obtain ⟨-, y2, -, y4, -⟩ := HX.out w' y;exact ⟨HW.out w' y, hb1g.grow z, he2s.grow z, y2, y4⟩
  clear HX HW hX2 hb1 hb2 hb1s he2s hb1g HO1 HO2 HB0 HE0;obtain ⟨n₂, hn2⟩ := nm (w2.heap.size);rw [hn2] at HXX;have hB2 : Below n₂ w2 w2 := by rw [← hn2]; exact br
  have hnn : n₂ ≤ w2.heap.size := by omega
  have HBN : Hid (w.heap.size ≤ n₂) := lh (by have := (HXX.out _ hB2).1.size; omega);clear hn2;obtain ⟨-, -, -, ⟨s0, s1⟩, -⟩ := HXX.out _ hB2;rw [HCA.out] at s0
  go_upto_region 9 with (fail)
  clear s0 s1
  go_loopw [13, 14, 15, 39] (fun v13 _ _ iv wr => ∃ (k : Nat), iv = .int .i64 k ∧ k ≤ s.cues.length ∧ Below n₂ w2 wr ∧ n₂ ≤ wr.heap.size ∧ Hid (wr.ownsRow n₂ 83 3 v13 k (ugflat (usesL h s G need k)))) (fun _ _ _ iv _ => s.cues.length - (intOf iv).toNat)
  case atStart => exact ⟨0, rfl, Nat.zero_le _, hB2, hnn, lh (World.ownsRow_nil _ _ _ _)⟩
  case round =>
   clear hB2 hnn;obtain ⟨k, rfl, hk, hB, hnw, HR⟩ := hrel
   by_cases hlt : k < s.cues.length
   ·obtain ⟨-, hS, hN, -, hsi⟩ := HXX.out _ hB
    obtain ⟨b, off, ha, hb, hc⟩ := hsi.lies (by omega);rw [HCA.out] at ha;subst ha;obtain ⟨d0, d1, d2, d3, d4, d5, d6⟩ := hc k hlt;have hls : k < (begsL h s G s.cues.length).length := by rw [begsL_len]; exact hlt
    have hln : k < (endsL h s G s.cues.length).length := by rw [endsL_len]; exact hlt
    obtain ⟨sb, so, hsa, hsb, hsx⟩ := hS (by omega);subst hsa;obtain ⟨nb, no, hna, hnb, hnx⟩ := hN (by omega);subst hna;have q1 := HQ.out.2.lens k hlt;have q2 := HQ.out.2.starts k hlt;have HSN := lh (usesL_snoc h s G need k);have HBK : Hid ((beg (begsL h s G s.cues.length) k).2 = ig (planS h s G) k) := lh (begsL_at h s G hlt);have HEK : Hid (ig (endsL h s G s.cues.length) k = ig (planS h s G) k + ig (planN h s) k) := lh (endsL_at h s G hlt);obtain ⟨q, hq⟩ := nm (cg s.cues k);rw [hq] at d0 d1 d2 d3 d4 d5 d6 HSN;obtain ⟨x, hx⟩ := nm (ig (planS h s G) k);obtain ⟨y, hy⟩ := nm (ig (planN h s) k);rw [hx] at q2;rw [hy] at q1;rw [hx, hy] at HSN HEK;rw [hx] at HBK;obtain ⟨z, hz⟩ := nm (x + y);rw [hz] at HSN HEK;have b2 : decide ((1099511627776 : Int) < z) = false := dF (by omega);clear hS hN hsi hc hsx hnx hq hx hy q1 q2 hz;have HKL : Hid ((usesL h s G need k).length = k) := lh (usesL_len _ _ _ _ _);have hB3 := hB.alloc hnw (CC q);have hbn := below_new wr (CC q);have HC3 := CueAt.new wr q 49 _ rfl;have hn3 : n₂ + 1 ≤ (wr.alloc (CC q)).heap.size := by simp; omega
    have HR3 := lh (ownsRow_below HR.out hbn);have HNE : Hid (u13.ownBlock ≠ some wr.heap.size) := lh fun e => by have := (HR.out.lt _ e).2; omega
    go_upto_region 11 with (fail)
    clear d0 d1 d2 d3 d4 d5 d6 HR hbn hB hnw hb;generalize wr.alloc (CC q) = W3 at *;obtain ⟨B12, hB12⟩ := nm (wr.heap.size);rw [hB12] at HC3 HNE ⊢;clear hB12;obtain ⟨-, hS, hN, -, -⟩ := HXX.out _ hB3;obtain ⟨tb, tf, e1, -, ex⟩ := hS (by omega)
    cases e1
    have x2 := (ex k hls).2;obtain ⟨tb, tf, e1, -, ey⟩ := hN (by omega)
    cases e1
    have y2 := ey k hln;rw [HBK.out] at x2;rw [HEK.out] at y2;clear hS hN ex ey
    go_cut [60] (fun v wx => v = .bool false ∧ ∃ n, wx = W3.drewN n)
    case first =>
     by_cases r1 : x < z
     ·have b1 : decide (x < z) = true := decide_eq_true r1
      clear r1
      go_wp2_with (go_quiet (fail))
      go_meet
      exact ⟨rfl, _, rfl⟩
     ·have b1 : decide (x < z) = false := decide_eq_false r1
      clear r1
      go_wp2_with (go_quiet (fail))
      go_meet
      exact ⟨rfl, _, rfl⟩
    case rest =>
     obtain ⟨rfl, nd, rfl⟩ := hcut;have hbq := below_drewN (Below.refl W3.heap.size W3) nd;have hB6 := hB3.trans (hbq.mono (by omega));have hn6 : n₂ + 1 ≤ (W3.drewN nd).heap.size := hn3;have HR6 := lh (ownsRow_below HR3.out hbq);have HC6 := HC3.carry hbq;clear hbq x2 y2 b2 hB3 hn3 HR3 HC3;generalize W3.drewN nd = W6 at *
     go_upto_region 13 with (fail)
     have HHQ : HeldQ n₂ w2 B12 q W6 := ⟨hB6, hn6, HC6⟩;have HOd := lh (ownsRow_below HR6.out (below_drewR W6))
     have x2 : ∀ w', HeldQ n₂ w2 B12 q w' → w'.cell? ⟨sb, so + k * 2 + 1, none⟩ = some (.int .i64 x) := fun w' z => by
      obtain ⟨tb', tf', e, _, ex⟩ := (HXX.out w' z.old).2.1 (by omega)
      cases e
      have := (ex k hls).2;rw [HBK.out] at this;exact this
     have y2 : ∀ w', HeldQ n₂ w2 B12 q w' → w'.cell? ⟨nb, no + k, none⟩ = some (.int .i64 z) := fun w' z => by
      obtain ⟨tb', tf', e, _, ex⟩ := (HXX.out w' z.old).2.2.1 (by omega)
      cases e
      have := ex k hln;rw [HEK.out] at this;exact this
     have c0 : ∀ w', HeldQ n₂ w2 B12 q w' → w'.cell? ⟨B12, 0, none⟩ = some (.string q.name) := fun w' z => z.cu.1;have c1 : ∀ w', HeldQ n₂ w2 B12 q w' → w'.cell? ⟨B12, 1, none⟩ = some (.string q.after) := fun w' z => z.cu.2.1;have c2 : ∀ w', HeldQ n₂ w2 B12 q w' → w'.cell? ⟨B12, 2, none⟩ = some (.int .i64 q.link) := fun w' z => z.cu.2.2.1;have c3 : ∀ w', HeldQ n₂ w2 B12 q w' → w'.cell? ⟨B12, 3, none⟩ = some (.int .i64 q.delay) := fun w' z => z.cu.2.2.2.1;have c4 : ∀ w', HeldQ n₂ w2 B12 q w' → w'.cell? ⟨B12, 4, none⟩ = some (.slice q.ma q.moves.length q.mc) := fun w' z => z.cu.2.2.2.2.1;have c5 : ∀ w', HeldQ n₂ w2 B12 q w' → w'.cell? ⟨B12, 5, none⟩ = some (.int .i64 q.crew) := fun w' z => z.cu.2.2.2.2.2.1;have c6 : ∀ w', HeldQ n₂ w2 B12 q w' → w'.cell? ⟨B12, 6, none⟩ = some (.int .i64 q.power) := fun w' z => z.cu.2.2.2.2.2.2;refine wp_region_held_drew (S := (HeldQ n₂ w2 B12 q)) (by kernel_rfl) (HHQ.next (below_drewR W6)) (fun hHeld => ?_);obtain ⟨W5, hW5⟩ := nm (W6.drew);simp only [hW5] at hHeld HOd ⊢;clear hW5;refine tk 0 ?_; refine tk 1 ?_; refine tk 2 ?_; refine tk 3 ?_; refine tk 4 ?_; refine tk 5 ?_; refine tk 6 ?_; refine tk 7 ?_; refine tk 8 ?_; refine tk 9 ?_; refine tk 10 ?_; refine tk 11 ?_;clear x2 y2 c0 c1 c2 c3 c4 c5 c6;refine r1 12 (fun K hK => ?_)
     try simp only [q4, q5, q6]
     go_simp
     (go_split_ands; (with_reducible refine (HG.out q _).mono ?_); rintro e y1 ⟨rfl, hy1⟩; have hH1 := hHeld.next hy1; have HO1 := lh (ownsRow_below HOd.out hy1))
     go_wp2_with fail
     refine hK.out _ _ hH1 (fun hHeld => ?_);clear hK K
     try simp only [Act.put, qq]
     refine tk 13 ?_;refine r1 14 (fun K hK => ?_);rw [if_pos (by rfl)]
     go_wp2_with fail
     have hHN := hH1.next (below_new y1 (.cells #[.int .i64 x, .int .i64 z, .int .i64 (need q)] 83));have HO6 := lh (ownsRow_below HO1.out (below_new y1 (.cells #[.int .i64 x, .int .i64 z, .int .i64 (need q)] 83)));refine hK.out _ _ hHN (fun hHeld => ?_);clear hK K
     try simp only [Act.put, qq]
     refine r1 15 (fun K hK => ?_);refine step_append_lies _ rfl (.tmp 61) (.tmp 75) 81 rfl n₂ 83 i0 (.agg #[.int .i64 0, .int .i64 0, .int .i64 0]) 3 24 Tryz.underlying81 HI.out.1 HI.out.2.1 HI.out.2.2.1 HI.out.2.2.2 rfl (by decide) u13 k (ugflat (usesL h s G need k)) ?_ HO6.out ⟨y1.heap.size, 0, none⟩ 1 1 [.int .i64 x, .int .i64 z, .int .i64 (need q)] ?_ rfl (cell_three_new y1 _ _ _ _) ?_ (by omega) ?_ ?_ ?_ _ rfl ?_
     ·simp [Act.eval]
     ·simp [Act.eval]
     ·simp [Value.oneCell']
     ·unfold maxLen; omega
     ·omega
     ·have := hHN.lo; omega
     intro g7 cap7 w7 hown7 hgr7 hat7 hg7;have hS7 : HeldQ n₂ w2 B12 q w7 := ⟨hHN.old.grown hgr7 (by have := hHN.lo; omega) (fun j hj => (HO6.out.lt _ hj).1), Nat.le_trans hHN.lo hgr7.size, cueAt_grown hHN.cu hgr7 (fun e => HNE.out e.symm)⟩;have HO7 := lh hown7;clear hown7 hgr7 hg7 hat7;refine hK.out _ _ hS7 (fun hHeld => ?_);clear hK K
     try simp only [Act.put, qq]
     refine tk 16 ?_;refine wpAnyH_done (by kernel_rfl) ?_ _;have hB9 := hS7.old;have hn9 : n₂ ≤ w7.heap.size := by have := hS7.lo; omega
     go_wp2_with fail
     go_roundw
     case rel => exact ⟨k + 1, by go_num, by omega, hB9, hn9, lh (by rw [HSN.out, ugflat_snoc]; exact HO7.out)⟩
     case measure => simp [intOf]; omega
   ·obtain rfl : k = s.cues.length := by omega
    have hul : (usesL h s G need s.cues.length).length = s.cues.length := usesL_len _ _ _ _ _;obtain ⟨ua, uc, hv, -, -, -, hus⟩ := use_of_row (L := usesL h s G need s.cues.length) (by rw [hul]; exact HR.out);rw [hul] at hv;subst hv;have HST := lh (steps_any ua (usesL h s G need s.cues.length) uc wr (by rw [hul]; exact hcl) (usesL_bd HQ.out.1 HND.out) hus);rw [hul] at HST;clear hul hus
    go_wp2_with (go_at_call 31; (with_reducible refine HST.out.mono ?_); rintro e w9 hx9; obtain ⟨v9, rfl, ho9, hb9⟩ := hx9.out; have HO9 := lh ho9; clear hx9 ho9)
    go_ret2
    exact ⟨lh ⟨_, by first | rfl | (rw [HE.out]; rfl), by rw [HEP.out]; exact ownsRow_base HO9.out (by have := HBN.out; omega)⟩, (HXX.out _ hB).1.trans (hb9.mono (HXX.out _ hB).1.size)⟩
theorem Crew_any (h : HouseR) (s : SheetR) (ga : Option Addr) (G : List Int) (gc : Nat) (w : World) (hh : HouseIn w h) (hs : SheetIn w s) (hG : Nums w.heap.size w ga G) (hgl : G.length ≤ 1000) :
  Calls Tryz.prog 7 #[.agg #[.string h.name, .int .i64 h.height, .slice h.sa h.sets.length h.sc, .slice h.ra h.roofs.length h.rc], .agg #[.slice s.ca s.cues.length s.cc, .slice s.pa s.pairs.length s.pc], .slice ga G.length gc] w fun e w' => Hid (∃ v, e = .returned (.tuple #[v, .int .i64 (planE h s G)]) ∧ w'.ownsRow w.heap.size 41 2 v (sheetP h s G (·.crew)).length (oflat (sheetP h s G (·.crew)))) ∧ Below w.heap.size w w' := by
 obtain ⟨hb0, HX, HW⟩ := o1 hh hs hG;clear hb0 hh hs hG
 go_enter Tryz.func7, Tryz.ntmps7
 go_upto_region 1 with (fail)
 obtain ⟨W0, hW0⟩ := nm ((TW w h s) : World);simp only [hW0] at HX HW ⊢;clear hW0;obtain ⟨B1, hB1⟩ := nm (w.heap.size);obtain ⟨B2, hB2⟩ := nm (w.heap.size + 1);rw [hB2] at HX ⊢;rw [hB1] at HX ⊢;clear hB1 hB2;obtain ⟨⟨a0, a1, a2, a3⟩, ⟨s0, s1⟩, -, -, -⟩ := HX.out _ br;have HSH := lh (sheet_nd (·.crew) _ (fun _ z => z.crew) crew_one ent_crew h s ga G gc _ (HX.out _ br).2.2.1 (HX.out _ br).2.2.2.1 (HX.out _ br).2.2.2.2 hgl)
 go_wp2_with (go_at_call 20; (with_reducible refine HSH.out.mono ?_); rintro e w1 ⟨hx1, hb1⟩; obtain ⟨v1, rfl, ho1⟩ := hx1.out; have HO1 := lh ho1; clear hx1 ho1)
 go_ret2
 exact ⟨lh ⟨_, rfl, ownsRow_base HO1.out (HW.out _ br).size⟩, HW.out _ hb1⟩
theorem Power_any (h : HouseR) (s : SheetR) (ga : Option Addr) (G : List Int) (gc : Nat) (w : World) (hh : HouseIn w h) (hs : SheetIn w s) (hG : Nums w.heap.size w ga G) (hgl : G.length ≤ 1000) :
  Calls Tryz.prog 8 #[.agg #[.string h.name, .int .i64 h.height, .slice h.sa h.sets.length h.sc, .slice h.ra h.roofs.length h.rc], .agg #[.slice s.ca s.cues.length s.cc, .slice s.pa s.pairs.length s.pc], .slice ga G.length gc] w fun e w' => Hid (∃ v, e = .returned (.tuple #[v, .int .i64 (planE h s G)]) ∧ w'.ownsRow w.heap.size 41 2 v (sheetP h s G (·.power)).length (oflat (sheetP h s G (·.power)))) ∧ Below w.heap.size w w' := by
 obtain ⟨hb0, HX, HW⟩ := o1 hh hs hG;clear hb0 hh hs hG
 go_enter Tryz.func8, Tryz.ntmps8
 go_upto_region 1 with (fail)
 obtain ⟨W0, hW0⟩ := nm ((TW w h s) : World);simp only [hW0] at HX HW ⊢;clear hW0;obtain ⟨B1, hB1⟩ := nm (w.heap.size);obtain ⟨B2, hB2⟩ := nm (w.heap.size + 1);rw [hB2] at HX ⊢;rw [hB1] at HX ⊢;clear hB1 hB2;obtain ⟨⟨a0, a1, a2, a3⟩, ⟨s0, s1⟩, -, -, -⟩ := HX.out _ br;have HSH := lh (sheet_nd (·.power) _ (fun _ z => z.power) power_one ent_power h s ga G gc _ (HX.out _ br).2.2.1 (HX.out _ br).2.2.2.1 (HX.out _ br).2.2.2.2 hgl)
 go_wp2_with (go_at_call 20; (with_reducible refine HSH.out.mono ?_); rintro e w1 ⟨hx1, hb1⟩; obtain ⟨v1, rfl, ho1⟩ := hx1.out; have HO1 := lh ho1; clear hx1 ho1)
 go_ret2
 exact ⟨lh ⟨_, rfl, ownsRow_base HO1.out (HW.out _ br).size⟩, HW.out _ hb1⟩
end
section
open Go.RowKit Go.Shelf
theorem usesL_at (h : HouseR) (s : SheetR) (G : List Int) (nd : CueR → Int) {n k : Nat} (hk : k < n) : ug (usesL h s G nd n) k = (ig (planS h s G) k, ig (planS h s G) k + ig (planN h s) k, nd (cg s.cues k)) := by
 rw [ug_eq _ _ (by rw [usesL_len]; exact hk)];unfold usesL;rw [List.getElem_map, List.getElem_range]
noncomputable def needTo (h : HouseR) (s : SheetR) (G : List Int) (nd : CueR → Int) (t : Int) (k : Nat) : Int := sumTo (usesL h s G nd s.cues.length) t k
structure StepsOK (h : HouseR) (s : SheetR) (G : List Int) (nd : CueR → Int) : Prop where
 few : (sheetP h s G nd).length ≤ 2 * s.cues.length + 1
 valid : validB (sheetP h s G nd) = true
 last : (og (sheetP h s G nd) ((sheetP h s G nd).length - 1)).2 = 0
 turn : ∀ k, 0 < k → k < (sheetP h s G nd).length → (og (sheetP h s G nd) k).2 ≠ (og (sheetP h s G nd) (k - 1)).2
 told : ∀ t, 0 ≤ t → toldP (sheetP h s G nd) t = needTo h s G nd t s.cues.length
theorem steps_of_plan {h : HouseR} {s : SheetR} {G : List Int} {nd : CueR → Int} (e : planE h s G = 0) (hn : ∀ q, HeadOK q → 0 ≤ nd q ∧ nd q ≤ 100) : StepsOK h s G nd := by
 obtain ⟨ok, po⟩ := plan_sheet e
 have hU : ∀ u ∈ usesL h s G nd s.cues.length, 0 ≤ u.1 ∧ u.2.1 ≤ 1099511627776 ∧ 0 ≤ u.2.2 ∧ u.2.2 ≤ 100 := by
  intro u hu;obtain ⟨j, hj, rfl⟩ := mem_ug.1 hu;rw [usesL_len] at hj;rw [usesL_at h s G nd hj];have a := po.starts j hj;have b := po.lens j hj;have c := hn _ (ok.each j hj).1.1;exact ⟨a.1, by show ig (planS h s G) j + ig (planN h s) j ≤ _; omega, c.1, c.2⟩
 have eP : sheetP h s G nd = stepsP (lastsU (usesL h s G nd s.cues.length)) := by unfold sheetP; rw [if_pos e, steps_lasts]
 have uo := lasts_ok fun u hu => (hU u hu).1;have ul := lasts_len (usesL h s G nd s.cues.length);rw [usesL_len] at ul;have hl60 := ok.cues
 have hlast : ∀ j, j < (lastsU (usesL h s G nd s.cues.length)).length → (ug (lastsU (usesL h s G nd s.cues.length)) j).2.1 ≤ 1099511627776 ∧ 0 ≤ (ug (lastsU (usesL h s G nd s.cues.length)) j).2.2 ∧ (ug (lastsU (usesL h s G nd s.cues.length)) j).2.2 ≤ 100 := fun j hj => by
  have hm : ug (lastsU (usesL h s G nd s.cues.length)) j ∈ lastsU (usesL h s G nd s.cues.length) := mem_ug.2 ⟨j, hj, rfl⟩;exact (hU _ (List.mem_filter.1 hm).1).2
 have I := steps_all (lastsU (usesL h s G nd s.cues.length));have h1 := stepsK_len (lastsU (usesL h s G nd s.cues.length)) (timesP (lastsU (usesL h s G nd s.cues.length))).length (Nat.le_refl _);rw [stepsK_all] at h1;have h2 := times_len (lastsU (usesL h s G nd s.cues.length));refine ⟨by rw [eP]; omega, by rw [eP]; exact steps_valid uo (by omega) hlast, by rw [eP]; exact steps_last uo, by rw [eP]; exact fun k h0 hk => (I.up k h0 hk).2, fun t h0 => ?_⟩;rw [eP, told_steps uo t h0, sumAt_map, sum_lasts, ← sumAt_map];unfold sumAt needTo;rw [usesL_len]
theorem sheet_none {h : HouseR} {s : SheetR} {G : List Int} (nd : CueR → Int) (e : planE h s G ≠ 0) : sheetP h s G nd = [] := by unfold sheetP; rw [if_neg e]
end
section
open Go.RowKit Go.Shelf
attribute [local go_sem] Oper.semAt_some
theorem crew_bd : ∀ q, HeadOK q → 0 ≤ CueR.crew q ∧ CueR.crew q ≤ 100 := fun _ z => z.crew
theorem power_bd : ∀ q, HeadOK q → 0 ≤ CueR.power q ∧ CueR.power q ≤ 100 := fun _ z => z.power
theorem own_farP {w : World} {base B o n : Nat} {v : Value} {X : List Value} (h : w.ownsRow base 69 3 v n X) (hne : v.ownBlock ≠ some B) (u : Value) : (w.setCell ⟨B, o, none⟩ u).ownsRow base 69 3 v n X := by
 refine ⟨h.1, ?_⟩;rcases h.2 with hn | ⟨g, cap, cur, rfl, hb, hg, rest⟩
 ·exact .inl hn
 ·have ne : B ≠ g := fun e => hne (by subst e; rfl)
  have e : (w.setCell ⟨B, o, none⟩ u).heap[g]? = w.heap[g]? := by
   unfold World.setCell
   dsimp only
   rw [Array.getElem?_modify]
   simp [ne]
  exact .inr ⟨g, cap, cur, rfl, hb, e.trans hg, rest⟩
theorem lasts_yes (h : HouseR) (s : SheetR) (G : List Int) (nd : CueR → Int) (k : Nat) (z : 0 < ig (planN h s) k) : lastsU (usesL h s G nd (k + 1)) = lastsU (usesL h s G nd k) ++ [(ig (planS h s G) k, ig (planS h s G) k + ig (planN h s) k, nd (cg s.cues k))] := by
 rw [usesL_snoc];unfold lastsU;rw [List.filter_append, List.filter_cons_of_pos (by simp; omega), List.filter_nil]
theorem lasts_no (h : HouseR) (s : SheetR) (G : List Int) (nd : CueR → Int) (k : Nat) (z : ig (planN h s) k = 0) : lastsU (usesL h s G nd (k + 1)) = lastsU (usesL h s G nd k) := by
 rw [usesL_snoc];unfold lastsU;rw [List.filter_append, List.filter_cons_of_neg (by simp; omega), List.filter_nil, List.append_nil]
def ndB (b : Bool) (q : CueR) : Int := match b with
 | true => q.crew
 | false => q.power
theorem ndB_bd (b : Bool) : ∀ q, HeadOK q → 0 ≤ ndB b q ∧ ndB b q ≤ 100 := fun _ z => match b with
 | true => z.crew
 | false => z.power
theorem rsheet_b (b : Bool) (h : HouseR) (s : SheetR) (ga : Option Addr) (G : List Int) (gc : Nat) (w : World) (hh : HouseIn w h) (hs : SheetIn w s) (hG : Nums w.heap.size w ga G) (hgl : G.length ≤ 1000) :
  Calls Tryz.prog 9 #[.agg #[.string h.name, .int .i64 h.height, .slice h.sa h.sets.length h.sc, .slice h.ra h.roofs.length h.rc], .agg #[.slice s.ca s.cues.length s.cc, .slice s.pa s.pairs.length s.pc], .slice ga G.length gc, .bool b] w fun e w' => Hid (∃ v, e = .returned (.tuple #[v, .int .i64 (planE h s G)]) ∧ w'.ownsRow w.heap.size 41 2 v (sheetP h s G (ndB b)).length (oflat (sheetP h s G (ndB b)))) ∧ Below w.heap.size w w' := by
 obtain ⟨hb0, HX, HW⟩ := o1 hh hs hG;have hcl := hs.clen;clear hh hs hG hb0;have HC0 : Hid (∀ w', Below (TW w h s).heap.size (TW w h s) w' → Calls Tryz.prog 23 #[.agg #[.string h.name, .int .i64 h.height, .slice h.sa h.sets.length h.sc, .slice h.ra h.roofs.length h.rc], .agg #[.slice s.ca s.cues.length s.cc, .slice s.pa s.pairs.length s.pc], .slice ga G.length gc] w' fun e w2 => Hid (∃ v1 v2, e = .returned (.tuple #[v1, v2, .int .i64 (planE h s G)]) ∧ (planE h s G = 0 → PlanRows w2 w'.heap.size h s G v1 v2)) ∧ Below w'.heap.size w' w2) := lh fun w' z => rplan_any h s ga G gc w' (HX.out w' z).2.2.1 (HX.out w' z).2.2.2.1 (HX.out w' z).2.2.2.2 hgl
 by_cases he : planE h s G = 0
 case neg =>
  have HN1 := lh (sheet_none ((ndB b)) he);obtain ⟨E, hE⟩ := nm (planE h s G);have HE := lh hE;rw [hE] at he;have g0 : (E != 0) = true := bne_iff_ne.2 he;clear he hE
  go_enter Tryz.func9, Tryz.ntmps9
  go_upto_region 1 with (fail)
  obtain ⟨W0, hW0⟩ := nm ((TW w h s) : World);simp only [hW0] at HX HW HC0 ⊢;clear hW0;obtain ⟨B1, hB1⟩ := nm (w.heap.size);obtain ⟨B2, hB2⟩ := nm (w.heap.size + 1);rw [hB2] at HX ⊢;rw [hB1] at HX ⊢;clear hB1 hB2;obtain ⟨⟨a0, a1, a2, a3⟩, ⟨s0, s1⟩, -, -, -⟩ := HX.out _ br
  go_wp2_with (go_at_call 23; (with_reducible refine (HC0.out _ br).mono ?_); rintro e w1 ⟨hx1, hb1⟩; obtain ⟨v1, v2, rfl, -⟩ := hx1.out; clear hx1; rw [HE.out])
  go_ret2
  exact ⟨lh ⟨.slice none 0 0, by first | rfl | (rw [HE.out]; rfl), by rw [HN1.out]; exact World.ownsRow_nil _ _ _ _⟩, HW.out _ hb1⟩
 have HPL := lh he;have HOK := lh (plan_sheet he);have HSP : Hid (sheetP h s G (ndB b) = stepsP (lastsU (usesL h s G (ndB b) s.cues.length))) := lh (by unfold sheetP; rw [if_pos he, steps_lasts]);clear he
 go_enter Tryz.func9, Tryz.ntmps9
 go_upto_region 1 with (fail)
 obtain ⟨W0, hW0⟩ := nm ((TW w h s) : World);simp only [hW0] at HX HW HC0 ⊢;clear hW0;obtain ⟨B1, hB1⟩ := nm (w.heap.size);obtain ⟨B2, hB2⟩ := nm (w.heap.size + 1);rw [hB2] at HX ⊢;rw [hB1] at HX ⊢;clear hB1 hB2;obtain ⟨⟨a0, a1, a2, a3⟩, ⟨s0, s1⟩, -, -, -⟩ := HX.out _ br
 go_upto_region 6 with (go_at_call 23; (with_reducible refine (HC0.out _ br).mono ?_); rintro e w1 ⟨hx1, hb1⟩; obtain ⟨v1, v2, rfl, hr1⟩ := hx1.out; have HR1 := lh (hr1 HPL.out); clear hx1 hr1; rw [HPL.out])
 obtain ⟨sa, sc, hv1, -, -, -, hn1⟩ := num_of_row (v := v1) (L := planS h s G) (by rw [HOK.out.2.lenS]; exact HR1.out.1);obtain ⟨na, nc, hv2, -, -, -, hn2⟩ := num_of_row (v := v2) (L := planN h s) (by rw [HOK.out.2.lenN]; exact HR1.out.2);rw [HOK.out.2.lenS] at hv1;rw [HOK.out.2.lenN] at hv2;subst hv1;subst hv2;have HN1 := lh hn1;have HN2 := lh hn2;clear hn1 hn2 HR1 HC0 a0 a1 a2 a3 s0 s1;obtain ⟨n₀, hn0⟩ := nm (w1.heap.size);have hB0 : Below n₀ w1 w1 := by rw [← hn0]; exact br
 have hs0 : n₀ ≤ w1.heap.size := by omega
 have HXX : Hid (∀ w', Below n₀ w1 w' → SheetAt w' B2 s ∧ SheetIn w' s ∧ Nums w'.heap.size w' sa (planS h s G) ∧ Nums w'.heap.size w' na (planN h s)) := lh fun w' z => by
  rw [← hn0] at z;obtain ⟨-, q2, -, q4, -⟩ := HX.out w' (hb1.trans (z.mono hb1.size));exact ⟨q2, q4, HN1.out.grow z, HN2.out.grow z⟩
 have HWW : Hid (∀ w', Below n₀ w1 w' → Below w.heap.size w w') := lh fun w' z => by rw [← hn0] at z; exact HW.out w' (hb1.trans (z.mono hb1.size))
 have HSB : Hid (w.heap.size ≤ n₀) := lh (by have := (HW.out _ hb1).size; omega);clear HX HW HN1 HN2 hb1 hn0;obtain ⟨ca, hca⟩ := nm (s.ca);have HCA := lh hca;rw [hca];clear hca
 go_loopw [13, 14, 15] (fun v13 iv _ wr => ∃ k : Nat, iv = .int .i64 k ∧ k ≤ s.cues.length ∧ Below n₀ w1 wr ∧ n₀ ≤ wr.heap.size ∧ Hid (wr.ownsRow n₀ 69 3 v13 (lastsU (usesL h s G (ndB b) k)).length (qgflat (lastsU (usesL h s G (ndB b) k))))) (fun _ iv _ _ => s.cues.length - (intOf iv).toNat)
 case atStart => exact ⟨0, rfl, Nat.zero_le _, hB0, hs0, lh (World.ownsRow_nil _ _ _ _)⟩
 case round =>
  clear hB0 hs0;obtain ⟨v13, hv13⟩ := nm (u13 : Value);obtain ⟨k, rfl, hk, hB, hnw, HR⟩ := hrel;rw [hv13] at HR ⊢;clear hv13
  by_cases hlt : k < s.cues.length
  ·have hls : k < (planS h s G).length := by rw [HOK.out.2.lenS]; exact hlt
   have hln : k < (planN h s).length := by rw [HOK.out.2.lenN]; exact hlt
   obtain ⟨sb, so, e1, -, -⟩ := (HXX.out _ hB).2.2.1 (by omega);subst e1;obtain ⟨nb, no, e2, -, ey⟩ := (HXX.out _ hB).2.2.2 (by omega);subst e2;have yy := ey k hln;have HSY := lh fun z => lasts_yes h s G (ndB b) k z;have HSN := lh fun z => lasts_no h s G (ndB b) k z;have q1 := HOK.out.2.lens k hlt;have q2 := HOK.out.2.starts k hlt;have HLE : Hid ((lastsU (usesL h s G (ndB b) k)).length ≤ k) := lh (by have := lasts_len (usesL h s G (ndB b) k); rw [usesL_len] at this; exact this);obtain ⟨x, hx⟩ := nm (ig (planS h s G) k);obtain ⟨y, hy⟩ := nm (ig (planN h s) k);have HX5 := lh hx;have HY5 := lh hy;rw [hx] at q2 HSY;rw [hy] at q1 yy HSY HSN;obtain ⟨L, hL⟩ := nm (lastsU (usesL h s G (ndB b) k));rw [hL] at HR HSY HSN HLE;clear hx hy ey hL;have j0 : (0 : Int) ≤ (k : Int) := by omega
   have j1 : (k : Int) < (s.cues.length : Int) := by omega
   by_cases hz : y = 0
   ·have HSN2 := lh (HSN.out hz)
    have g1 : (y == 0) = true := beq_iff_eq.2 hz;clear hz
    go_wp2_with fail
    go_roundw
    case rel => exact ⟨k + 1, by go_num, by omega, hB, hnw, lh (by rw [HSN2.out]; exact HR.out)⟩
    case measure => simp [intOf]; omega
   have HSY2 := lh (HSY.out (by omega));have g1 : (y == 0) = false := beq_eq_false_iff_ne.2 hz;have wsum : IntKind.i64.wrap (x + y) = x + y := IntWalk.i64_in _ (by omega);have g2 : decide (1099511627776 < x + y) = false := dF (by omega);clear hz HSY HSN q1 q2
   have xs : ∀ w', HeldT n₀ w1 w' → w'.cell? ⟨sb, so + k, none⟩ = some (.int .i64 x) := fun w' z => by
    obtain ⟨sb', so', e, -, ex⟩ := (HXX.out w' z.old).2.2.1 (by omega)
    cases e
    have := ex k hls;rw [HX5.out] at this;exact this
   have xn : ∀ w', HeldT n₀ w1 w' → w'.cell? ⟨nb, no + k, none⟩ = some (.int .i64 y) := fun w' z => by
    obtain ⟨sb', so', e, -, ex⟩ := (HXX.out w' z.old).2.2.2 (by omega)
    cases e
    have := ex k hln;rw [HY5.out] at this;exact this
   have hH0 : HeldT n₀ w1 wr := ⟨hB, hnw⟩
   go_upto_region 9 with (fail)
   clear yy;refine wp_region_held_drew (S := (HeldT n₀ w1)) (by kernel_rfl) (hH0.next (br).drew) (fun hHeld => ?_);refine tk 0 ?_; refine tk 1 ?_; refine tk 2 ?_; refine tk 3 ?_; refine tk 4 ?_; refine tk 5 ?_; refine tk 6 ?_; refine tk 7 ?_; refine tk 8 ?_; refine tk 9 ?_;refine wpAnyH_done (by kernel_rfl) ?_ _;have HR8 := lh (show wr.drew.ownsRow n₀ 69 3 v13 L.length (qgflat L) from HR.out);clear HR hB hnw hH0;generalize wr.drew = W3 at *;obtain ⟨cb, co, ec, -, -⟩ := (HXX.out _ hHeld.old).2.1.lies (by omega);rw [HCA.out] at ec;subst ec;obtain ⟨q, hq⟩ := nm (cg s.cues k);have HQ := lh hq;rw [hq] at HSY2;have xc : ∀ w', HeldT n₀ w1 w' → w'.cell? ⟨B2, 0, none⟩ = some (.slice (some ⟨cb, co, none⟩) s.cues.length s.cc) := fun w' z => by rw [← HCA.out]; exact (HXX.out w' z.old).1.1
   have xq : ∀ w', HeldT n₀ w1 w' → w'.cell? ⟨cb, co + k * 7 + 5, none⟩ = some (.int .i64 q.crew) ∧ w'.cell? ⟨cb, co + k * 7 + 6, none⟩ = some (.int .i64 q.power) := fun w' z => by
    obtain ⟨cb', co', e, -, ex⟩ := (HXX.out w' z.old).2.1.lies (by omega);rw [HCA.out] at e
    cases e
    have := ex k hlt;rw [HQ.out] at this;exact ⟨this.2.2.2.2.2.1, this.2.2.2.2.2.2⟩
   have x5 := fun w' z => (xq w' z).1;have x6 := fun w' z => (xq w' z).2;clear hq xq
   go_upto_region 11 with (fail)
   have H0 := hHeld.next (Below.refl W3.heap.size W3).drew;have HR9 := lh (show W3.drew.ownsRow n₀ 69 3 v13 L.length (qgflat L) from HR8.out);refine wp_region_held_drew (S := (HeldT n₀ w1)) (by kernel_rfl) (H0) (fun hHeld => ?_);refine tk 0 ?_; refine tk 1 ?_; refine tk 2 ?_; refine tk 3 ?_; refine tk 4 ?_; refine tk 5 ?_; refine tk 6 ?_; refine tk 7 ?_; refine tk 8 ?_; refine tk 9 ?_; refine tk 10 ?_; refine tk 11 ?_; refine tk 12 ?_; refine tk 13 ?_; refine tk 14 ?_; refine tk 15 ?_; refine tk 16 ?_; refine tk 17 ?_; refine tk 18 ?_; refine tk 19 ?_;obtain ⟨W5, hW5⟩ := nm (W3.drew);simp only [hW5] at H0 HR9 ⊢;clear hW5 hHeld;refine r1 20 (fun K hK => ?_);rw [if_pos (by rfl)];go_split_ands
   go_wp2_with fail
   have H1 := H0.next (below_new W5 (.cells #[.int .i64 0, .int .i64 0, .int .i64 0] 69));have HR10 := lh (ownsRow_below HR9.out (below_new W5 (.cells #[.int .i64 0, .int .i64 0, .int .i64 0] 69)));have hP := PC.put W5 (.int .i64 0) (.int .i64 0) (.int .i64 0) 69;have hlo : n₀ ≤ W5.heap.size := H0.lo;have hne : Value.ownBlock v13 ≠ some W5.heap.size := fun e => Nat.lt_irrefl _ (HR9.out.lt _ e).2;obtain ⟨B9, hB9⟩ := nm (W5.heap.size);rw [hB9] at hP hlo hne ⊢;clear hB9;generalize W5.alloc (.cells #[.int .i64 0, .int .i64 0, .int .i64 0] 69) = W6 at *;refine hK.out _ _ H1 (fun hHeld => ?_);clear hK K
   try simp only [Act.put, qq]
   refine r1 21 (fun K hK => ?_);rw [if_pos (by rfl)];go_split_ands;obtain ⟨f0, f1, f2, f3, f4, f5, f6⟩ := id hP
   go_wp2_with fail
   have hP7 := ((hP.set0 (.int .i64 x)).set1 (.int .i64 (x + y))).set2 (.int .i64 q.power);have H7 := ((H1.put (o := 0) hlo (.int .i64 x)).put (o := 1) hlo (.int .i64 (x + y))).put (o := 2) hlo (.int .i64 q.power);have HR11 := lh (own_farP (own_farP (own_farP HR10.out (o := 0) hne (.int .i64 x)) (o := 1) hne (.int .i64 (x + y))) (o := 2) hne (.int .i64 q.power));refine hK.out _ _ H7 (fun hHeld => ?_);clear hK K f0 f1 f2 f3 f4 f5 f6 hP HR10 H1
   try simp only [Act.put, qq]
   refine wpAnyH_done (by kernel_rfl) ?_ _;generalize ((W6.setCell ⟨B9, 0, none⟩ (.int .i64 x)).setCell ⟨B9, 1, none⟩ (.int .i64 (x + y))).setCell ⟨B9, 2, none⟩ (.int .i64 q.power) = W7 at *;have HP7 := lh hP7;have hll : L.length ≤ 1000000 := by have := HLE.out; omega
   clear hP7 HR9 HR8 H0
   cases b
   case' true =>
    have x5' := x5 _ H7;have xc' := xc _ H7;obtain ⟨p0, p1, p2, p3, p4, p5, p6⟩ := HP7.out
    go_upto_region 14 with (fail)
    clear x5' xc' p0 p1 p2 p3 p4 p5 p6;replace HP7 := lh (HP7.out.set2 (.int .i64 q.crew));replace H7 := H7.put (o := 2) hlo (.int .i64 q.crew);replace HR11 := lh (own_farP HR11.out (o := 2) hne (.int .i64 q.crew));generalize W7.setCell ⟨B9, 2, none⟩ (.int .i64 q.crew) = W7 at *;have HSY3 : Hid (_ = L ++ [(x, x + y, q.crew)]) := HSY2
   case' false =>
    have HSY3 : Hid (_ = L ++ [(x, x + y, q.power)]) := HSY2
   case true =>
    obtain ⟨p0, p1, p2, p3, p4, p5, p6⟩ := HP7.out;have HR12 := lh (HR11.out.alloc (.cells #[.int .i64 x, .int .i64 (x + y), .int .i64 q.crew] 69));have hB12 := H7.old.alloc H7.lo (.cells #[.int .i64 x, .int .i64 (x + y), .int .i64 q.crew] 69);have hn12 : n₀ ≤ (W7.alloc (.cells #[.int .i64 x, .int .i64 (x + y), .int .i64 q.crew] 69)).heap.size := by simp; have := H7.lo; omega
    clear xs xn xc x5 x6
    go_wp2_with (at_builtin; refine part_append rfl _ _ rfl n₀ _ L rfl HR12.out _ (x, x + y, q.crew) rfl ⟨by simp, by simp, by simp⟩ hll hn12 ?_; intro v2 w2 hown2 hg2; have hB2 := grown_own HR12.out hg2 hB12 hn12 (Nat.le_refl _); have HO2 := lh hown2; have hs2 := Nat.le_trans hn12 hg2.size; clear hown2 hg2)
    go_roundw
    case rel => exact ⟨k + 1, by go_num, by omega, hB2, hs2, lh (by rw [HSY3.out]; exact HO2.out)⟩
    case measure => simp [intOf]; omega
   case false =>
    obtain ⟨p0, p1, p2, p3, p4, p5, p6⟩ := HP7.out;have HR12 := lh (HR11.out.alloc (.cells #[.int .i64 x, .int .i64 (x + y), .int .i64 q.power] 69));have hB12 := H7.old.alloc H7.lo (.cells #[.int .i64 x, .int .i64 (x + y), .int .i64 q.power] 69);have hn12 : n₀ ≤ (W7.alloc (.cells #[.int .i64 x, .int .i64 (x + y), .int .i64 q.power] 69)).heap.size := by simp; have := H7.lo; omega
    clear xs xn xc x5 x6
    go_wp2_with (at_builtin; refine part_append rfl _ _ rfl n₀ _ L rfl HR12.out _ (x, x + y, q.power) rfl ⟨by simp, by simp, by simp⟩ hll hn12 ?_; intro v2 w2 hown2 hg2; have hB2 := grown_own HR12.out hg2 hB12 hn12 (Nat.le_refl _); have HO2 := lh hown2; have hs2 := Nat.le_trans hn12 hg2.size; clear hown2 hg2)
    go_roundw
    case rel => exact ⟨k + 1, by go_num, by omega, hB2, hs2, lh (by rw [HSY3.out]; exact HO2.out)⟩
    case measure => simp [intOf]; omega
  ·obtain rfl : k = s.cues.length := by omega
   have HUO : Hid (UseOK (lastsU (usesL h s G (ndB b) s.cues.length))) := lh (lasts_ok fun u hu => by
    obtain ⟨j, hj, rfl⟩ := mem_ug.1 hu;rw [usesL_len] at hj;rw [usesL_at h s G (ndB b) hj];exact (HOK.out.2.starts j hj).1)
   have HUB : Hid (UseB (lastsU (usesL h s G (ndB b) s.cues.length))) := lh fun j hj => by
    have hm : ug (lastsU (usesL h s G (ndB b) s.cues.length)) j ∈ lastsU (usesL h s G (ndB b) s.cues.length) := mem_ug.2 ⟨j, hj, rfl⟩;obtain ⟨i, hi, e⟩ := mem_ug.1 (List.mem_filter.1 hm).1;rw [← e];exact usesL_bd HOK.out.1 (ndB_bd b) i hi
   have HLE : Hid ((lastsU (usesL h s G (ndB b) s.cues.length)).length ≤ 1000) := lh (by have := lasts_len (usesL h s G (ndB b) s.cues.length); rw [usesL_len] at this; omega);obtain ⟨L, hL⟩ := nm (lastsU (usesL h s G (ndB b) s.cues.length));rw [hL] at HR HUO HUB HLE HSP;clear hL;obtain ⟨pa, pc, e13, -, -, -, hp⟩ := part_of_row HR.out;subst e13;have HP := lh hp;clear hp
   go_wp2_with (go_at_call 24; (with_reducible refine (refsteps_any _ L _ _ HLE.out HUO.out HUB.out HP.out).mono ?_); rintro e w9 hx9; obtain ⟨v9, rfl, hr9, hb9⟩ := hx9.out; have HR9 := lh hr9; clear hx9 hr9; have hB9 := hB.trans (hb9.mono hnw))
   go_ret2
   exact ⟨lh ⟨v9, by first | rfl | (rw [HPL.out]; rfl), by rw [HSP.out]; exact ownsRow_base HR9.out (Nat.le_trans HSB.out hnw)⟩, HWW.out _ hB9⟩
theorem rsheet_crew (h : HouseR) (s : SheetR) (ga : Option Addr) (G : List Int) (gc : Nat) (w : World) (hh : HouseIn w h) (hs : SheetIn w s) (hG : Nums w.heap.size w ga G) (hgl : G.length ≤ 1000) :
  Calls Tryz.prog 9 #[.agg #[.string h.name, .int .i64 h.height, .slice h.sa h.sets.length h.sc, .slice h.ra h.roofs.length h.rc], .agg #[.slice s.ca s.cues.length s.cc, .slice s.pa s.pairs.length s.pc], .slice ga G.length gc, .bool true] w fun e w' => Hid (∃ v, e = .returned (.tuple #[v, .int .i64 (planE h s G)]) ∧ w'.ownsRow w.heap.size 41 2 v (sheetP h s G (CueR.crew ·)).length (oflat (sheetP h s G (CueR.crew ·)))) ∧ Below w.heap.size w w' := rsheet_b true h s ga G gc w hh hs hG hgl
theorem rsheet_power (h : HouseR) (s : SheetR) (ga : Option Addr) (G : List Int) (gc : Nat) (w : World) (hh : HouseIn w h) (hs : SheetIn w s) (hG : Nums w.heap.size w ga G) (hgl : G.length ≤ 1000) :
  Calls Tryz.prog 9 #[.agg #[.string h.name, .int .i64 h.height, .slice h.sa h.sets.length h.sc, .slice h.ra h.roofs.length h.rc], .agg #[.slice s.ca s.cues.length s.cc, .slice s.pa s.pairs.length s.pc], .slice ga G.length gc, .bool false] w fun e w' => Hid (∃ v, e = .returned (.tuple #[v, .int .i64 (planE h s G)]) ∧ w'.ownsRow w.heap.size 41 2 v (sheetP h s G (CueR.power ·)).length (oflat (sheetP h s G (CueR.power ·)))) ∧ Below w.heap.size w w' := rsheet_b false h s ga G gc w hh hs hG hgl
end
end Go.Proofs.YtlnodjcmdnmnlaaGreat
