import Derived.Test.YtlnodjcmdnmnlaaGreatV26
namespace Go.Proofs.YtlnodjcmdnmnlaaGreat
set_option maxRecDepth 100000
set_option linter.unusedSimpArgs false
set_option maxHeartbeats 80000000
section
open Go.RowKit Go.Shelf
attribute [local go_sem] Oper.semAt_some
theorem rlens_any (h : HouseR) (s : SheetR) (w : World) (hh : HouseIn w h) (hs : SheetIn w s) (hv : sheetB h s = true) :
  Calls Tryz.prog 37 #[.agg #[.string h.name, .int .i64 h.height, .slice h.sa h.sets.length h.sc, .slice h.ra h.roofs.length h.rc], .agg #[.slice s.ca s.cues.length s.cc, .slice s.pa s.pairs.length s.pc]] w fun e w' => Hid (∃ v, e = .returned v ∧ w'.ownsRow w.heap.size 3 1 v s.cues.length (nflat (lensL h s.cues s.cues.length))) ∧ Below w.heap.size w w' := by
 obtain ⟨hb0, HX, HW⟩ := o2 hh hs;have hsl := hh.slen;have hcl := hs.clen;have HML := lh hs.mlen;have HMC := lh hs.mcap;have HV := lh hv;have HOK := lh (sheetB_iff.1 hv);clear hh hs hb0 hv
 go_enter Tryz.func37, Tryz.ntmps37
 go_upto_region 1 with (fail)
 obtain ⟨W0, hW0⟩ := nm ((TW w h s) : World);simp only [hW0] at HX HW ⊢;clear hW0;obtain ⟨B1, hB1⟩ := nm (w.heap.size);obtain ⟨B2, hB2⟩ := nm (w.heap.size + 1);rw [hB2] at HX ⊢;rw [hB1] at HX ⊢;clear hB1 hB2;obtain ⟨⟨a0, a1, a2, a3⟩, ⟨s0, s1⟩, hin, sin⟩ := HX.out _ br;have HTR := lh (rtrims_any h s W0 hin sin HV.out);clear hin sin;obtain ⟨sa, hsa⟩ := nm (h.sa);have HSA := lh hsa;obtain ⟨ca, hca⟩ := nm (s.ca);have HCA := lh hca;rw [hsa] at a2 HTR;rw [hca] at s0 HTR;rw [hsa, hca];clear hsa hca
 go_upto_region 4 with (go_at_call 55; (with_reducible refine HTR.out.mono ?_); rintro e w1 ⟨hx1, hb1⟩; obtain ⟨ta, tc, P, rfl, ht1⟩ := hx1.out; have HT1 := lh ht1; clear hx1 ht1)
 clear a0 a1 a2 a3 s0 s1 HTR;obtain ⟨n₀, hn0⟩ := nm (w1.heap.size);have hB0 : Below n₀ w1 w1 := by rw [← hn0]; exact br
 have hs0 : n₀ ≤ w1.heap.size := by omega
 have HXX : Hid (∀ w', Below n₀ w1 w' → HouseAt w' B1 h ∧ SheetAt w' B2 s ∧ HouseIn w' h ∧ SheetIn w' s ∧ TrimsIn w' ta h s.cues P) := lh fun w' z => by
  rw [← hn0] at z;obtain ⟨q1, q2, q3, q4⟩ := HX.out w' (hb1.trans (z.mono hb1.size));exact ⟨q1, q2, q3, q4, HT1.out.grow z⟩
 have HWW : Hid (∀ w', Below n₀ w1 w' → Below w.heap.size w w') := lh fun w' z => by rw [← hn0] at z; exact HW.out w' (hb1.trans (z.mono hb1.size))
 have HSB : Hid (w.heap.size ≤ n₀) := lh (by have := (HW.out _ hb1).size; omega);have HTL := lh HT1.out.rows;clear HX HW HT1 hb1 hn0
 go_loopw [6, 7, 8, 9, 10] (fun v6 iv _ _ _ wr => ∃ k : Nat, iv = .int .i64 k ∧ k ≤ s.cues.length ∧ Below n₀ w1 wr ∧ n₀ ≤ wr.heap.size ∧ Hid (wr.ownsRow n₀ 3 1 v6 k (nflat (lensL h s.cues k)))) (fun _ iv _ _ _ _ => s.cues.length - (intOf iv).toNat)
 case atStart => exact ⟨0, rfl, Nat.zero_le _, hB0, hs0, lh (World.ownsRow_nil _ _ _ _)⟩
 case round =>
  clear hB0 hs0;obtain ⟨v6, hv6⟩ := nm (u6 : Value);obtain ⟨k, rfl, hk, hB, hnw, HR⟩ := hrel;rw [hv6] at HR ⊢;clear hv6;obtain ⟨-, ⟨s0, s1⟩, -, -, -⟩ := HXX.out _ hB;rw [HCA.out] at s0
  by_cases hlt : k < s.cues.length
  ·obtain ⟨cb, co, ha, -, -⟩ := (HXX.out _ hB).2.2.2.1.lies (by omega)
   rw [HCA.out] at ha;subst ha;obtain ⟨tb, tf, hta, -, -⟩ := (HXX.out _ hB).2.2.2.2.lies (by rw [HTL.out.len]; omega);subst hta;have hkP : k < P.length := by rw [HTL.out.len]; omega
   have HYT := lh (HTL.out.eq k (by omega));have HTO : Hid (TrimOK h (trimL h s.cues k)) := lh (trim_ok HOK.out.house (fun j hj => (HOK.out.each j hj).1) k (by omega));have HRT := lh (rightB_iff.2 (HOK.out.each k hlt).1);have HMK := lh (HML.out k hlt);have HMCK := lh (HMC.out k hlt);have HLS := lh (lensL_snoc h s.cues k);have HLL := lh (lensL_len h s.cues k);obtain ⟨q, hq⟩ := nm (cg s.cues k);have HQ := lh hq;obtain ⟨y, hy⟩ := nm (lg P k);have HYG := lh hy;rw [hq] at HRT HMK HMCK HLS;rw [hy] at HYT;rw [← HYT.out] at HTO HLS;have HTMK : Hid (TmOK (lenTo h y.xs q.moves)) := lh (by have := len_ok HOK.out.house HTO.out (rightB_iff.1 HRT.out).2 q.moves.length (Nat.le_refl _); rw [List.take_length] at this; exact this)
   have HLEN : Hid (∀ w', Below n₀ w1 w' → Calls Tryz.prog 56 #[.agg #[.string h.name, .int .i64 h.height, .slice h.sa h.sets.length h.sc, .slice h.ra h.roofs.length h.rc], .slice y.a y.xs.length y.c, .agg #[.string q.name, .string q.after, .int .i64 q.link, .int .i64 q.delay, .slice q.ma q.moves.length q.mc, .int .i64 q.crew, .int .i64 q.power]] w' fun e w2 => e = .returned (.agg #[.int .i64 (lenTo h y.xs q.moves).1, .int .i64 (lenTo h y.xs q.moves).2]) ∧ Below w'.heap.size w' w2) := lh fun w' z =>
    rlen_any h q y.a y.xs y.c w' (HXX.out w' z).2.2.1 (by have := (HXX.out w' z).2.2.2.1.each k hlt; rw [HQ.out] at this; exact this) HMK.out HMCK.out (by have := (HXX.out w' z).2.2.2.2.each k hkP; rw [HYG.out] at this; exact this) HOK.out.house HRT.out HTO.out
   rw [HSA.out] at HLEN;obtain ⟨p, hp⟩ := nm (lenTo h y.xs q.moves);rw [hp] at HLEN HLS HTMK;obtain ⟨L, hL⟩ := nm (lensL h s.cues k);rw [hL] at HR HLL HLS;clear hq hy hp hL
   go_upto_region 6 with (fail)
   clear s0 s1
   go_cut [8] (fun v8 wx => ∃ (B8 : Nat) (W6 : World), W6 = wx ∧ v8 = .pointer (some ⟨B8, 0, none⟩) ∧ Below n₀ w1 wx ∧ n₀ ≤ wx.heap.size ∧ Hid (FI wx B8 p.1 p.2 ∧ wx.ownsRow n₀ 3 1 v6 k (nflat L)))
   case first =>
    have x0 : ∀ w', HeldT n₀ w1 w' → w'.cell? ⟨B1, 0, none⟩ = some (.string h.name) := fun w' z => (HXX.out w' z.old).1.1;have x1 : ∀ w', HeldT n₀ w1 w' → w'.cell? ⟨B1, 1, none⟩ = some (.int .i64 h.height) := fun w' z => (HXX.out w' z.old).1.2.1;have x2 : ∀ w', HeldT n₀ w1 w' → w'.cell? ⟨B1, 2, none⟩ = some (.slice sa h.sets.length h.sc) := fun w' z => by rw [← HSA.out]; exact (HXX.out w' z.old).1.2.2.1
    have x3 : ∀ w', HeldT n₀ w1 w' → w'.cell? ⟨B1, 3, none⟩ = some (.slice h.ra h.roofs.length h.rc) := fun w' z => (HXX.out w' z.old).1.2.2.2;have xs : ∀ w', HeldT n₀ w1 w' → w'.cell? ⟨B2, 0, none⟩ = some (.slice (some ⟨cb, co, none⟩) s.cues.length s.cc) := fun w' z => by rw [← HCA.out]; exact (HXX.out w' z.old).2.1.1
    have xt : ∀ w', HeldT n₀ w1 w' → w'.cell? ⟨tb, tf + k, none⟩ = some (.slice y.a y.xs.length y.c) := fun w' z => by
     obtain ⟨tb', tf', e, -, ex⟩ := (HXX.out w' z.old).2.2.2.2.lies (by rw [HTL.out.len]; omega)
     cases e
     have := ex k hkP;rw [HYG.out] at this;exact this
    have hcq : ∀ w', HeldT n₀ w1 w' → w'.cell? ⟨cb, co + k * 7, none⟩ = some (.string q.name) ∧ w'.cell? ⟨cb, co + k * 7 + 1, none⟩ = some (.string q.after) ∧ w'.cell? ⟨cb, co + k * 7 + 2, none⟩ = some (.int .i64 q.link) ∧ w'.cell? ⟨cb, co + k * 7 + 3, none⟩ = some (.int .i64 q.delay) ∧ w'.cell? ⟨cb, co + k * 7 + 4, none⟩ = some (.slice q.ma q.moves.length q.mc) ∧ w'.cell? ⟨cb, co + k * 7 + 5, none⟩ = some (.int .i64 q.crew) ∧ w'.cell? ⟨cb, co + k * 7 + 6, none⟩ = some (.int .i64 q.power) := fun w' z => by
     obtain ⟨cb', co', e, -, ex⟩ := (HXX.out w' z.old).2.2.2.1.lies (by omega);rw [HCA.out] at e
     cases e
     have := ex k hlt;rw [HQ.out] at this;exact this
    have y0 := fun w' z => (hcq w' z).1;have y1 := fun w' z => (hcq w' z).2.1;have y2 := fun w' z => (hcq w' z).2.2.1;have y3 := fun w' z => (hcq w' z).2.2.2.1;have y4 := fun w' z => (hcq w' z).2.2.2.2.1;have y5 := fun w' z => (hcq w' z).2.2.2.2.2.1;have y6 := fun w' z => (hcq w' z).2.2.2.2.2.2;clear hcq;have j0 : (0 : Int) ≤ (k : Int) := by omega
    have j1 : (k : Int) < (s.cues.length : Int) + 1 := by omega
    have j2 : (k : Int) < (s.cues.length : Int) := by omega
    have H0 : HeldT n₀ w1 wr.drew := (HeldT.mk hB hnw).next (br).drew
    have R0 := lh (show wr.drew.ownsRow n₀ 3 1 v6 k (nflat L) from HR.out);refine wp_region_held_drew (S := (HeldT n₀ w1)) (by kernel_rfl) H0 (fun hHeld => ?_);obtain ⟨W5, hW5⟩ := nm (wr.drew);simp only [hW5] at hHeld H0 R0 ⊢;clear hW5;refine tk 0 ?_; refine tk 1 ?_; refine tk 2 ?_; refine tk 3 ?_; refine tk 4 ?_; refine tk 5 ?_; refine tk 6 ?_; refine tk 7 ?_; refine tk 8 ?_; refine tk 9 ?_;clear x0 x1 x2 x3 xs xt y0 y1 y2 y3 y4 y5 y6;refine rq [10, 11] ?_;refine AllReadyH.cons (o := _) rfl (fun K hK => ?_) (AllReadyH.cons (o := _) rfl (fun K hK => ?_) AllReadyH.nil)
    focus
     try simp only [q4, q5, q6]
     go_simp
     (go_at_call 56; go_split_ands; (with_reducible refine (HLEN.out _ H0.old).mono ?_); rintro e y1 ⟨rfl, hy1⟩)
     go_wp2_with fail
     have H1 := H0.next hy1;have R1 := lh (ownsRow_below R0.out hy1);refine hK.out _ _ H1 (fun hHeld => ?_);clear hK K
     try simp only [Act.put, qq]
     refine r1 11 (fun K hK => ?_);rw [if_pos (by rfl)];go_split_ands
     go_wp2_with fail
     have H2 := H1.next (below_new y1 (.cells #[.int .i64 0, .int .i64 0] 110));have R2 := lh (ownsRow_below R1.out (below_new y1 (.cells #[.int .i64 0, .int .i64 0] 110)));have F9_2 := FI.new y1 110;have hlo : n₀ ≤ y1.heap.size := H1.lo;have hne : Value.ownBlock v6 ≠ some y1.heap.size := fun e => Nat.lt_irrefl _ (R1.out.lt _ e).2;obtain ⟨B9, hB9⟩ := nm (y1.heap.size);rw [hB9] at F9_2 hlo hne ⊢;clear hB9;generalize y1.alloc (.cells #[.int .i64 0, .int .i64 0] 110) = y2 at *
    rotate_left
    focus
     rw [if_pos (by rfl)];go_split_ands
     go_wp2_with fail
     have H1 := H0.next (below_new W5 (.cells #[.int .i64 0, .int .i64 0] 110));have R1 := lh (ownsRow_below R0.out (below_new W5 (.cells #[.int .i64 0, .int .i64 0] 110)));have F9_1 := FI.new W5 110;have hlo : n₀ ≤ W5.heap.size := H0.lo;have hne : Value.ownBlock v6 ≠ some W5.heap.size := fun e => Nat.lt_irrefl _ (R0.out.lt _ e).2;obtain ⟨B9, hB9⟩ := nm (W5.heap.size);rw [hB9] at F9_1 hlo hne ⊢;clear hB9;generalize W5.alloc (.cells #[.int .i64 0, .int .i64 0] 110) = y1 at *;refine hK.out _ _ H1 (fun hHeld => ?_);clear hK K
     try simp only [Act.put, qq]
     refine r1 10 (fun K hK => ?_)
     try simp only [q4, q5, q6]
     go_simp
     (go_at_call 56; go_split_ands; (with_reducible refine (HLEN.out _ H1.old).mono ?_); rintro e y2 ⟨rfl, hy2⟩)
     go_wp2_with fail
     have H2 := H1.next hy2;have R2 := lh (ownsRow_below R1.out hy2);have F9_2 := F9_1.carry hy2
    rotate_left
    all_goals
     refine hK.out _ _ H2 (fun hHeld => ?_);clear hK K
     try simp only [Act.put, qq]
     refine r1 12 (fun K hK => ?_);rw [if_pos (by rfl)];go_split_ands;obtain ⟨f0, f1, f2, f3, f4⟩ := F9_2
     go_wp2_with fail
     refine hK.out _ _ ((H2.put hlo _).put hlo _) (fun hHeld => ?_);clear hK K
     try simp only [Act.put, qq]
     refine wpAnyH_done (by kernel_rfl) ?_ _
     go_wp2_with fail
     go_meet
     exact ⟨B9, _, rfl, rfl, ((H2.put hlo _).put hlo _).old, ((H2.put hlo _).put hlo _).lo, lh ⟨FI.set ⟨f0, f1, f2, f3, f4⟩ _ _, own_far (own_far R2.out f4 hne _) (by simp; exact f4) hne _⟩⟩
   case rest =>
    obtain ⟨B8, W6, rfl, rfl, hB8, hn8, hq8⟩ := hcut;clear HR hB hnw HLEN;have HQ8 := lh hq8.out;clear hq8;obtain ⟨n₁, hn1⟩ := nm (W6.heap.size);have HX7 : Hid (∀ w', Below n₁ W6 w' → Below n₀ w1 w' ∧ FI w' B8 p.1 p.2) := lh fun w' z => by rw [← hn1] at z; exact ⟨hB8.trans (z.mono hn8), HQ8.out.1.carry z⟩
    have hH6 : Below n₁ W6 W6 := by rw [← hn1]; exact br
    have hn6 : n₁ ≤ W6.heap.size := by omega
    have HN1 : Hid (n₀ ≤ n₁) := lh (by omega);have HTIMES := lh fun (w' : World) => rtimes_any p HTMK.out w';have HMS := lh (ms_low HTMK.out);have HMF : Hid (msF p = ceilI (lowN (1000 * p.1) p.2) (lowD (1000 * p.1) p.2)) := lh rfl;obtain ⟨N, hN⟩ := nm (lowN (1000 * p.1) p.2);obtain ⟨d, hd⟩ := nm (lowD (1000 * p.1) p.2);rw [hN, hd] at HTIMES HMS HMF;clear hn1 hN hd hB8 hn8
    go_upto_region 7 with (fail)
    go_cut [9, 10] (fun v9 v10 wx => ∃ (B9 : Nat) (W7 : World), W7 = wx ∧ v9 = .pointer (some ⟨B9, 0, none⟩) ∧ v10 = .int .i64 0 ∧ Below n₁ W6 wx ∧ n₁ ≤ wx.heap.size ∧ Hid (FI wx B9 N d ∧ wx.ownsRow n₀ 3 1 v6 k (nflat L)))
    case first =>
     have z0 : ∀ w', HeldT n₁ W6 w' → w'.cell? ⟨B8, 0, none⟩ = some (.int .i64 p.1) := fun w' z => (HX7.out w' z.old).2.1;have z1 : ∀ w', HeldT n₁ W6 w' → w'.cell? ⟨B8, 1, none⟩ = some (.int .i64 p.2) := fun w' z => (HX7.out w' z.old).2.2.1;have H0 : HeldT n₁ W6 W6.drew := (HeldT.mk hH6 hn6).next (br).drew
     have R0 := lh (show W6.drew.ownsRow n₀ 3 1 v6 k (nflat L) from HQ8.out.2);refine wp_region_held_drew (S := (HeldT n₁ W6)) (by kernel_rfl) H0 (fun hHeld => ?_);obtain ⟨W5, hW5⟩ := nm (W6.drew);simp only [hW5] at hHeld H0 R0 ⊢;clear hW5;refine tk 0 ?_;clear z0 z1;refine rq [1, 6] ?_;refine AllReadyH.cons (o := _) rfl (fun K hK => ?_) (AllReadyH.cons (o := _) rfl (fun K hK => ?_) AllReadyH.nil)
     ·try simp only [q4, q5, q6]
      go_simp
      (go_at_call 58; go_split_ands; (with_reducible refine (rof_any 1000 _).mono ?_); rintro e y1 ⟨rfl, hy1⟩)
      go_wp2_with fail
      have H1 := H0.next hy1;have R1 := lh (ownsRow_below R0.out hy1);refine hK.out _ _ H1 (fun hHeld => ?_);clear hK K
      try simp only [Act.put, qq]
      refine rq [2, 6] ?_;refine AllReadyH.cons (o := _) rfl (fun K hK => ?_) (AllReadyH.cons (o := _) rfl (fun K hK => ?_) AllReadyH.nil)
      focus
       try simp only [q4, q5, q6]
       go_simp
       (go_at_call 57; go_split_ands; (with_reducible refine (HTIMES.out _).mono ?_); rintro e y2 ⟨rfl, hy2⟩)
       go_wp2_with fail
       have H2 := H1.next hy2;have R2 := lh (ownsRow_below R1.out hy2);refine hK.out _ _ H2 (fun hHeld => ?_);clear hK K
       try simp only [Act.put, qq]
       refine tk 3 ?_;refine tk 4 ?_;refine tk 5 ?_;refine r1 6 (fun K hK => ?_);rw [if_pos (by rfl)];go_split_ands
       go_wp2_with fail
       have H3 := H2.next (below_new y2 (.cells #[.int .i64 0, .int .i64 0] 110));have R3 := lh (ownsRow_below R2.out (below_new y2 (.cells #[.int .i64 0, .int .i64 0] 110)));have F9_3 := FI.new y2 110;have hlo : n₁ ≤ y2.heap.size := H2.lo;have hne : Value.ownBlock v6 ≠ some y2.heap.size := fun e => Nat.lt_irrefl _ (R2.out.lt _ e).2;obtain ⟨B9, hB9⟩ := nm (y2.heap.size);rw [hB9] at F9_3 hlo hne ⊢;clear hB9;generalize y2.alloc (.cells #[.int .i64 0, .int .i64 0] 110) = y3 at *;refine hK.out _ _ H3 (fun hHeld => ?_);clear hK K
       try simp only [Act.put, qq]
      rotate_left
      focus
       rw [if_pos (by rfl)];go_split_ands
       go_wp2_with fail
       have H2 := H1.next (below_new y1 (.cells #[.int .i64 0, .int .i64 0] 110));have R2 := lh (ownsRow_below R1.out (below_new y1 (.cells #[.int .i64 0, .int .i64 0] 110)));have F9_2 := FI.new y1 110;have hlo : n₁ ≤ y1.heap.size := H1.lo;have hne : Value.ownBlock v6 ≠ some y1.heap.size := fun e => Nat.lt_irrefl _ (R1.out.lt _ e).2;obtain ⟨B9, hB9⟩ := nm (y1.heap.size);rw [hB9] at F9_2 hlo hne ⊢;clear hB9;generalize y1.alloc (.cells #[.int .i64 0, .int .i64 0] 110) = y2 at *;refine hK.out _ _ H2 (fun hHeld => ?_);clear hK K
       try simp only [Act.put, qq]
       refine r1 2 (fun K hK => ?_)
       try simp only [q4, q5, q6]
       go_simp
       (go_at_call 57; go_split_ands; (with_reducible refine (HTIMES.out _).mono ?_); rintro e y3 ⟨rfl, hy3⟩)
       go_wp2_with fail
       have H3 := H2.next hy3;have R3 := lh (ownsRow_below R2.out hy3);have F9_3 := F9_2.carry hy3;refine hK.out _ _ H3 (fun hHeld => ?_);clear hK K
       try simp only [Act.put, qq]
       refine tk 3 ?_;refine tk 4 ?_;refine tk 5 ?_
      rotate_left
      all_goals
       refine r1 7 (fun K hK => ?_);rw [if_pos (by rfl)];go_split_ands;obtain ⟨f0, f1, f2, f3, f4⟩ := F9_3
       go_wp2_with fail
       refine hK.out _ _ ((H3.put hlo _).put hlo _) (fun hHeld => ?_);clear hK K
       try simp only [Act.put, qq]
       refine tk 8 ?_;refine wpAnyH_done (by kernel_rfl) ?_ _
       go_wp2_with fail
       go_meet
       exact ⟨B9, _, rfl, rfl, rfl, ((H3.put hlo _).put hlo _).old, ((H3.put hlo _).put hlo _).lo, lh ⟨FI.set ⟨f0, f1, f2, f3, f4⟩ _ _, own_far (own_far R3.out f4 hne _) (by simp; exact f4) hne _⟩⟩
     ·rw [if_pos (by rfl)]
      go_split_ands
      go_wp2_with fail
      have H1 := H0.next (below_new W5 (.cells #[.int .i64 0, .int .i64 0] 110));have R1 := lh (ownsRow_below R0.out (below_new W5 (.cells #[.int .i64 0, .int .i64 0] 110)));have F9_1 := FI.new W5 110;have hlo : n₁ ≤ W5.heap.size := H0.lo;have hne : Value.ownBlock v6 ≠ some W5.heap.size := fun e => Nat.lt_irrefl _ (R0.out.lt _ e).2;obtain ⟨B9, hB9⟩ := nm (W5.heap.size);rw [hB9] at F9_1 hlo hne ⊢;clear hB9;generalize W5.alloc (.cells #[.int .i64 0, .int .i64 0] 110) = y1 at *;refine hK.out _ _ H1 (fun hHeld => ?_);clear hK K
      try simp only [Act.put, qq]
      refine r1 1 (fun K hK => ?_)
      try simp only [q4, q5, q6]
      go_simp
      (go_at_call 58; go_split_ands; (with_reducible refine (rof_any 1000 _).mono ?_); rintro e y2 ⟨rfl, hy2⟩)
      go_wp2_with fail
      have H2 := H1.next hy2;have R2 := lh (ownsRow_below R1.out hy2);have F9_2 := F9_1.carry hy2;refine hK.out _ _ H2 (fun hHeld => ?_);clear hK K
      try simp only [Act.put, qq]
      refine r1 2 (fun K hK => ?_)
      try simp only [q4, q5, q6]
      go_simp
      (go_at_call 57; go_split_ands; (with_reducible refine (HTIMES.out _).mono ?_); rintro e y3 ⟨rfl, hy3⟩)
      go_wp2_with fail
      have H3 := H2.next hy3;have R3 := lh (ownsRow_below R2.out hy3);have F9_3 := F9_2.carry hy3;refine hK.out _ _ H3 (fun hHeld => ?_);clear hK K
      try simp only [Act.put, qq]
      refine tk 3 ?_;refine tk 4 ?_;refine tk 5 ?_;refine r1 7 (fun K hK => ?_);rw [if_pos (by rfl)];go_split_ands;obtain ⟨f0, f1, f2, f3, f4⟩ := F9_3
      go_wp2_with fail
      refine hK.out _ _ ((H3.put hlo _).put hlo _) (fun hHeld => ?_);clear hK K
      try simp only [Act.put, qq]
      refine tk 8 ?_;refine wpAnyH_done (by kernel_rfl) ?_ _
      go_wp2_with fail
      go_meet
      exact ⟨B9, _, rfl, rfl, rfl, ((H3.put hlo _).put hlo _).old, ((H3.put hlo _).put hlo _).lo, lh ⟨FI.set ⟨f0, f1, f2, f3, f4⟩ _ _, own_far (own_far R3.out f4 hne _) (by simp; exact f4) hne _⟩⟩
    case rest =>
     obtain ⟨B9, W7, rfl, rfl, rfl, hB9, hn9, hq9⟩ := hcut;have HQ9 := lh hq9.out;obtain ⟨q0, q1, q2, q3, q4⟩ := hq9.out.1;clear hq9;have HBZ := lh (HX7.out _ hB9).1;have hn7 : n₀ ≤ W7.heap.size := by have := HN1.out; omega
     have HCEIL := lh (rceil_any N d ((validF_iff _ _).2 (by have := HMS.out; have := this.2.2.2.2; refine ⟨by omega, by omega, by omega, by omega, this⟩)) W7);rw [← HMF.out] at HCEIL;have hll : L.length ≤ 1000000 := by rw [HLL.out]; omega
     clear hB9 hn9 HX7
     go_wp2_with (first
      | (go_at_call 59; (with_reducible refine HCEIL.out.mono ?_); rintro e w8 ⟨rfl, hb8⟩; have hB8 := HBZ.out.trans (hb8.mono hn7); have hn8 := Nat.le_trans hn7 hb8.size; have HR8 := lh ((ownsRow_below HQ9.out.2 hb8).alloc (.cells #[.int .i64 (msF p)] 3)); have hB9 := hB8.alloc hn8 (.cells #[.int .i64 (msF p)] 3); have hn9 : n₀ ≤ (w8.alloc (.cells #[.int .i64 (msF p)] 3)).heap.size := by simp; omega)
      | (at_builtin; refine num_append rfl _ _ rfl n₀ _ L rfl (by rw [HLL.out]; exact HR8.out) _ (msF p) rfl (by simp) hll hn9 ?_; intro v2 w2 hown2 hg2; have hB2 := grown_own HR8.out hg2 hB9 hn9 (Nat.le_refl _); rw [← HLS.out] at hown2; have HO2 := lh hown2; have hs2 := Nat.le_trans hn9 hg2.size; clear hown2 hg2))
     go_roundw
     case rel => exact ⟨k + 1, by go_num, by omega, hB2, hs2, lh (by have := HO2.out; rw [lensL_len] at this; exact this)⟩
     case measure => simp [intOf]; omega
  ·obtain rfl : k = s.cues.length := by omega
   go_wp2_with fail
   go_ret;exact ⟨lh ⟨_, rfl, ownsRow_base HR.out HSB.out⟩, HWW.out _ hB⟩
theorem rright_any (h : HouseR) (q : CueR) (w : World) (hh : HouseIn0 w h) (hl : h.sets.length ≤ 1000) (hm : Movs w.heap.size w q.ma q.moves) (hml : q.moves.length ≤ 1000) :
  Calls Tryz.prog 53 #[.agg #[.string h.name, .int .i64 h.height, .slice h.sa h.sets.length h.sc, .slice h.ra h.roofs.length h.rc], .agg #[.string q.name, .string q.after, .int .i64 q.link, .int .i64 q.delay, .slice q.ma q.moves.length q.mc, .int .i64 q.crew, .int .i64 q.power]] w fun e w' => e = .returned (.bool (rightB h q)) ∧ Below w.heap.size w w' := by
 have hb0 : Below w.heap.size w ((w.alloc (HC h)).alloc (CC q)) := (below_new w _).alloc (by simp) _
 have HX : Hid (∀ w', Below ((w.alloc (HC h)).alloc (CC q)).heap.size ((w.alloc (HC h)).alloc (CC q)) w' → HouseAt w' w.heap.size h ∧ CueAt w' (w.heap.size + 1) q ∧ HouseIn0 w' h ∧ Movs w'.heap.size w' q.ma q.moves) := lh fun w' z =>
  ⟨((HouseAt.new w h _).carry (below_new _ _)).carry z, (CueAt.new (w.alloc _) q _ _ (by simp)).carry z, (hh.grow hb0).grow z, (hm.grow hb0).grow z⟩
 have HW : Hid (∀ w', Below ((w.alloc (HC h)).alloc (CC q)).heap.size ((w.alloc (HC h)).alloc (CC q)) w' → Below w.heap.size w w') := lh fun w' z => hb0.trans (z.mono hb0.size);clear hh hm hb0
 go_enter Tryz.func53, Tryz.ntmps53
 go_upto_region 1 with (fail)
 obtain ⟨W0, hW0⟩ := nm (((w.alloc (HC h)).alloc (CC q)) : World);simp only [hW0] at HX HW ⊢;clear hW0;obtain ⟨B1, hB1⟩ := nm (w.heap.size);obtain ⟨B2, hB2⟩ := nm (w.heap.size + 1);rw [hB2] at HX ⊢;rw [hB1] at HX ⊢;clear hB1 hB2;obtain ⟨sa, hsa⟩ := nm (h.sa);obtain ⟨qa, hqa⟩ := nm (q.ma);have HSA := lh hsa;have HQA := lh hqa;obtain ⟨⟨a0, a1, a2, a3⟩, ⟨c0, c1, c2, c3, c4, c5, c6⟩, -, -⟩ := HX.out _ br;rw [hsa] at a2;rw [hqa] at c4;rw [hsa, hqa];clear hsa hqa
 cases t1 : isNameB q.name
 case false =>
  have HZ := lh (right_no (h := h) (q := q) fun z => by have := z.1.name; rw [this] at t1; cases t1);have T1 := lh t1;clear t1
  go_wp2_with (go_at_call 84; (with_reducible refine (refisName_any q.name _).mono ?_); rintro e w1 ⟨rfl, rfl⟩; rw [T1.out])
  go_ret;exact ⟨ret_bool HZ.out.symm, HW.out _ br⟩
 have T1 := lh t1;clear t1
 cases t2 : decide (q.link < 1)
 case true =>
  have HZ := lh (right_no (h := h) (q := q) fun z => by have := z.1.link; have := of_decide_eq_true t2; omega)
  go_wp2_with (go_at_call 84; (with_reducible refine (refisName_any q.name _).mono ?_); rintro e w1 ⟨rfl, rfl⟩; rw [T1.out])
  go_ret;exact ⟨ret_bool HZ.out.symm, HW.out _ br⟩
 cases t3 : decide (3 < q.link)
 case true =>
  have HZ := lh (right_no (h := h) (q := q) fun z => by have := z.1.link; have := of_decide_eq_true t3; omega)
  go_wp2_with (go_at_call 84; (with_reducible refine (refisName_any q.name _).mono ?_); rintro e w1 ⟨rfl, rfl⟩; rw [T1.out])
  go_ret;exact ⟨ret_bool HZ.out.symm, HW.out _ br⟩
 cases t4 : decide (q.delay < 0)
 case true =>
  have HZ := lh (right_no (h := h) (q := q) fun z => by have := z.1.delay; have := of_decide_eq_true t4; omega)
  go_wp2_with (go_at_call 84; (with_reducible refine (refisName_any q.name _).mono ?_); rintro e w1 ⟨rfl, rfl⟩; rw [T1.out])
  go_ret;exact ⟨ret_bool HZ.out.symm, HW.out _ br⟩
 cases t5 : decide (2147483648 < q.delay)
 case true =>
  have HZ := lh (right_no (h := h) (q := q) fun z => by have := z.1.delay; have := of_decide_eq_true t5; omega)
  go_wp2_with (go_at_call 84; (with_reducible refine (refisName_any q.name _).mono ?_); rintro e w1 ⟨rfl, rfl⟩; rw [T1.out])
  go_ret;exact ⟨ret_bool HZ.out.symm, HW.out _ br⟩
 cases t6 : decide (q.crew < 0)
 case true =>
  have HZ := lh (right_no (h := h) (q := q) fun z => by have := z.1.crew; have := of_decide_eq_true t6; omega)
  go_wp2_with (go_at_call 84; (with_reducible refine (refisName_any q.name _).mono ?_); rintro e w1 ⟨rfl, rfl⟩; rw [T1.out])
  go_ret;exact ⟨ret_bool HZ.out.symm, HW.out _ br⟩
 cases t7 : decide (100 < q.crew)
 case true =>
  have HZ := lh (right_no (h := h) (q := q) fun z => by have := z.1.crew; have := of_decide_eq_true t7; omega)
  go_wp2_with (go_at_call 84; (with_reducible refine (refisName_any q.name _).mono ?_); rintro e w1 ⟨rfl, rfl⟩; rw [T1.out])
  go_ret;exact ⟨ret_bool HZ.out.symm, HW.out _ br⟩
 cases t8 : decide (q.power < 0)
 case true =>
  have HZ := lh (right_no (h := h) (q := q) fun z => by have := z.1.power; have := of_decide_eq_true t8; omega)
  go_wp2_with (go_at_call 84; (with_reducible refine (refisName_any q.name _).mono ?_); rintro e w1 ⟨rfl, rfl⟩; rw [T1.out])
  go_ret;exact ⟨ret_bool HZ.out.symm, HW.out _ br⟩
 cases t9 : decide (100 < q.power)
 case true =>
  have HZ := lh (right_no (h := h) (q := q) fun z => by have := z.1.power; have := of_decide_eq_true t9; omega)
  go_wp2_with (go_at_call 84; (with_reducible refine (refisName_any q.name _).mono ?_); rintro e w1 ⟨rfl, rfl⟩; rw [T1.out])
  go_ret;exact ⟨ret_bool HZ.out.symm, HW.out _ br⟩
 have HHD : Hid (HeadOK q) := lh ⟨T1.out, by have := of_decide_eq_false t2; have := of_decide_eq_false t3; omega, by have := of_decide_eq_false t4; have := of_decide_eq_false t5; omega, by have := of_decide_eq_false t6; have := of_decide_eq_false t7; omega, by have := of_decide_eq_false t8; have := of_decide_eq_false t9; omega⟩
 go_upto_region 6 with (go_at_call 84; (with_reducible refine (refisName_any q.name _).mono ?_); rintro e w1 ⟨rfl, rfl⟩; rw [T1.out])
 clear a0 a1 a2 a3 c0 c1 c2 c3 c4 c5 c6 t2 t3 t4 t5 t6 t7 t8 t9;have hB0 : Below W0.heap.size W0 W0 := br;obtain ⟨n₀, hn0⟩ := nm (W0.heap.size);rw [hn0] at HX HW hB0;have hn1 : n₀ ≤ W0.heap.size := by omega
 clear hn0
 go_loopw [5, 6, 7, 8] (fun iv _ _ _ wr => ∃ k : Nat, iv = .int .i64 k ∧ k ≤ q.moves.length ∧ Below n₀ W0 wr ∧ n₀ ≤ wr.heap.size ∧ Hid (∀ i, i < k → MoveOK h q.moves i)) (fun iv _ _ _ _ => q.moves.length - (intOf iv).toNat)
 case atStart => exact ⟨0, rfl, Nat.zero_le _, hB0, hn1, lh (fun _ h => absurd h (Nat.not_lt_zero _))⟩
 case round =>
  clear hB0 hn1;obtain ⟨k, rfl, hk, hB, hnw, HO⟩ := hrel;obtain ⟨-, ⟨c0, c1, c2, c3, c4, c5, c6⟩, -, hmv⟩ := HX.out _ hB;rw [HQA.out] at c4
  by_cases hlt : k < q.moves.length
  ·obtain ⟨mb, mo, hma, hmb, hmc⟩ := hmv (by omega)
   rw [HQA.out] at hma;subst hma;obtain ⟨e0, e1, e2, e3, e4⟩ := hmc k hlt;have HNO : Hid (¬ MoveOK h q.moves k → rightB h q = false) := lh fun z => right_no fun y => z (y.2 k hlt)
   have HYES : Hid (MoveOK h q.moves k → ∀ i, i < k + 1 → MoveOK h q.moves i) := lh fun z i hi => by
    rcases Nat.lt_or_eq_of_le (Nat.le_of_lt_succ hi) with l | l
    ·exact HO.out i l
    ·subst l; exact z
   obtain ⟨x, hx⟩ := nm (mg q.moves k);have HMK := lh hx;rw [hx] at e0 e1 e2 e3 e4;clear hmc hx HO hmv;have hB3 := hB.alloc hnw (.cells #[.string x.name, .int .i64 x.to, .int .i64 x.spd, .int .i64 x.rise, .int .i64 x.fall] 93);have HM3 := MvAt.new wr x 93;have hn3 : n₀ ≤ (wr.alloc (.cells #[.string x.name, .int .i64 x.to, .int .i64 x.spd, .int .i64 x.rise, .int .i64 x.fall] 93)).heap.size := by simp; omega
   have hlo : n₀ ≤ wr.heap.size := hnw
   go_upto_region 9 with (fail)
   clear c0 c1 c2 c3 c4 c5 c6 e0 e1 e2 e3 e4 hB hnw hmb;generalize wr.alloc (.cells #[.string x.name, .int .i64 x.to, .int .i64 x.spd, .int .i64 x.rise, .int .i64 x.fall] 93) = W3 at *;obtain ⟨B6, hB6⟩ := nm (wr.heap.size);rw [hB6] at HM3 hlo ⊢;clear hB6;have HM := lh HM3;obtain ⟨⟨a0, a1, a2, a3⟩, -, -, -⟩ := HX.out _ hB3;rw [HSA.out] at a2;obtain ⟨m0, m1, m2, m3, m4⟩ := HM3;have HSETC := lh (rfind_any h x.name W3 (HX.out _ hB3).2.2.1 hl);rw [HSA.out] at HSETC;obtain ⟨f, hf⟩ := nm (findS h.sets x.name);have HF := lh hf;clear hf
   go_upto_region 10 with (go_at_call 87; (with_reducible refine (HSETC.out).mono ?_); rintro e w4 ⟨rfl, hb4⟩; rw [HF.out])
   clear a0 a1 a2 a3 m0 m1 m2 m3 m4 HSETC;have HB4 := lh (hB3.trans (hb4.mono hn3));have HM4 := lh (HM.out.carry hb4);have hn4 : n₀ ≤ w4.heap.size := Nat.le_trans hn3 hb4.size;clear hB3 hn3 hb4 HM;obtain ⟨W3, hW3⟩ := nm (w4);rw [hW3] at HB4 HM4 hn4 ⊢;clear hW3;obtain ⟨n₁, hn1⟩ := nm (W3.heap.size);have hH0 : Below n₁ W3 W3 := by rw [← hn1]; exact br
   have HY : Hid (∀ w', Below n₁ W3 w' → Below n₀ W0 w' ∧ HouseAt w' B1 h ∧ CueAt w' B2 q ∧ HouseIn0 w' h ∧ Movs w'.heap.size w' q.ma q.moves ∧ MvAt w' B6 x) := lh fun w' z => by
    rw [← hn1] at z;have y := HB4.out.trans (z.mono hn4);obtain ⟨y1, y2, y3, y4⟩ := HX.out w' y;exact ⟨y, y1, y2, y3, y4, HM4.out.carry z⟩
   have hnn : n₁ ≤ W3.heap.size := by omega
   have HN1 : Hid (n₀ ≤ n₁) := lh (by omega);clear hn1 hn4 HM4 HB4;have hHeld0 : Below n₁ W3 W3.drew := hH0.drew;have x0 : ∀ w', Below n₁ W3 w' → w'.cell? ⟨B6, 0, none⟩ = some (.string x.name) := fun w' z => (HY.out w' z).2.2.2.2.2.1;have x1 : ∀ w', Below n₁ W3 w' → w'.cell? ⟨B6, 1, none⟩ = some (.int .i64 x.to) := fun w' z => (HY.out w' z).2.2.2.2.2.2.1;have x2 : ∀ w', Below n₁ W3 w' → w'.cell? ⟨B6, 2, none⟩ = some (.int .i64 x.spd) := fun w' z => (HY.out w' z).2.2.2.2.2.2.2.1;have x3 : ∀ w', Below n₁ W3 w' → w'.cell? ⟨B6, 3, none⟩ = some (.int .i64 x.rise) := fun w' z => (HY.out w' z).2.2.2.2.2.2.2.2.1;have x4 : ∀ w', Below n₁ W3 w' → w'.cell? ⟨B6, 4, none⟩ = some (.int .i64 x.fall) := fun w' z => (HY.out w' z).2.2.2.2.2.2.2.2.2;have xs : ∀ w', Below n₁ W3 w' → w'.cell? ⟨B1, 2, none⟩ = some (.slice sa h.sets.length h.sc) := fun w' z => by rw [← HSA.out]; exact (HY.out w' z).2.1.2.2.1
   cases hv : validM x
   case false =>
    have HZ := lh (HNO.out fun z => by have := z.1; rw [HMK.out, hv] at this; cases this);have HV := lh hv;clear hv;refine wp_region_held_drew (S := (Below n₁ W3)) (by kernel_rfl) (hHeld0) (fun hHeld => ?_);refine tk 0 ?_;refine r1 1 (fun K hK => ?_)
    try simp only [q4, q5, q6]
    go_simp
    (go_at_call 88; go_split_ands; (with_reducible refine (refvalid_anyM x _).mono ?_); rintro e w5 ⟨rfl, hb5⟩; rw [HV.out]; have hH5 := hHeld.trans (hb5.mono (by have := hHeld.size; omega)))
    go_wp2_with fail
    refine hK.out _ _ (hH5) (fun hHeld => ?_);clear hK K
    try simp only [Act.put, qq]
    refine tk 2 ?_; refine tk 3 ?_; refine sk 4 ?_; refine sk 5 ?_; refine tk 6 ?_; refine tk 7 ?_; refine sk 8 ?_; refine sk 9 ?_; refine sk 10 ?_; refine sk 11 ?_; refine sk 12 ?_; refine sk 13 ?_; refine sk 14 ?_; refine sk 15 ?_; refine sk 16 ?_; refine tk 17 ?_; refine tk 18 ?_; refine sk 19 ?_; refine sk 20 ?_; refine sk 21 ?_; refine sk 22 ?_; refine sk 23 ?_; refine sk 24 ?_; refine sk 25 ?_; refine sk 26 ?_; refine sk 27 ?_; refine tk 28 ?_;refine wpAnyH_done (by kernel_rfl) ?_ _
    go_wp2_with fail
    go_ret;exact ⟨ret_bool HZ.out.symm, HW.out _ (HY.out _ hH5).1⟩
   have HV := lh hv;clear hv
   by_cases hf0 : f < 0
   ·have HZ := lh (HNO.out fun z => by have := z.2.1; rw [HMK.out, HF.out] at this; omega)
    have g1 : decide (f < 0) = true := decide_eq_true hf0;clear hf0;refine wp_region_held_drew (S := (Below n₁ W3)) (by kernel_rfl) (hHeld0) (fun hHeld => ?_);refine tk 0 ?_;refine r1 1 (fun K hK => ?_)
    try simp only [q4, q5, q6]
    go_simp
    (go_at_call 88; go_split_ands; (with_reducible refine (refvalid_anyM x _).mono ?_); rintro e w5 ⟨rfl, hb5⟩; rw [HV.out]; have hH5 := hHeld.trans (hb5.mono (by have := hHeld.size; omega)))
    go_wp2_with fail
    refine hK.out _ _ (hH5) (fun hHeld => ?_);clear hK K
    try simp only [Act.put, qq]
    refine tk 2 ?_; refine tk 3 ?_; refine tk 4 ?_; refine tk 5 ?_; refine tk 6 ?_; refine tk 7 ?_; refine sk 8 ?_; refine sk 9 ?_; refine sk 10 ?_; refine sk 11 ?_; refine sk 12 ?_; refine sk 13 ?_; refine sk 14 ?_; refine sk 15 ?_; refine sk 16 ?_; refine tk 17 ?_; refine tk 18 ?_; refine sk 19 ?_; refine sk 20 ?_; refine sk 21 ?_; refine sk 22 ?_; refine sk 23 ?_; refine sk 24 ?_; refine sk 25 ?_; refine sk 26 ?_; refine sk 27 ?_; refine tk 28 ?_;refine wpAnyH_done (by kernel_rfl) ?_ _
    go_wp2_with fail
    go_ret;exact ⟨ret_bool HZ.out.symm, HW.out _ (HY.out _ hH5).1⟩
   have hfl : f.toNat < h.sets.length := by have := (find_name (h := h) (s := x.name) (by rw [HF.out]; omega)).1; rw [HF.out] at this; exact this
   obtain ⟨fn, hfn⟩ : ∃ n : Nat, f = n := ⟨f.toNat, by omega⟩;rw [hfn] at HF ⊢;have g1 : decide ((fn : Int) < 0) = false := dF (by omega);have hfl : fn < h.sets.length := by omega
   clear hf0 hfn;obtain ⟨sb, so, hs1, -, -⟩ := (HY.out _ hH0).2.2.2.1.sets (by omega);rw [HSA.out] at hs1;subst hs1;obtain ⟨y, hy⟩ := nm (hg h.sets fn);have HGY := lh hy
   have xy : ∀ w', Below n₁ W3 w' → w'.cell? ⟨sb, so + fn * 13 + 2, none⟩ = some (.int .i64 y.low) ∧ w'.cell? ⟨sb, so + fn * 13 + 3, none⟩ = some (.int .i64 y.high) := fun w' z => by
    obtain ⟨sb', so', e, -, ex⟩ := (HY.out w' z).2.2.2.1.sets (by omega);rw [HSA.out] at e
    cases e
    have := ex fn hfl;rw [HGY.out] at this;exact ⟨this.2.2.1, this.2.2.2.1⟩
   have y1 := fun w' z => (xy w' z).1;have y2 := fun w' z => (xy w' z).2;have HSM : Hid (setM h x = y) := lh (by unfold setM; rw [HF.out]; exact HGY.out);have g6 : (fn : Int) < (h.sets.length : Int) := by omega
   have g7 : 0 ≤ (fn : Int) := by omega
   clear xy hy
   by_cases hlw : x.to < y.low
   ·have HZ := lh (HNO.out fun z => by have := z.2.2.1; rw [HMK.out, HSM.out] at this; omega)
    have g2 : decide (x.to < y.low) = true := decide_eq_true hlw;clear hlw;refine wp_region_held_drew (S := (Below n₁ W3)) (by kernel_rfl) (hHeld0) (fun hHeld => ?_);refine tk 0 ?_;refine r1 1 (fun K hK => ?_)
    try simp only [q4, q5, q6]
    go_simp
    (go_at_call 88; go_split_ands; (with_reducible refine (refvalid_anyM x _).mono ?_); rintro e w5 ⟨rfl, hb5⟩; rw [HV.out]; have hH5 := hHeld.trans (hb5.mono (by have := hHeld.size; omega)))
    go_wp2_with fail
    refine hK.out _ _ (hH5) (fun hHeld => ?_);clear hK K
    try simp only [Act.put, qq]
    refine tk 2 ?_; refine tk 3 ?_; refine tk 4 ?_; refine tk 5 ?_; refine tk 6 ?_; refine tk 7 ?_; refine tk 8 ?_; refine tk 9 ?_; refine tk 10 ?_; refine tk 11 ?_; refine tk 12 ?_; refine tk 13 ?_; refine tk 14 ?_; refine tk 15 ?_; refine tk 16 ?_; refine tk 17 ?_; refine tk 18 ?_; refine sk 19 ?_; refine sk 20 ?_; refine sk 21 ?_; refine sk 22 ?_; refine sk 23 ?_; refine sk 24 ?_; refine sk 25 ?_; refine sk 26 ?_; refine sk 27 ?_; refine tk 28 ?_;refine wpAnyH_done (by kernel_rfl) ?_ _
    go_wp2_with fail
    go_ret;exact ⟨ret_bool HZ.out.symm, HW.out _ (HY.out _ hH5).1⟩
   have g2 : decide (x.to < y.low) = false := decide_eq_false hlw
   by_cases hhg : y.high < x.to
   ·have HZ := lh (HNO.out fun z => by have := z.2.2.2.1; rw [HMK.out, HSM.out] at this; omega)
    have g3 : decide (y.high < x.to) = true := decide_eq_true hhg;clear hlw hhg;refine wp_region_held_drew (S := (Below n₁ W3)) (by kernel_rfl) (hHeld0) (fun hHeld => ?_);refine tk 0 ?_;refine r1 1 (fun K hK => ?_)
    try simp only [q4, q5, q6]
    go_simp
    (go_at_call 88; go_split_ands; (with_reducible refine (refvalid_anyM x _).mono ?_); rintro e w5 ⟨rfl, hb5⟩; rw [HV.out]; have hH5 := hHeld.trans (hb5.mono (by have := hHeld.size; omega)))
    go_wp2_with fail
    refine hK.out _ _ (hH5) (fun hHeld => ?_);clear hK K
    try simp only [Act.put, qq]
    refine tk 2 ?_; refine tk 3 ?_; refine tk 4 ?_; refine tk 5 ?_; refine tk 6 ?_; refine tk 7 ?_; refine tk 8 ?_; refine tk 9 ?_; refine tk 10 ?_; refine tk 11 ?_; refine tk 12 ?_; refine tk 13 ?_; refine tk 14 ?_; refine tk 15 ?_; refine tk 16 ?_; refine tk 17 ?_; refine tk 18 ?_; refine tk 19 ?_; refine tk 20 ?_; refine tk 21 ?_; refine tk 22 ?_; refine tk 23 ?_; refine tk 24 ?_; refine tk 25 ?_; refine tk 26 ?_; refine tk 27 ?_; refine tk 28 ?_;refine wpAnyH_done (by kernel_rfl) ?_ _
    go_wp2_with fail
    go_ret;exact ⟨ret_bool HZ.out.symm, HW.out _ (HY.out _ hH5).1⟩
   have g3 : decide (y.high < x.to) = false := decide_eq_false hhg;have HIN : Hid (validM (mg q.moves k) = true ∧ 0 ≤ findS h.sets (mg q.moves k).name ∧ (setM h (mg q.moves k)).low ≤ (mg q.moves k).to ∧ (mg q.moves k).to ≤ (setM h (mg q.moves k)).high) := lh (by rw [HMK.out, HSM.out, HF.out]; exact ⟨HV.out, by omega, by omega, by omega⟩);clear hlw hhg;refine wp_region_held_drew (S := (Below n₁ W3)) (by kernel_rfl) (hHeld0) (fun hHeld => ?_);refine tk 0 ?_;refine r1 1 (fun K hK => ?_)
   try simp only [q4, q5, q6]
   go_simp
   (go_at_call 88; go_split_ands; (with_reducible refine (refvalid_anyM x _).mono ?_); rintro e w5 ⟨rfl, hb5⟩; rw [HV.out]; have hH5 := hHeld.trans (hb5.mono (by have := hHeld.size; omega)))
   go_wp2_with fail
   refine hK.out _ _ (hH5) (fun hHeld => ?_);clear hK K
   try simp only [Act.put, qq]
   refine tk 2 ?_; refine tk 3 ?_; refine tk 4 ?_; refine tk 5 ?_; refine tk 6 ?_; refine tk 7 ?_; refine tk 8 ?_; refine tk 9 ?_; refine tk 10 ?_; refine tk 11 ?_; refine tk 12 ?_; refine tk 13 ?_; refine tk 14 ?_; refine tk 15 ?_; refine tk 16 ?_; refine tk 17 ?_; refine tk 18 ?_; refine tk 19 ?_; refine tk 20 ?_; refine tk 21 ?_; refine tk 22 ?_; refine tk 23 ?_; refine tk 24 ?_; refine tk 25 ?_; refine tk 26 ?_; refine tk 27 ?_; refine tk 28 ?_;refine wpAnyH_done (by kernel_rfl) ?_ _
   go_upto_region 13 with (fail)
   clear x0 x1 x2 x3 x4 xs y1 y2 g1 g2 g3 g6 g7 hHeld hHeld0
   go_loopw [8] (fun jv wx => ∃ j : Nat, jv = .int .i64 j ∧ j ≤ k ∧ Below n₁ W3 wx ∧ Hid (∀ i, i < j → (mg q.moves i).name ≠ x.name)) (fun jv _ => k - (intOf jv).toNat)
   case atStart => exact ⟨0, rfl, Nat.zero_le _, hH5, lh (fun _ h => absurd h (Nat.not_lt_zero _))⟩
   case round =>
    clear hH5;obtain ⟨j, rfl, hj, hBx, HJ⟩ := hrel
    by_cases hjt : j < k
    ·obtain ⟨-, -, ⟨c0, c1, c2, c3, c4, c5, c6⟩, -, hmv, ⟨m0, -, -, -, -⟩⟩ := HY.out _ hBx
     rw [HQA.out] at c4 hmv;obtain ⟨mb', mo', e, -, hmc⟩ := hmv (by omega)
     cases e
     obtain ⟨e0, -, -, -, -⟩ := hmc j (by omega);have hse := str_eq (mg q.moves j).name x.name;have j0 : 0 ≤ (j : Int) := by omega
     have j1 : (j : Int) < (q.moves.length : Int) := by omega
     clear hmc hmv
     by_cases he : (mg q.moves j).name = x.name
     ·have HZ := lh (HNO.out fun z => z.2.2.2.2 j hjt (by rw [HMK.out]; exact he))
      rw [decide_eq_true he] at hse;clear he
      go_wp2_with (go_quiet (fail))
      go_ret;exact ⟨ret_bool HZ.out.symm, HW.out _ (HY.out _ (below_drewN hBx _)).1⟩
     ·have HJ2 : Hid (∀ i, i < j + 1 → (mg q.moves i).name ≠ x.name) := lh fun i hi => by
       rcases Nat.lt_or_eq_of_le (Nat.le_of_lt_succ hi) with l | l
       ·exact HJ.out i l
       ·subst l; exact he
      rw [decide_eq_false he] at hse;clear he
      go_wp2_with (go_quiet (fail))
      go_roundw
      case rel => exact ⟨j + 1, by go_num, by omega, below_drewN hBx _, HJ2⟩
      case measure => simp [intOf]; omega
    ·obtain rfl : j = k := by omega
     have HALL := lh (HYES.out ⟨HIN.out.1, HIN.out.2.1, HIN.out.2.2.1, HIN.out.2.2.2, by rw [HMK.out]; exact HJ.out⟩);have hBR := (HY.out _ hBx).1;have hnR : n₀ ≤ wr.heap.size := by have := hBx.size; have := HN1.out; omega
     go_wp2_with fail
     go_roundw
     case rel => exact ⟨j + 1, by go_num, by omega, hBR, hnR, HALL⟩
     case measure => simp [intOf]; omega
  ·obtain rfl : k = q.moves.length := by omega
   have HZ := lh (rightB_iff.2 ⟨HHD.out, HO.out⟩);clear hmv
   go_wp2_with fail
   go_ret;exact ⟨ret_bool HZ.out.symm, HW.out _ hB⟩
theorem rcfind_any (ca : Option Addr) (L : List CueR) (cc : Nat) (v : Value) (s : ByteArray) (w : World) (hlen : L.length ≤ 1100) (hI : Cues w.heap.size w ca L) :
  Calls Tryz.prog 54 #[.agg #[.slice ca L.length cc, v], .string s] w fun e w' => e = .returned (.int .i64 (findI L s)) ∧ Below w.heap.size w w' := by
 have hb0 : Below w.heap.size w (w.alloc (.cells #[.slice ca L.length cc, v] 29)) := below_new w _;have HI := lh (hI.below hb0); clear hI;have HB := lh hb0; clear hb0
 go_enter Tryz.func54, Tryz.ntmps54
 go_wp2
 go_loop [5] (fun i => ∃ k : Nat, k ≤ L.length ∧ i = .int .i64 k ∧ Hid (∀ j, j < k → decide ((cg L j).name = s) = false)) (fun i => L.length - (intOf i).toNat)
 case atStart => exact ⟨0, Nat.zero_le _, rfl, lh (fun _ h => absurd h (Nat.not_lt_zero _))⟩
 case round =>
  obtain ⟨k, hk, rfl, HA⟩ := hrel
  by_cases hlt : k < L.length
  ·obtain ⟨b, off, rfl, hb, hc⟩ := HI.out (by omega)
   obtain ⟨d0, _⟩ := hc k hlt;have H := lh (str_eq (cg L k).name s);have hs := str_eq (cg L k).name s;clear hc
   by_cases hx : (cg L k).name = s
   ·have H := lh (cue_first_hit L (fun r => decide (r.name = s)) k hlt (decide_eq_true hx) HA.out)
    rw [decide_eq_true hx] at hs;clear hx
    go_wp2
    go_ret;exact ⟨ret_int H.out.symm, HB.out⟩
   ·rw [decide_eq_false hx] at hs
    have HB' : Hid (∀ j, j < k + 1 → decide ((cg L j).name = s) = false) := lh fun j hj => by
     rcases Nat.lt_or_ge j k with l | l
     ·exact HA.out j l
     ·obtain rfl : j = k := by omega
      exact decide_eq_false hx
    clear hx
    go_wp2
    go_round
    case rel => exact ⟨k + 1, by omega, by go_num, HB'⟩
    case measure => simp [intOf]; omega
  ·obtain rfl : k = L.length := by omega
   have H := lh (cue_first_miss L (fun r => decide (r.name = s)) HA.out)
   go_wp2
   go_ret;exact ⟨ret_int H.out.symm, HB.out⟩
theorem same_b (u y : ByteArray × ByteArray) : samePair u y ↔ (decide (u.1 = y.1) && decide (u.2 = y.2) || decide (u.1 = y.2) && decide (u.2 = y.1)) = true := by
 unfold samePair;simp only [Bool.or_eq_true, Bool.and_eq_true, decide_eq_true_eq];exact ⟨fun z => z.elim (fun e => .inl (by rw [e]; exact ⟨rfl, rfl⟩)) .inr, fun z => z.elim (fun e => .inl (Prod.ext e.1 e.2)) .inr⟩
theorem rsheet_any (h : HouseR) (s : SheetR) (w : World) (hh : HouseIn w h) (hs : SheetIn w s) :
  Calls Tryz.prog 36 #[.agg #[.string h.name, .int .i64 h.height, .slice h.sa h.sets.length h.sc, .slice h.ra h.roofs.length h.rc], .agg #[.slice s.ca s.cues.length s.cc, .slice s.pa s.pairs.length s.pc]] w fun e w' => e = .returned (.bool (sheetB h s)) ∧ Below w.heap.size w w' := by
 obtain ⟨hb0, HX, HW⟩ := o2 hh hs;have hsl := hh.slen;have hcl := hs.clen;have HML := lh hs.mlen;have HNO := lh fun (n : ¬ SheetOK h s) => sheet_no n;clear hh hs hb0
 go_enter Tryz.func36, Tryz.ntmps36
 go_upto_region 1 with (fail)
 obtain ⟨W0, hW0⟩ := nm ((TW w h s) : World);simp only [hW0] at HX HW ⊢;clear hW0;obtain ⟨B1, hB1⟩ := nm (w.heap.size);obtain ⟨B2, hB2⟩ := nm (w.heap.size + 1);rw [hB2] at HX ⊢;rw [hB1] at HX ⊢;clear hB1 hB2;obtain ⟨ca, hca⟩ := nm (s.ca);obtain ⟨pa, hpa⟩ := nm (s.pa);have HCA := lh hca;have HPA := lh hpa;obtain ⟨⟨a0, a1, a2, a3⟩, ⟨s0, s1⟩, -, -⟩ := HX.out _ br;rw [hca] at s0;rw [hpa] at s1;rw [hca, hpa];clear hca hpa;have HC0 := lh fun (w' : World) (z : HouseIn w' h) => rhouse_any h w' z;have HC2 : Hid (∀ (w' : World) (x : ByteArray), SheetIn w' s → Calls Tryz.prog 54 #[.agg #[.slice ca s.cues.length s.cc, .slice pa s.pairs.length s.pc], .string x] w' fun e w2 => e = .returned (.int .i64 (findI s.cues x)) ∧ Below w'.heap.size w' w2) := lh fun w' x z => rcfind_any ca s.cues s.cc _ x w' (by omega) (by rw [← HCA.out]; exact z.lies)
 cases hv : houseB h
 case false =>
  have HV := lh hv;have HZ := lh (HNO.out fun z => by have := z.house; rw [HV.out] at this; cases this);clear hv
  go_wp2_with (go_at_call 52; (with_reducible refine (HC0.out _ (HX.out _ br).2.2.1).mono ?_); rintro e w1 ⟨rfl, hb1⟩; rw [HV.out]; obtain ⟨-, ⟨t0, t1⟩, -, -⟩ := HX.out _ hb1; rw [HCA.out] at t0; rw [HPA.out] at t1)
  go_ret;exact ⟨ret_bool HZ.out.symm, HW.out _ hb1⟩
 have HV := lh hv;clear hv
 by_cases hl60 : 60 < s.cues.length
 ·have HZ := lh (HNO.out fun z => by have := z.cues; omega)
  have g1 : decide ((60 : Int) < (s.cues.length : Int)) = true := dT (by omega);clear hl60
  go_wp2_with (go_at_call 52; (with_reducible refine (HC0.out _ (HX.out _ br).2.2.1).mono ?_); rintro e w1 ⟨rfl, hb1⟩; rw [HV.out]; obtain ⟨-, ⟨t0, t1⟩, -, -⟩ := HX.out _ hb1; rw [HCA.out] at t0; rw [HPA.out] at t1)
  go_ret;exact ⟨ret_bool HZ.out.symm, HW.out _ hb1⟩
 have g1 : decide ((60 : Int) < (s.cues.length : Int)) = false := dF (by omega)
 by_cases hl10 : 1000 < s.pairs.length
 ·have HZ := lh (HNO.out fun z => by have := z.pairs.1; omega)
  have g2 : decide ((1000 : Int) < (s.pairs.length : Int)) = true := dT (by omega);clear hl60 hl10
  go_wp2_with (go_at_call 52; (with_reducible refine (HC0.out _ (HX.out _ br).2.2.1).mono ?_); rintro e w1 ⟨rfl, hb1⟩; rw [HV.out]; obtain ⟨-, ⟨t0, t1⟩, -, -⟩ := HX.out _ hb1; rw [HCA.out] at t0; rw [HPA.out] at t1)
  go_ret;exact ⟨ret_bool HZ.out.symm, HW.out _ hb1⟩
 have g2 : decide ((1000 : Int) < (s.pairs.length : Int)) = false := dF (by omega)
 go_upto_region 5 with (go_at_call 52; (with_reducible refine (HC0.out _ (HX.out _ br).2.2.1).mono ?_); rintro e w1 ⟨rfl, hb1⟩; rw [HV.out]; obtain ⟨-, ⟨t0, t1⟩, -, -⟩ := HX.out _ hb1; rw [HCA.out] at t0; rw [HPA.out] at t1)
 clear a0 a1 a2 a3 s0 s1 t0 t1 g1 g2;obtain ⟨n₀, hn0⟩ := nm (W0.heap.size);rw [hn0] at HX HW hb1;have hn1 : n₀ ≤ w1.heap.size := by have := hb1.size; omega
 clear hn0
 go_loopw [5, 6, 7, 8] (fun mv iv _ _ wr => ∃ k : Nat, mv = .int .i64 ((movesOf (s.cues.take k)).length : Int) ∧ iv = .int .i64 k ∧ k ≤ s.cues.length ∧ (movesOf (s.cues.take k)).length ≤ 100 ∧ Hid (∀ j, j < k → CueAtOK h s.cues j) ∧ Below n₀ W0 wr ∧ n₀ ≤ wr.heap.size) (fun _ iv _ _ _ => s.cues.length - (intOf iv).toNat)
 case atStart => exact ⟨0, rfl, rfl, Nat.zero_le _, by simp [movesOf], lh (fun _ z => absurd z (Nat.not_lt_zero _)), hb1, hn1⟩
 case round =>
  clear hb1 hn1;obtain ⟨k, rfl, rfl, hk, hmt, HA, hB, hnw⟩ := hrel;obtain ⟨-, ⟨s0, s1⟩, -, hsi⟩ := HX.out _ hB;rw [HCA.out] at s0;rw [HPA.out] at s1
  by_cases hlt : k < s.cues.length
  ·obtain ⟨cb, co, ha, hcb, hcc⟩ := hsi.lies (by omega)
   rw [HCA.out] at ha;subst ha;obtain ⟨d0, d1, d2, d3, d4, d5, d6⟩ := hcc k hlt;have HMV := lh (hsi.each k hlt);have HNK : Hid (¬ CueAtOK h s.cues k → sheetB h s = false) := lh fun n => HNO.out fun z => n (z.each k hlt)
   have HNX : Hid (CueAtOK h s.cues k → ∀ j, j < k + 1 → CueAtOK h s.cues j) := lh fun z j hj => by
    rcases Nat.lt_or_ge j k with l | l
    ·exact HA.out j l
    ·obtain rfl : j = k := by omega
     exact z
   have HMT : Hid ((movesOf (s.cues.take (k + 1))).length = (movesOf (s.cues.take k)).length + (cg s.cues k).moves.length) := lh (by rw [movesOf_next _ hlt, List.length_append]);have HMP := lh (movesOf_part s.cues (k + 1));have hmk := HML.out k hlt;obtain ⟨q, hq⟩ := nm (cg s.cues k);have HQK := lh hq;rw [hq] at d0 d1 d2 d3 d4 d5 d6 HMV HMT hmk;obtain ⟨mt, hmt2⟩ := nm ((movesOf (s.cues.take k)).length : Nat);rw [hmt2] at HMT hmt ⊢;clear hq hcc hmt2 hsi HA;have HC1 := lh fun (w' : World) (z : HouseIn0 w' h) (z2 : Movs w'.heap.size w' q.ma q.moves) => rright_any h q w' z hsl z2 hmk;have HBX := lh (hB.alloc hnw (CC q));have HAX : Hid (CueAt (wr.alloc (CC q)) wr.heap.size q) := lh (CueAt.new wr q _ _ rfl);have HMV3 := lh (HMV.out.grow (below_new wr (CC q)));have hn3 : n₀ ≤ (wr.alloc (CC q)).heap.size := by simp; omega
   go_upto_region 8 with (fail)
   clear s0 s1 d0 d1 d2 d3 d4 d5 d6 hB HMV hcb hnw;generalize wr.alloc (CC q) = W3 at *;obtain ⟨B7, hB7⟩ := nm (wr.heap.size);rw [hB7] at HAX ⊢;clear hB7;obtain ⟨n₁, hn1⟩ := nm (W3.heap.size);have hH0 : Below n₁ W3 W3 := by rw [← hn1]; exact br
   have HY : Hid (∀ w', Below n₁ W3 w' → Below n₀ W0 w' ∧ HouseAt w' B1 h ∧ SheetAt w' B2 s ∧ HouseIn w' h ∧ SheetIn w' s ∧ CueAt w' B7 q ∧ Movs w'.heap.size w' q.ma q.moves) := lh fun w' z => by
    rw [← hn1] at z;have y := HBX.out.trans (z.mono hn3);obtain ⟨y1, y2, y3, y4⟩ := HX.out w' y;exact ⟨y, y1, y2, y3, y4, HAX.out.carry z, HMV3.out.grow z⟩
   have hnn : n₁ ≤ W3.heap.size := by omega
   have HN1 : Hid (n₀ ≤ n₁) := lh (by omega);clear hn1 hn3 HBX HAX HMV3;obtain ⟨-, ⟨a0, a1, a2, a3⟩, ⟨s0, s1⟩, -, -, ⟨c0, c1, c2, c3, c4, c5, c6⟩, -⟩ := HY.out _ hH0;rw [HCA.out] at s0;rw [HPA.out] at s1;have wm : IntKind.i64.wrap ((mt : Int) + (q.moves.length : Int)) = (mt : Int) + (q.moves.length : Int) := IntWalk.i64_in _ (by omega)
   by_cases hm100 : 100 < mt + q.moves.length
   ·have HZ := lh (HNO.out fun z => by have := z.moves; have := HMP.out; rw [HMT.out] at this; omega)
    have g2 : decide ((100 : Int) < (mt : Int) + (q.moves.length : Int)) = true := dT (by omega);clear hm100
    go_wp2_with fail
    go_ret;exact ⟨ret_bool HZ.out.symm, HW.out _ (HY.out _ hH0).1⟩
   have g2 : decide ((100 : Int) < (mt : Int) + (q.moves.length : Int)) = false := dF (by omega);have HM1 : Hid (mt + q.moves.length ≤ 100) := lh (by omega);clear hm100
   cases hr : rightB h q
   case false =>
    have HR := lh hr;have HZ := lh (HNK.out fun z => by have := rightB_iff.2 z.1; rw [HQK.out, HR.out] at this; cases this);clear hr
    go_wp2_with (go_at_call 53; (with_reducible refine (HC1.out _ (HY.out _ hH0).2.2.2.1.toHouseIn0 (HY.out _ hH0).2.2.2.2.2.2).mono ?_); rintro e w4 ⟨rfl, hb4⟩; rw [HR.out]; have hH4 := hH0.trans (hb4.mono hnn); have hn4 := Nat.le_trans hnn hb4.size; obtain ⟨-, -, ⟨v0, v1⟩, -, -, ⟨z0, z1, z2, z3, z4, z5, z6⟩, -⟩ := HY.out _ hH4; rw [HCA.out] at v0; rw [HPA.out] at v1)
    go_ret;exact ⟨ret_bool HZ.out.symm, HW.out _ (HY.out _ hH4).1⟩
   have HR := lh hr;clear hr;obtain ⟨f, hf⟩ := nm (findI s.cues q.name);have HF := lh hf;clear hf
   by_cases hfk : f = (k : Int)
   case neg =>
    have HZ := lh (HNK.out fun z => hfk (by have := z.2.1; rw [HQK.out, HF.out] at this; exact this));have g3 : (f != (k : Int)) = true := bne_iff_ne.2 hfk;clear hfk
    go_wp2_with (first
     | (go_at_call 53; (with_reducible refine (HC1.out _ (HY.out _ hH0).2.2.2.1.toHouseIn0 (HY.out _ hH0).2.2.2.2.2.2).mono ?_); rintro e w4 ⟨rfl, hb4⟩; rw [HR.out]; have hH4 := hH0.trans (hb4.mono hnn); have hn4 := Nat.le_trans hnn hb4.size; obtain ⟨-, -, ⟨v0, v1⟩, -, -, ⟨z0, z1, z2, z3, z4, z5, z6⟩, -⟩ := HY.out _ hH4; rw [HCA.out] at v0; rw [HPA.out] at v1)
     | (go_at_call 54; (with_reducible refine (HC2.out _ q.name (HY.out _ hH4).2.2.2.2.1).mono ?_); rintro e w5 ⟨rfl, hb5⟩; rw [HF.out]; have hH5 := hH4.trans (hb5.mono hn4); have hn5 := Nat.le_trans hn4 hb5.size; obtain ⟨-, -, ⟨y0, y1⟩, -, -, ⟨k0, k1, k2, k3, k4, k5, k6⟩, -⟩ := HY.out _ hH5; rw [HCA.out] at y0; rw [HPA.out] at y1))
    go_ret;exact ⟨ret_bool HZ.out.symm, HW.out _ (HY.out _ hH5).1⟩
   subst hfk;have g3 : ((k : Int) != (k : Int)) = false := bne_self_eq_false _;obtain ⟨g, hg⟩ := nm (findI s.cues q.after);have HG := lh hg;clear hg;have HNH : Hid (¬ HangsOK s.cues k → sheetB h s = false) := lh fun n => HNK.out fun z => n z.2.2;have HYH : Hid (HangsOK s.cues k → ∀ j, j < k + 1 → CueAtOK h s.cues j) := lh fun z => HNX.out ⟨by rw [HQK.out]; exact rightB_iff.1 HR.out, by rw [HQK.out]; exact HF.out, z⟩
   by_cases hl1 : q.link = 1
   ·have g4 : (q.link == 1) = true := beq_iff_eq.2 hl1
    have g5 : (q.link != 1) = false := by rw [hl1]; rfl
    have HL1 := lh hl1;clear hl1
    by_cases he : q.after.toList = []
    ·have he2 : (!q.after.toList.isEmpty) = false := by rw [he]; rfl
     have he3 : q.after.toList.isEmpty = true := by rw [he]; rfl
     have HALL := lh (HYH.out ⟨fun _ => by rw [HQK.out]; exact (nil_iff _).1 he, fun n => by rw [HQK.out] at n; exact absurd HL1.out n⟩);clear he
     go_wp2_with (first
      | (go_at_call 53; (with_reducible refine (HC1.out _ (HY.out _ hH0).2.2.2.1.toHouseIn0 (HY.out _ hH0).2.2.2.2.2.2).mono ?_); rintro e w4 ⟨rfl, hb4⟩; rw [HR.out]; have hH4 := hH0.trans (hb4.mono hnn); have hn4 := Nat.le_trans hnn hb4.size; obtain ⟨-, -, ⟨v0, v1⟩, -, -, ⟨z0, z1, z2, z3, z4, z5, z6⟩, -⟩ := HY.out _ hH4; rw [HCA.out] at v0; rw [HPA.out] at v1)
      | (go_at_call 54; (with_reducible refine (HC2.out _ q.name (HY.out _ hH4).2.2.2.2.1).mono ?_); rintro e w5 ⟨rfl, hb5⟩; rw [HF.out]; have hH5 := hH4.trans (hb5.mono hn4); have hn5 := Nat.le_trans hn4 hb5.size; obtain ⟨-, -, ⟨y0, y1⟩, -, -, ⟨k0, k1, k2, k3, k4, k5, k6⟩, -⟩ := HY.out _ hH5; rw [HCA.out] at y0; rw [HPA.out] at y1)
      | (go_at_call 54; (with_reducible refine (HC2.out _ q.after (HY.out _ hH5).2.2.2.2.1).mono ?_); rintro e w6 ⟨rfl, hb6⟩; rw [HG.out]; have hH6 := hH5.trans (hb6.mono hn5); have hn6 := Nat.le_trans hn5 hb6.size; obtain ⟨-, -, -, -, -, ⟨o0, o1, o2, o3, o4, o5, o6⟩, -⟩ := HY.out _ hH6))
     go_roundw
     case rel => exact ⟨k + 1, by rw [HMT.out]; go_num, by go_num, by omega, by rw [HMT.out]; exact HM1.out, HALL, (HY.out _ hH6).1, Nat.le_trans HN1.out hn6⟩
     case measure => simp [intOf]; omega
    ·have he2 : q.after.toList.isEmpty = false := by
      cases e : q.after.toList.isEmpty
      ·rfl
      ·exact absurd (List.isEmpty_iff.1 e) he
     have HZ := lh (HNH.out fun z => he ((nil_iff _).2 (by have := z.1; rw [HQK.out] at this; exact this HL1.out)));clear he
     go_wp2_with (first
      | (go_at_call 53; (with_reducible refine (HC1.out _ (HY.out _ hH0).2.2.2.1.toHouseIn0 (HY.out _ hH0).2.2.2.2.2.2).mono ?_); rintro e w4 ⟨rfl, hb4⟩; rw [HR.out]; have hH4 := hH0.trans (hb4.mono hnn); have hn4 := Nat.le_trans hnn hb4.size; obtain ⟨-, -, ⟨v0, v1⟩, -, -, ⟨z0, z1, z2, z3, z4, z5, z6⟩, -⟩ := HY.out _ hH4; rw [HCA.out] at v0; rw [HPA.out] at v1)
      | (go_at_call 54; (with_reducible refine (HC2.out _ q.name (HY.out _ hH4).2.2.2.2.1).mono ?_); rintro e w5 ⟨rfl, hb5⟩; rw [HF.out]; have hH5 := hH4.trans (hb5.mono hn4); have hn5 := Nat.le_trans hn4 hb5.size; obtain ⟨-, -, ⟨y0, y1⟩, -, -, ⟨k0, k1, k2, k3, k4, k5, k6⟩, -⟩ := HY.out _ hH5; rw [HCA.out] at y0; rw [HPA.out] at y1))
     go_ret;exact ⟨ret_bool HZ.out.symm, HW.out _ (HY.out _ hH5).1⟩
   ·have g4 : (q.link == 1) = false := beq_eq_false_iff_ne.2 hl1
    have g5 : (q.link != 1) = true := bne_iff_ne.2 hl1;have HL1 := lh hl1;clear hl1
    by_cases hg0 : g < 0
    ·have g6 : decide (g < 0) = true := decide_eq_true hg0
     have HZ := lh (HNH.out fun z => by have := z.2; rw [HQK.out, HG.out] at this; have := this HL1.out; omega);clear hg0
     go_wp2_with (first
      | (go_at_call 53; (with_reducible refine (HC1.out _ (HY.out _ hH0).2.2.2.1.toHouseIn0 (HY.out _ hH0).2.2.2.2.2.2).mono ?_); rintro e w4 ⟨rfl, hb4⟩; rw [HR.out]; have hH4 := hH0.trans (hb4.mono hnn); have hn4 := Nat.le_trans hnn hb4.size; obtain ⟨-, -, ⟨v0, v1⟩, -, -, ⟨z0, z1, z2, z3, z4, z5, z6⟩, -⟩ := HY.out _ hH4; rw [HCA.out] at v0; rw [HPA.out] at v1)
      | (go_at_call 54; (with_reducible refine (HC2.out _ q.name (HY.out _ hH4).2.2.2.2.1).mono ?_); rintro e w5 ⟨rfl, hb5⟩; rw [HF.out]; have hH5 := hH4.trans (hb5.mono hn4); have hn5 := Nat.le_trans hn4 hb5.size; obtain ⟨-, -, ⟨y0, y1⟩, -, -, ⟨k0, k1, k2, k3, k4, k5, k6⟩, -⟩ := HY.out _ hH5; rw [HCA.out] at y0; rw [HPA.out] at y1)
      | (go_at_call 54; (with_reducible refine (HC2.out _ q.after (HY.out _ hH5).2.2.2.2.1).mono ?_); rintro e w6 ⟨rfl, hb6⟩; rw [HG.out]; have hH6 := hH5.trans (hb6.mono hn5); have hn6 := Nat.le_trans hn5 hb6.size; obtain ⟨-, -, -, -, -, ⟨o0, o1, o2, o3, o4, o5, o6⟩, -⟩ := HY.out _ hH6))
     go_ret;exact ⟨ret_bool HZ.out.symm, HW.out _ (HY.out _ hH6).1⟩
    have g6 : decide (g < 0) = false := decide_eq_false hg0
    by_cases hg1 : (k : Int) ≤ g
    ·have g7 : decide ((k : Int) ≤ g) = true := decide_eq_true hg1
     have HZ := lh (HNH.out fun z => by have := z.2; rw [HQK.out, HG.out] at this; have := this HL1.out; omega);clear hg0 hg1
     go_wp2_with (first
      | (go_at_call 53; (with_reducible refine (HC1.out _ (HY.out _ hH0).2.2.2.1.toHouseIn0 (HY.out _ hH0).2.2.2.2.2.2).mono ?_); rintro e w4 ⟨rfl, hb4⟩; rw [HR.out]; have hH4 := hH0.trans (hb4.mono hnn); have hn4 := Nat.le_trans hnn hb4.size; obtain ⟨-, -, ⟨v0, v1⟩, -, -, ⟨z0, z1, z2, z3, z4, z5, z6⟩, -⟩ := HY.out _ hH4; rw [HCA.out] at v0; rw [HPA.out] at v1)
      | (go_at_call 54; (with_reducible refine (HC2.out _ q.name (HY.out _ hH4).2.2.2.2.1).mono ?_); rintro e w5 ⟨rfl, hb5⟩; rw [HF.out]; have hH5 := hH4.trans (hb5.mono hn4); have hn5 := Nat.le_trans hn4 hb5.size; obtain ⟨-, -, ⟨y0, y1⟩, -, -, ⟨k0, k1, k2, k3, k4, k5, k6⟩, -⟩ := HY.out _ hH5; rw [HCA.out] at y0; rw [HPA.out] at y1)
      | (go_at_call 54; (with_reducible refine (HC2.out _ q.after (HY.out _ hH5).2.2.2.2.1).mono ?_); rintro e w6 ⟨rfl, hb6⟩; rw [HG.out]; have hH6 := hH5.trans (hb6.mono hn5); have hn6 := Nat.le_trans hn5 hb6.size; obtain ⟨-, -, -, -, -, ⟨o0, o1, o2, o3, o4, o5, o6⟩, -⟩ := HY.out _ hH6))
     go_ret;exact ⟨ret_bool HZ.out.symm, HW.out _ (HY.out _ hH6).1⟩
    have g7 : decide ((k : Int) ≤ g) = false := decide_eq_false hg1;have HALL := lh (HYH.out ⟨fun n => by rw [HQK.out] at n; exact absurd n HL1.out, fun _ => by rw [HQK.out, HG.out]; omega⟩);clear hg0 hg1
    go_wp2_with (first
     | (go_at_call 53; (with_reducible refine (HC1.out _ (HY.out _ hH0).2.2.2.1.toHouseIn0 (HY.out _ hH0).2.2.2.2.2.2).mono ?_); rintro e w4 ⟨rfl, hb4⟩; rw [HR.out]; have hH4 := hH0.trans (hb4.mono hnn); have hn4 := Nat.le_trans hnn hb4.size; obtain ⟨-, -, ⟨v0, v1⟩, -, -, ⟨z0, z1, z2, z3, z4, z5, z6⟩, -⟩ := HY.out _ hH4; rw [HCA.out] at v0; rw [HPA.out] at v1)
     | (go_at_call 54; (with_reducible refine (HC2.out _ q.name (HY.out _ hH4).2.2.2.2.1).mono ?_); rintro e w5 ⟨rfl, hb5⟩; rw [HF.out]; have hH5 := hH4.trans (hb5.mono hn4); have hn5 := Nat.le_trans hn4 hb5.size; obtain ⟨-, -, ⟨y0, y1⟩, -, -, ⟨k0, k1, k2, k3, k4, k5, k6⟩, -⟩ := HY.out _ hH5; rw [HCA.out] at y0; rw [HPA.out] at y1)
     | (go_at_call 54; (with_reducible refine (HC2.out _ q.after (HY.out _ hH5).2.2.2.2.1).mono ?_); rintro e w6 ⟨rfl, hb6⟩; rw [HG.out]; have hH6 := hH5.trans (hb6.mono hn5); have hn6 := Nat.le_trans hn5 hb6.size; obtain ⟨-, -, -, -, -, ⟨o0, o1, o2, o3, o4, o5, o6⟩, -⟩ := HY.out _ hH6))
    go_roundw
    case rel => exact ⟨k + 1, by rw [HMT.out]; go_num, by go_num, by omega, by rw [HMT.out]; exact HM1.out, HALL, (HY.out _ hH6).1, Nat.le_trans HN1.out hn6⟩
    case measure => simp [intOf]; omega
  ·obtain rfl : k = s.cues.length := by omega
   have HMALL : Hid ((movesOf s.cues).length ≤ 100) := lh (by rw [List.take_length] at hmt; exact hmt);obtain ⟨mt, hmt2⟩ := nm ((movesOf (s.cues.take s.cues.length)).length : Nat);rw [hmt2];clear hmt hmt2 hsi
   go_upto_region 17 with (fail)
   clear s0 s1
   go_loopw [9, 10, 11, 12, 13, 14] (fun iv _ _ _ _ _ wx => ∃ j : Nat, iv = .int .i64 j ∧ j ≤ s.pairs.length ∧ Below n₀ W0 wx ∧ n₀ ≤ wx.heap.size ∧ Hid (∀ x, x < j → PairAtOK s.cues s.pairs x)) (fun iv _ _ _ _ _ _ => s.pairs.length - (intOf iv).toNat)
   case atStart => exact ⟨0, rfl, Nat.zero_le _, hB, hnw, lh (fun _ z => absurd z (Nat.not_lt_zero _))⟩
   case round =>
    clear hB hnw;obtain ⟨j, rfl, hj, hB, hnw, HJ⟩ := hrel;obtain ⟨-, ⟨s0, s1⟩, -, hsi⟩ := HX.out _ hB;rw [HCA.out] at s0;rw [HPA.out] at s1
    by_cases hjt : j < s.pairs.length
    ·obtain ⟨pb, po, hp1, -, -⟩ := hsi.plies (by omega)
     rw [HPA.out] at hp1;subst hp1;have HNP : Hid (¬ PairAtOK s.cues s.pairs j → sheetB h s = false) := lh fun n => HNO.out fun z => n (z.pairs.2 j hjt)
     have HNJ : Hid (PairAtOK s.cues s.pairs j → ∀ x, x < j + 1 → PairAtOK s.cues s.pairs x) := lh fun z x hx => by
      rcases Nat.lt_or_eq_of_le (Nat.le_of_lt_succ hx) with l | l
      ·exact HJ.out x l
      ·subst l; exact z
     have HPR : Hid (∀ (w' : World), Below n₀ W0 w' → ∀ i, i < s.pairs.length → w'.cell? ⟨pb, po + i * 2, none⟩ = some (.string (pg s.pairs i).1) ∧ w'.cell? ⟨pb, po + i * 2 + 1, none⟩ = some (.string (pg s.pairs i).2)) := lh fun w' z i hi => by
      obtain ⟨pb', po', e, -, ex⟩ := (HX.out w' z).2.2.2.plies (by omega);rw [HPA.out] at e
      cases e
      exact ex i hi
     obtain ⟨y, hy⟩ := nm (pg s.pairs j);have HYK := lh hy;have x1 : ∀ w', Below n₀ W0 w' → w'.cell? ⟨B2, 1, none⟩ = some (.slice (some ⟨pb, po, none⟩) s.pairs.length s.pc) := fun w' z => by rw [← HPA.out]; exact (HX.out w' z).2.1.2
     have e0 : ∀ w', Below n₀ W0 w' → w'.cell? ⟨pb, po + j * 2, none⟩ = some (.string y.1) := fun w' z => by have := (HPR.out w' z j hjt).1; rw [HYK.out] at this; exact this
     have e1 : ∀ w', Below n₀ W0 w' → w'.cell? ⟨pb, po + j * 2 + 1, none⟩ = some (.string y.2) := fun w' z => by have := (HPR.out w' z j hjt).2; rw [HYK.out] at this; exact this
     have j0 : 0 ≤ (j : Int) := by omega
     have j1 : (j : Int) < (s.pairs.length : Int) := by omega
     have hnd : n₀ ≤ wr.drew.heap.size := hnw;clear hsi hy HJ;obtain ⟨f1, hf1⟩ := nm (findI s.cues y.1);obtain ⟨f2, hf2⟩ := nm (findI s.cues y.2);have HF1 := lh hf1;have HF2 := lh hf2;have hse := str_eq y.1 y.2;clear hf1 hf2
     go_upto_region 19 with (fail)
     clear s0 s1;refine wp_region_held_drew (S := (Below n₀ W0)) (by kernel_rfl) (hB.drew) (fun hHeld => ?_);refine tk 0 ?_; refine tk 1 ?_; refine tk 2 ?_; refine tk 3 ?_; refine tk 4 ?_; refine tk 5 ?_; refine tk 6 ?_; refine tk 7 ?_; refine tk 8 ?_; refine tk 9 ?_; refine tk 10 ?_; refine tk 11 ?_; refine tk 12 ?_; refine tk 13 ?_;refine wpAnyH_done (by kernel_rfl) ?_ _;clear x1 e0 e1;obtain ⟨-, ⟨t0, t1⟩, -, -⟩ := HX.out _ hHeld;rw [HCA.out] at t0;rw [HPA.out] at t1;generalize wr.drew = W9 at *
     by_cases hg0 : f1 < 0
     ·have g6 : decide (f1 < 0) = true := decide_eq_true hg0
      have HZ := lh (HNP.out fun z => by have := z.2.1; rw [HYK.out, HF1.out] at this; omega);clear hg0
      go_wp2_with (go_at_call 54; (with_reducible refine (HC2.out _ y.1 (HX.out _ hHeld).2.2.2).mono ?_); rintro e w5 ⟨rfl, hb5⟩; rw [HF1.out]; have hH5 := hHeld.trans (hb5.mono hnd); have hn5 := Nat.le_trans hnd hb5.size; obtain ⟨-, ⟨y0, y1⟩, -, -⟩ := HX.out _ hH5; rw [HCA.out] at y0; rw [HPA.out] at y1)
      go_ret;exact ⟨ret_bool HZ.out.symm, HW.out _ hH5⟩
     have g6 : decide (f1 < 0) = false := decide_eq_false hg0
     by_cases hg1 : f2 < 0
     ·have g7 : decide (f2 < 0) = true := decide_eq_true hg1
      have HZ := lh (HNP.out fun z => by have := z.2.2.1; rw [HYK.out, HF2.out] at this; omega);clear hg0 hg1
      go_wp2_with (first
       | (go_at_call 54; (with_reducible refine (HC2.out _ y.1 (HX.out _ hHeld).2.2.2).mono ?_); rintro e w5 ⟨rfl, hb5⟩; rw [HF1.out]; have hH5 := hHeld.trans (hb5.mono hnd); have hn5 := Nat.le_trans hnd hb5.size; obtain ⟨-, ⟨y0, y1⟩, -, -⟩ := HX.out _ hH5; rw [HCA.out] at y0; rw [HPA.out] at y1)
       | (go_at_call 54; (with_reducible refine (HC2.out _ y.2 (HX.out _ hH5).2.2.2).mono ?_); rintro e w6 ⟨rfl, hb6⟩; rw [HF2.out]; have hH6 := hH5.trans (hb6.mono hn5); have hn6 := Nat.le_trans hn5 hb6.size))
      go_ret;exact ⟨ret_bool HZ.out.symm, HW.out _ hH6⟩
     have g7 : decide (f2 < 0) = false := decide_eq_false hg1
     by_cases he : y.1 = y.2
     ·have HZ := lh (HNP.out fun z => by have := z.1; rw [HYK.out] at this; exact this he)
      rw [decide_eq_true he] at hse;clear hg0 hg1 he
      go_wp2_with (first
       | (go_at_call 54; (with_reducible refine (HC2.out _ y.1 (HX.out _ hHeld).2.2.2).mono ?_); rintro e w5 ⟨rfl, hb5⟩; rw [HF1.out]; have hH5 := hHeld.trans (hb5.mono hnd); have hn5 := Nat.le_trans hnd hb5.size; obtain ⟨-, ⟨y0, y1⟩, -, -⟩ := HX.out _ hH5; rw [HCA.out] at y0; rw [HPA.out] at y1)
       | (go_at_call 54; (with_reducible refine (HC2.out _ y.2 (HX.out _ hH5).2.2.2).mono ?_); rintro e w6 ⟨rfl, hb6⟩; rw [HF2.out]; have hH6 := hH5.trans (hb6.mono hn5); have hn6 := Nat.le_trans hn5 hb6.size))
      go_ret;exact ⟨ret_bool HZ.out.symm, HW.out _ hH6⟩
     have HPJ : Hid ((pg s.pairs j).1 ≠ (pg s.pairs j).2 ∧ 0 ≤ findI s.cues (pg s.pairs j).1 ∧ 0 ≤ findI s.cues (pg s.pairs j).2) := lh (by rw [HYK.out, HF1.out, HF2.out]; exact ⟨he, by omega, by omega⟩);rw [decide_eq_false he] at hse;clear hg0 hg1 he
     go_upto_region 23 with (first
      | (go_at_call 54; (with_reducible refine (HC2.out _ y.1 (HX.out _ hHeld).2.2.2).mono ?_); rintro e w5 ⟨rfl, hb5⟩; rw [HF1.out]; have hH5 := hHeld.trans (hb5.mono hnd); have hn5 := Nat.le_trans hnd hb5.size; obtain ⟨-, ⟨y0, y1⟩, -, -⟩ := HX.out _ hH5; rw [HCA.out] at y0; rw [HPA.out] at y1)
      | (go_at_call 54; (with_reducible refine (HC2.out _ y.2 (HX.out _ hH5).2.2.2).mono ?_); rintro e w6 ⟨rfl, hb6⟩; rw [HF2.out]; have hH6 := hH5.trans (hb6.mono hn5); have hn6 := Nat.le_trans hn5 hb6.size))
     clear t0 t1 g6 g7 y0 y1 hse hb5 hb6 hH5 hn5 hHeld hnd
     go_loopw [12, 13, 14] (fun kv _ _ wx => ∃ k : Nat, kv = .int .i64 k ∧ k ≤ j ∧ Below n₀ W0 wx ∧ n₀ ≤ wx.heap.size ∧ Hid (∀ i, i < k → ¬ samePair (pg s.pairs i) y)) (fun kv _ _ _ => j - (intOf kv).toNat)
     case atStart => exact ⟨0, rfl, Nat.zero_le _, hH6, hn6, lh (fun _ z => absurd z (Nat.not_lt_zero _))⟩
     case round =>
      clear hH6 hn6;obtain ⟨k, rfl, hk2, hBx, hnx, HKK⟩ := hrel
      by_cases hkt : k < j
      ·obtain ⟨u, hu⟩ := nm (pg s.pairs k)
       have HUK := lh hu;have x1 : ∀ w', Below n₀ W0 w' → w'.cell? ⟨B2, 1, none⟩ = some (.slice (some ⟨pb, po, none⟩) s.pairs.length s.pc) := fun w' z => by rw [← HPA.out]; exact (HX.out w' z).2.1.2
       have e0 : ∀ w', Below n₀ W0 w' → w'.cell? ⟨pb, po + k * 2, none⟩ = some (.string u.1) := fun w' z => by have := (HPR.out w' z k (by omega)).1; rw [HUK.out] at this; exact this
       have e1 : ∀ w', Below n₀ W0 w' → w'.cell? ⟨pb, po + k * 2 + 1, none⟩ = some (.string u.2) := fun w' z => by have := (HPR.out w' z k (by omega)).2; rw [HUK.out] at this; exact this
       have k0 : 0 ≤ (k : Int) := by omega
       have k1 : (k : Int) < (s.pairs.length : Int) := by omega
       have hnd : n₀ ≤ wr.drew.heap.size := hnx;clear hu
       go_upto_region 25 with (fail)
       refine wp_region_held_drew (S := (Below n₀ W0)) (by kernel_rfl) (hBx.drew) (fun hHeld => ?_);refine tk 0 ?_; refine tk 1 ?_; refine tk 2 ?_; refine tk 3 ?_; refine tk 4 ?_; refine tk 5 ?_; refine tk 6 ?_; refine tk 7 ?_; refine tk 8 ?_; refine tk 9 ?_; refine tk 10 ?_; refine tk 11 ?_; refine tk 12 ?_; refine tk 13 ?_;refine wpAnyH_done (by kernel_rfl) ?_ _;clear x1 e0 e1;generalize wr.drew = W8 at *;have HQ := lh (same_b u y);have q1 := str_eq u.1 y.1;have q2 := str_eq u.2 y.2;have q3 := str_eq u.1 y.2;have q4 := str_eq u.2 y.1;have HNS : Hid (samePair u y → sheetB h s = false) := lh fun z => HNP.out fun n => n.2.2.2 k hkt (by rw [HUK.out, HYK.out]; exact z)
       have HYS : Hid (¬ samePair u y → ∀ i, i < k + 1 → ¬ samePair (pg s.pairs i) y) := lh fun z i hi => by
        rcases Nat.lt_or_eq_of_le (Nat.le_of_lt_succ hi) with l | l
        ·exact HKK.out i l
        ·subst l; rw [HUK.out]; exact z
       generalize decide (u.1 = y.1) = b1 at *;generalize decide (u.2 = y.2) = b2 at *;generalize decide (u.1 = y.2) = b3 at *;generalize decide (u.2 = y.1) = b4 at *
       cases b1 <;> cases b2 <;> cases b3 <;> cases b4
       all_goals first
        | (have HZ := lh (HNS.out (HQ.out.2 rfl)); go_wp2_with fail; go_ret; exact ⟨ret_bool HZ.out.symm, HW.out _ hHeld⟩)
        | (have HZ := lh (HYS.out fun z => by have := HQ.out.1 z; cases this); go_wp2_with fail; go_roundw; (case rel => exact ⟨k + 1, by go_num, by omega, hHeld, hnd, HZ⟩); (case measure => simp [intOf]; omega))
      ·obtain rfl : k = j := by omega
       have HALL := lh (HNJ.out ⟨HPJ.out.1, HPJ.out.2.1, HPJ.out.2.2, by rw [HYK.out]; exact HKK.out⟩)
       go_wp2_with fail
       go_roundw
       case rel => exact ⟨k + 1, by go_num, by omega, hBx, hnx, HALL⟩
       case measure => simp [intOf]; omega
    ·obtain rfl : j = s.pairs.length := by omega
     have HZ := lh (sheetB_iff.2 ⟨HV.out, by omega, HMALL.out, HA.out, by omega, HJ.out⟩);clear hsi
     go_wp2_with fail
     go_ret;exact ⟨ret_bool HZ.out.symm, HW.out _ hB⟩
end
section
theorem ord_next (hs : List Int) : ∀ k, k < (ordP hs).length → ∃ m : Nat, ig (ordP hs) k = m ∧ nextO hs ((ordP hs).take k) = some m := by
 have main : ∀ f out, OrdAt hs out → hs.length - out.length = f → (∀ k, k < out.length → ∃ m : Nat, ig out k = m ∧ nextO hs (out.take k) = some m) → ∀ k, k < (ordP hs).length → ∃ m : Nat, ig (ordP hs) k = m ∧ nextO hs ((ordP hs).take k) = some m := by
  intro f
  induction f with
  | zero =>
   intro out h hf hq
   cases hn : nextO hs out with
   | none => rw [h.ends hn]; exact hq
   | some k => have := (h.next k hn).2; omega
  | succ f ih =>
   intro out h hf hq
   cases hn : nextO hs out with
   | none => rw [h.ends hn]; exact hq
   | some k =>
    obtain ⟨h1, h2⟩ := h.next k hn;refine ih _ h1 (by rw [List.length_append, List.length_singleton]; omega) fun j hj => ?_;rw [List.length_append, List.length_singleton] at hj;rcases Nat.lt_or_ge j out.length with l | l
    ·rw [ig_old _ _ _ l, List.take_append_of_le_length (by omega)]
     exact hq j l
    ·obtain rfl : j = out.length := by omega
     refine ⟨k, ig_new _ _, ?_⟩;rw [List.take_append_of_le_length (Nat.le_refl _), List.take_length];exact hn
 exact main _ [] (OrdAt.start hs) rfl (fun k hk => absurd hk (Nat.not_lt_zero _))
theorem ready_iff {hs out : List Int} {m : Nat} : readyB hs out m = true ↔ (m : Int) ∉ out ∧ (ig hs m < 0 ∨ ig hs m ∈ out) := by
 unfold readyB
 simp
theorem all_in (n : Nat) (l : List Int) (hn : l.Nodup) (h : ∀ x ∈ l, 0 ≤ x ∧ x < n) (hl : l.length = n) (i : Nat) (hi : i < n) : (i : Int) ∈ l := by
 by_cases hm : (i : Int) ∈ l
 ·exact hm
 ·have := pigeon n _ (snoc_nodup hn hm) (snoc_in h (Int.natCast_nonneg i) (by omega))
  rw [List.length_append, List.length_singleton] at this;omega
theorem nodup_at {l : List Int} (hn : l.Nodup) {i j : Nat} (hi : i < j) (hj : j < l.length) : ig l i ≠ ig l j := by
 rw [ig_eq l i (by omega), ig_eq l j hj];exact List.pairwise_iff_getElem.1 hn i j (by omega) hj hi
theorem mem_take {l : List Int} {x : Int} {k : Nat} (h : x ∈ l.take k) : ∃ i, i < k ∧ i < l.length ∧ ig l i = x := by
 obtain ⟨i, hi, e⟩ := List.getElem_of_mem h;rw [List.length_take] at hi;refine ⟨i, by omega, by omega, ?_⟩;rw [ig_eq l i (by omega), ← e, List.getElem_take]

def stepR (L : List CueR) (N G : List Int) (s : List Int) (i : Int) : List Int :=
 s.set i.toNat (if (cg L i.toNat).link = 1 then ig G (manTo L i.toNat) + (cg L i.toNat).delay else ig s (findI L (cg L i.toNat).after).toNat + (cg L i.toNat).delay + if (cg L i.toNat).link = 2 then ig N (findI L (cg L i.toNat).after).toNat else 0)
def refV (L : List CueR) (N G : List Int) (k : Nat) : List Int := ((ordP (hangs L)).take k).foldl (stepR L N G) (pass1 L G 0)
theorem refV_succ (L : List CueR) (N G : List Int) (k : Nat) (h : k < (ordP (hangs L)).length) : refV L N G (k + 1) = stepR L N G (refV L N G k) (ig (ordP (hangs L)) k) := by
 unfold refV;rw [List.take_add_one, ig_get h, List.foldl_append]
 rfl
theorem stepR_len (L : List CueR) (N G s : List Int) (i : Int) : (stepR L N G s i).length = s.length := by unfold stepR; simp
theorem refV_len (L : List CueR) (N G : List Int) (k : Nat) : (refV L N G k).length = L.length := by
 have main : ∀ (l s : List Int), s.length = L.length → (l.foldl (stepR L N G) s).length = L.length := by
  intro l
  induction l with
  | nil => exact fun s h => h
  | cons x r ih => exact fun s h => ih _ (by rw [stepR_len]; exact h)
 exact main _ _ (pass1_len _ _ _)

theorem pass2_manual {L : List CueR} (N G : List Int) (k : Nat) (hk : k ≤ (ordP (hangs L)).length) (m : Nat) (hm : m < L.length) (hl : (cg L m).link = 1) : ig (pass2 L N G k) m = ig G (manTo L m) + (cg L m).delay := by
 induction k with
 | zero => show ig (pass1 L G L.length) m = _; rw [pass1_at _ _ _ _ hm, if_pos ⟨hm, hl⟩]
 | succ k ih =>
  obtain ⟨j, hj, e⟩ := ord_in L k (by omega);rw [pass2_succ L N G k (by omega), e];unfold stepS;rw [Int.toNat_natCast]
  split
  ·exact ih (by omega)
  ·next hl2 =>
   rw [ig_set _ _ _ _ (by rw [pass2_len]; exact hj), if_neg (fun e => hl2 (by rw [e]; exact hl))];exact ih (by omega)
theorem agree {L : List CueR} {A : List (ByteArray × ByteArray)} (h : linkedB L A = true) (N G : List Int) : ∀ k, k ≤ (ordP (hangs L)).length → ∀ i, i < k → ig (pass2 L N G k) (ig (ordP (hangs L)) i).toNat = ig (refV L N G k) (ig (ordP (hangs L)) i).toNat := by
 intro k
 induction k with
 | zero => exact fun _ i hi => absurd hi (Nat.not_lt_zero _)
 | succ k ih =>
  intro hk i hi;have hnd := (ord_at (hangs L)).1.nd;obtain ⟨m, hm, em⟩ := ord_in L k (by omega);obtain ⟨m', em', hnx⟩ := ord_next (hangs L) k (by omega);obtain rfl : m' = m := by have := em'.symm.trans em; omega
  have hrd := ready_iff.1 (next_of hnx).2.1;rw [hangs_at L m' hm] at hrd;rw [pass2_succ L N G k (by omega), refV_succ L N G k (by omega), em];unfold stepS stepR;rw [Int.toNat_natCast]
  -- the new one
  have hnew : ∀ v w : Int, v = w → i = k → ig ((pass2 L N G k).set m' v) (ig (ordP (hangs L)) i).toNat = ig ((refV L N G k).set m' w) (ig (ordP (hangs L)) i).toNat := by
   intro v w e e2;subst e2;rw [em, Int.toNat_natCast, ig_set _ _ _ _ (by rw [pass2_len]; exact hm), ig_set _ _ _ _ (by rw [refV_len]; exact hm), if_pos rfl, if_pos rfl, e]
  have hne : i ≠ k → m' ≠ (ig (ordP (hangs L)) i).toNat := by
   intro e e2;obtain ⟨q, hq, eq⟩ := ord_in L i (by omega);have := nodup_at hnd (show i < k by omega) (by omega);rw [em, eq] at this;rw [eq, Int.toNat_natCast] at e2;exact this (by rw [e2])
  rcases (linked_cue h m' hm).2.2.2 with ⟨l1, _⟩ | ⟨_, l1, f, hf, hfa, _⟩
  ·rw [if_pos l1, if_pos l1]
   by_cases e : i = k
   ·subst e
    rw [em, Int.toNat_natCast, ig_set _ _ _ _ (by rw [refV_len]; exact hm), if_pos rfl];exact pass2_manual N G i (by omega) m' hm l1
   ·rw [ig_set _ _ _ _ (by rw [refV_len]; exact hm), if_neg (hne e)]
    exact ih (by omega) i (by omega)
  ·rw [if_neg l1, if_neg l1]
   rw [hang_other l1, hfa] at hrd
   by_cases e : i = k
   ·refine hnew _ _ ?_ e
    obtain ⟨q, hq, _, eq⟩ := mem_take (hrd.2.resolve_left (by omega));have := ih (by omega) q hq;rw [eq, Int.toNat_natCast] at this;rw [hfa, Int.toNat_natCast, this]
   ·rw [ig_set _ _ _ _ (by rw [pass2_len]; exact hm), ig_set _ _ _ _ (by rw [refV_len]; exact hm), if_neg (hne e), if_neg (hne e)]
    exact ih (by omega) i (by omega)
theorem refV_all {L : List CueR} {A : List (ByteArray × ByteArray)} (h : linkedB L A = true) (N G : List Int) (hl : (ordP (hangs L)).length = L.length) : refV L N G (ordP (hangs L)).length = startsV L N G := by
 refine ig_ext _ _ (by rw [refV_len]; unfold startsV; rw [pass2_len]) fun j hj => ?_;rw [refV_len] at hj;obtain ⟨h1, _⟩ := ord_at (hangs L);have hm := all_in L.length _ h1.nd (by have := h1.inn; rw [hangs_len] at this; exact this) hl j hj;obtain ⟨i, hi, e⟩ := List.getElem_of_mem hm;have := agree h N G _ (Nat.le_refl _) i hi;rw [ig_eq _ i hi, e, Int.toNat_natCast] at this;exact this.symm
theorem refV_small {L : List CueR} {A : List (ByteArray × ByteArray)} (h : linkedB L A = true) {N G : List Int} (hG : G.any wrongT = false) (hl : G.length = manTo L L.length) (hN : N.any wrongT = false) (hlN : N.length = L.length) (k : Nat) (hk : k ≤ (ordP (hangs L)).length) : Small (refV L N G k) (4294967296 * (k + 1)) := by
 induction k with
 | zero => exact fun i hi => ⟨(pass1_small h hG hl 0 i hi).1, by have := (pass1_small h hG hl 0 i hi).2; show ig (pass1 L G 0) i ≤ _; omega⟩
 | succ k ih =>
  have ih' := ih (by omega);obtain ⟨m, hm, e⟩ := ord_in L k (by omega);intro i hi;rw [refV_len] at hi;rw [refV_succ L N G k (by omega), e];unfold stepR;rw [Int.toNat_natCast, ig_set _ _ _ _ (by rw [refV_len]; exact hm)];have hd := (linked_cue h m hm).2.2.1;have b := ih' i (by rw [refV_len]; exact hi);rcases (linked_cue h m hm).2.2.2 with ⟨l1, _⟩ | ⟨_, l1, f, hf, ef, _⟩
  ·rw [if_pos l1]
   have a := wrongT_no hG (manTo L m) (by rw [hl]; exact manTo_lt L m _ hm l1)
   split <;> omega
  ·rw [if_neg l1, ef, Int.toNat_natCast]
   have a := ih' f (by rw [refV_len]; exact hf);have c := wrongT_no hN f (by rw [hlN]; exact hf)
   split
   ·split <;> omega
   ·omega
end
section
open Go.RowKit Go.Shelf
theorem manual_any (ca pa : Option Addr) (L : List CueR) (A : List (ByteArray × ByteArray)) (cc pc n : Nat) (w : World) (hlen : L.length ≤ 1000) (hn : n ≤ L.length) (hI : Cues w.heap.size w ca L) :
  Calls Tryz.prog 62 #[.agg #[.slice ca L.length cc, .slice pa A.length pc], .int .i64 n] w fun e w' => e = .returned (.int .i64 (manTo L n : Nat)) ∧ Below w.heap.size w w' := by
 have hb0 : Below w.heap.size w (w.alloc (.cells #[.slice ca L.length cc, .slice pa A.length pc] 29)) := below_new w _;have HI := lh (hI.grow hb0);have HB0 := lh hb0;clear hb0 hI;have z0 : (w.alloc (.cells #[.slice ca L.length cc, .slice pa A.length pc] 29)).cell? ⟨w.heap.size, 0, none⟩ = some (.slice ca L.length cc) := by simp
 go_enter Tryz.func62, Tryz.ntmps62
 go_wp2
 generalize (w.alloc (.cells #[.slice ca L.length cc, .slice pa A.length pc] 29)) = W0 at *
 go_loop [5, 6] (fun m i => ∃ k : Nat, k ≤ n ∧ i = .int .i64 k ∧ m = .int .i64 (manTo L k : Nat)) (fun _ i => n - (intOf i).toNat)
 case atStart => exact ⟨0, Nat.zero_le _, rfl, rfl⟩
 case round =>
  obtain ⟨k, hk, rfl, rfl⟩ := hrel;have hml := manTo_le L k
  by_cases hlt : k < n
  ·obtain ⟨b, off, rfl, hbl, hc⟩ := HI.out (by omega)
   obtain ⟨_, _, d2, _⟩ := hc k (by omega);have hkl : k < L.length := by omega
   clear hc
   by_cases l1 : (cg L k).link = 1
   ·have m1 : ((cg L k).link == 1) = true := beq_iff_eq.2 l1
    have HM : Hid (manTo L (k + 1) = manTo L k + 1) := lh (by simp only [manTo]; rw [if_pos l1]);clear l1
    go_wp2
    go_round
    case rel => exact ⟨k + 1, by omega, by go_num, by rw [HM.out]; go_num⟩
    case measure => simp [intOf]; omega
   ·have m1 : ((cg L k).link == 1) = false := beq_eq_false_iff_ne.2 l1
    have HM : Hid (manTo L (k + 1) = manTo L k) := lh (by simp only [manTo]; rw [if_neg l1]; rfl);clear l1
    go_wp2
    go_round
    case rel => exact ⟨k + 1, by omega, by go_num, by rw [HM.out]⟩
    case measure => simp [intOf]; omega
  ·obtain rfl : k = n := by omega
   go_wp2
   go_ret;exact ⟨rfl, HB0.out⟩

def givenE (L : List CueR) (N G : List Int) : Int := if N.length = L.length ∧ G.length = manTo L L.length then (if N.any wrongT || G.any wrongT then 2 else 0) else 3
theorem within_t (n : Int) (w : World) : Calls Tryz.prog 99 #[.int .i64 n, .int .i64 2147483648] w fun e w' => e = .returned (.bool (!wrongT n)) ∧ w = w' :=
 (within37_any n 2147483648 w).mono fun e w' h => ⟨by rw [h.1]; exact ret_bool (by unfold wrongT timeB; rw [Bool.not_not]), h.2⟩
theorem anyT_false_of {S : List Int} (h : ∀ j, j < S.length → wrongT (ig S j) = false) : S.any wrongT = false := by
 rw [List.any_eq_false];intro x hx;obtain ⟨i, hi, e⟩ := List.getElem_of_mem hx;have := h i hi;rw [ig_eq S i hi, e] at this;rw [this]; decide
theorem anyT_true_of {S : List Int} {k : Nat} (hk : k < S.length) (h : wrongT (ig S k) = true) : S.any wrongT = true := by
 rw [List.any_eq_true];exact ⟨_, by rw [ig_eq S k hk]; exact List.getElem_mem hk, h⟩

theorem given37_any (ca pa na ga : Option Addr) (L : List CueR) (A : List (ByteArray × ByteArray)) (N G : List Int) (cc pc nc gc : Nat) (w : World) (hlen : L.length ≤ 1000) (hlN : N.length ≤ 1000) (hlG : G.length ≤ 1000) (hI : Cues w.heap.size w ca L) (hN : Nums w.heap.size w na N) (hG : Nums w.heap.size w ga G) :
  Calls Tryz.prog 60 #[.agg #[.slice ca L.length cc, .slice pa A.length pc], .slice na N.length nc, .slice ga G.length gc] w fun e w' => e = .returned (.int .i64 (givenE L N G)) ∧ Below w.heap.size w w' := by
 have hb0 : Below w.heap.size w (w.alloc (.cells #[.slice ca L.length cc, .slice pa A.length pc] 29)) := below_new w _;have HI := lh (hI.grow hb0);have HN := lh (hN.grow hb0);have HG := lh (hG.grow hb0);have HX : Hid (∀ wr, Below (w.alloc (.cells #[.slice ca L.length cc, .slice pa A.length pc] 29)).heap.size (w.alloc (.cells #[.slice ca L.length cc, .slice pa A.length pc] 29)) wr → Below w.heap.size w wr ∧ wr.cell? ⟨w.heap.size, 0, none⟩ = some (.slice ca L.length cc) ∧ wr.cell? ⟨w.heap.size, 1, none⟩ = some (.slice pa A.length pc)) := lh fun wr h => ⟨mono_in _ h, box2 h⟩;clear hb0 hI hN hG;have z0 : (w.alloc (.cells #[.slice ca L.length cc, .slice pa A.length pc] 29)).cell? ⟨w.heap.size, 0, none⟩ = some (.slice ca L.length cc) := by simp
 have z1 : (w.alloc (.cells #[.slice ca L.length cc, .slice pa A.length pc] 29)).cell? ⟨w.heap.size, 1, none⟩ = some (.slice pa A.length pc) := by simp
 have hml := manTo_le L L.length
 by_cases hn1 : N.length = L.length
 ·have m1 : ((N.length : Int) != (L.length : Int)) = false := by rw [bne_eq_false_iff_eq]; omega
  by_cases hg1 : G.length = manTo L L.length
  ·have m2 : ((G.length : Int) != ((manTo L L.length : Nat) : Int)) = false := by rw [bne_eq_false_iff_eq]; omega
   have HC : Hid (givenE L N G = if N.any wrongT || G.any wrongT then 2 else 0) := lh (by unfold givenE; rw [if_pos ⟨hn1, hg1⟩]);clear hn1 hg1
   go_enter Tryz.func60, Tryz.ntmps60
   go_wp2_with (go_at_call 62; (with_reducible refine (manual_any _ _ L A _ _ L.length _ hlen (Nat.le_refl _) HI.out).mono ?_); rintro e w1 ⟨rfl, hb1⟩)
   have hB := hb1;clear hb1
   go_loop [7] (fun i => ∃ k : Nat, k ≤ N.length ∧ i = .int .i64 k ∧ Hid (∀ j, j < k → wrongT (ig N j) = false)) (fun i => N.length - (intOf i).toNat)
   case atStart => exact ⟨0, Nat.zero_le _, rfl, lh (fun _ h => absurd h (Nat.not_lt_zero _))⟩
   case round =>
    obtain ⟨k, hk, rfl, HA⟩ := hrel
    by_cases hlt : k < N.length
    ·obtain ⟨nb, no, rfl, hnl, hnc⟩ := HN.out (by omega)
     have n1 := (hB.cell (p := ⟨nb, no + k, none⟩) hnl).trans (hnc k hlt);clear hnc
     cases hwn : wrongT (ig N k)
     ·have HWN := lh hwn
      have HA' : Hid (∀ j, j < k + 1 → wrongT (ig N j) = false) := lh fun j hj => by
       rcases Nat.lt_or_ge j k with l | l
       ·exact HA.out j l
       ·obtain rfl : j = k := by omega
        exact hwn
      clear hwn
      go_wp2_with (go_at_call 99; (with_reducible refine (within_t (ig N k) _).mono ?_); rintro e w' ⟨rfl, rfl⟩; rw [HWN.out])
      go_round
      case rel => exact ⟨k + 1, by omega, by go_num, HA'⟩
      case measure => simp [intOf]; omega
     ·have HWN := lh hwn
      have HP0 : Hid (givenE L N G = 2) := lh (by rw [HC.out, anyT_true_of hlt hwn]; rfl);clear hwn
      go_wp2_with (go_at_call 99; (with_reducible refine (within_t (ig N k) _).mono ?_); rintro e w' ⟨rfl, rfl⟩; rw [HWN.out])
      go_ret;exact ⟨ret_int HP0.out.symm, (HX.out _ hB).1⟩
    ·obtain rfl : k = N.length := by omega
     have HWN := lh (anyT_false_of HA.out);clear HA hlt hk
     go_wp2_with fail
     go_loop [8] (fun i => ∃ k : Nat, k ≤ G.length ∧ i = .int .i64 k ∧ Hid (∀ j, j < k → wrongT (ig G j) = false)) (fun i => G.length - (intOf i).toNat)
     case atStart => exact ⟨0, Nat.zero_le _, rfl, lh (fun _ h => absurd h (Nat.not_lt_zero _))⟩
     case round =>
      obtain ⟨k, hk, rfl, HA⟩ := hrel
      by_cases hlt : k < G.length
      ·obtain ⟨gb, go, rfl, hnl, hnc⟩ := HG.out (by omega)
       have n1 := (hB.cell (p := ⟨gb, go + k, none⟩) hnl).trans (hnc k hlt);clear hnc
       cases hwn : wrongT (ig G k)
       ·have HWN := lh hwn
        have HA' : Hid (∀ j, j < k + 1 → wrongT (ig G j) = false) := lh fun j hj => by
         rcases Nat.lt_or_ge j k with l | l
         ·exact HA.out j l
         ·obtain rfl : j = k := by omega
          exact hwn
        clear hwn
        go_wp2_with (go_at_call 99; (with_reducible refine (within_t (ig G k) _).mono ?_); rintro e w' ⟨rfl, rfl⟩; rw [HWN.out])
        go_round
        case rel => exact ⟨k + 1, by omega, by go_num, HA'⟩
        case measure => simp [intOf]; omega
       ·have HWN := lh hwn
        have HP0 : Hid (givenE L N G = 2) := lh (by rw [HC.out, anyT_true_of hlt hwn, Bool.or_true]; rfl);clear hwn
        go_wp2_with (go_at_call 99; (with_reducible refine (within_t (ig G k) _).mono ?_); rintro e w' ⟨rfl, rfl⟩; rw [HWN.out])
        go_ret;exact ⟨ret_int HP0.out.symm, (HX.out _ hB).1⟩
      ·obtain rfl : k = G.length := by omega
       have HWG := lh (anyT_false_of HA.out);clear HA hlt hk
       go_wp2_with fail
       have HP0 : Hid (givenE L N G = 0) := lh (by rw [HC.out, HWN.out, HWG.out]; rfl);go_ret;exact ⟨ret_int HP0.out.symm, (HX.out _ hB).1⟩
  ·have m2 : ((G.length : Int) != ((manTo L L.length : Nat) : Int)) = true := bne_iff_ne.2 (by omega)
   have HP0 : Hid (givenE L N G = 3) := lh (by unfold givenE; rw [if_neg (fun h => hg1 h.2)]);clear hn1 hg1
   go_enter Tryz.func60, Tryz.ntmps60
   go_wp2_with (go_at_call 62; (with_reducible refine (manual_any _ _ L A _ _ L.length _ hlen (Nat.le_refl _) HI.out).mono ?_); rintro e w1 ⟨rfl, hb1⟩)
   go_ret;exact ⟨ret_int HP0.out.symm, (HX.out _ hb1).1⟩
 ·have m1 : ((N.length : Int) != (L.length : Int)) = true := bne_iff_ne.2 (by omega)
  have HP0 : Hid (givenE L N G = 3) := lh (by unfold givenE; rw [if_neg (fun h => hn1 h.1)]);clear hn1
  go_enter Tryz.func60, Tryz.ntmps60
  go_wp2_with fail
  go_ret;exact ⟨ret_int HP0.out.symm, (HX.out _ br).1⟩
def leastFrom (hs out : List Int) (j : Nat) (kv : Int) : Prop := (kv = -1 ∧ ∀ x, j ≤ x → x < hs.length → readyB hs out x = false) ∨ ∃ k : Nat, kv = k ∧ j ≤ k ∧ k < hs.length ∧ readyB hs out k = true ∧ ∀ x, j ≤ x → x < k → readyB hs out x = false
theorem least_no {hs out : List Int} {j : Nat} {kv : Int} (h : leastFrom hs out (j + 1) kv) (hr : readyB hs out j = false) : leastFrom hs out j kv := by
 rcases h with ⟨e, h⟩ | ⟨k, e, h1, h2, h3, h4⟩
 ·refine .inl ⟨e, fun x hx hl => ?_⟩
  rcases Nat.eq_or_lt_of_le hx with e' | l
  ·rw [← e']; exact hr
  ·exact h x l hl
 ·refine .inr ⟨k, e, by omega, h2, h3, fun x hx hl => ?_⟩
  rcases Nat.eq_or_lt_of_le hx with e' | l
  ·rw [← e']; exact hr
  ·exact h4 x l hl
theorem least_yes {hs out : List Int} {j : Nat} (hj : j < hs.length) (hr : readyB hs out j = true) : leastFrom hs out j (j : Int) := .inr ⟨j, rfl, Nat.le_refl _, hj, hr, fun x hx hl => by omega⟩
theorem least_all {hs out : List Int} {kv : Int} (h : leastFrom hs out 0 kv) : (kv = -1 ∧ nextO hs out = none) ∨ ∃ k : Nat, kv = k ∧ k < hs.length ∧ nextO hs out = some k := by
 rcases h with ⟨e, h⟩ | ⟨k, e, _, h2, h3, h4⟩
 ·exact .inl ⟨e, next_none fun i hi => h i (Nat.zero_le _) hi⟩
 ·exact .inr ⟨k, e, h2, next_some k h2 h3 fun i hi => h4 i (Nat.zero_le _) hi⟩
def ordR (L : List CueR) : List Int × Bool := if (ordP (hangs L)).length < L.length then ([], false) else (ordP (hangs L), true)
theorem ord_full {hs out : List Int} (h : OrdAt hs out) (hl : out.length = hs.length) : ordP hs = out := by
 rw [← h.eq, hl, Nat.sub_self]
 rfl

theorem reforder_any (ca pa : Option Addr) (L : List CueR) (A : List (ByteArray × ByteArray)) (cc pc : Nat) (w : World) (hlk : linkedB L A = true) (hI : Cues w.heap.size w ca L) :
  Calls Tryz.prog 61 #[.agg #[.slice ca L.length cc, .slice pa A.length pc]] w fun e w' => Hid (∃ v, e = .returned (.tuple #[v, .bool (ordR L).2]) ∧ w'.ownsRow w.heap.size 3 1 v (ordR L).1.length (nflat (ordR L).1) ∧ Below w.heap.size w w') := by
 have hlen := (linked_len hlk).1;have HLK := lh hlk; clear hlk;have hb0 : Below w.heap.size w (w.alloc (.cells #[.slice ca L.length cc, .slice pa A.length pc] 29)) := below_new w _;have HI := lh (hI.grow hb0); clear hI;have HX : Hid (∀ wr, Below (w.alloc (.cells #[.slice ca L.length cc, .slice pa A.length pc] 29)).heap.size (w.alloc (.cells #[.slice ca L.length cc, .slice pa A.length pc] 29)) wr → Below w.heap.size w wr ∧ wr.cell? ⟨w.heap.size, 0, none⟩ = some (.slice ca L.length cc) ∧ wr.cell? ⟨w.heap.size, 1, none⟩ = some (.slice pa A.length pc)) := lh fun wr h => ⟨mono_in _ h, box2 h⟩;have hz0 : w.heap.size < (w.alloc (.cells #[.slice ca L.length cc, .slice pa A.length pc] 29)).heap.size := by simp
 have z0 : (w.alloc (.cells #[.slice ca L.length cc, .slice pa A.length pc] 29)).cell? ⟨w.heap.size, 0, none⟩ = some (.slice ca L.length cc) := by simp
 have z1 : (w.alloc (.cells #[.slice ca L.length cc, .slice pa A.length pc] 29)).cell? ⟨w.heap.size, 1, none⟩ = some (.slice pa A.length pc) := by simp
 have hW0 : (w.alloc (.cells #[.slice ca L.length cc, .slice pa A.length pc] 29)).heap.size = w.heap.size + 1 := by simp
 have HW0 := lh hW0;clear hW0;obtain ⟨i0, hi, hz1, hz2, hz3⟩ := info_parts bit_info;obtain ⟨hs, HH⟩ : ∃ hs, Hid (hangs L = hs) := ⟨_, lh rfl⟩;have HHL : Hid (hs.length = L.length) := lh (by rw [← HH.out, hangs_len]);have HAT : Hid (∀ k, k < L.length → ig hs k = hangI L k) := lh fun k hk => by rw [← HH.out]; exact hangs_at L k hk
 have HRR : Hid (ordR L = if (ordP hs).length < L.length then ([], false) else (ordP hs, true)) := lh (by unfold ordR; rw [HH.out]);clear hb0
 go_enter Tryz.func61, Tryz.ntmps61
 go_wp2_with (at_make; refine wpList_make_full _ rfl _ _ 173 rfl _ 4 i0 (.bool false) 1 Tryz.underlying173 hi hz1 hz2 _ _ _ _ L.length rfl rfl rfl rfl (by rw [hz3]; omega) (by unfold maxLen; omega) (Nat.le_refl _) ?_; intro w2 hown2 hg2; try rw [World.size_alloc] at hown2; have HD2 := lh (show w2.ownsRow (w.heap.size + 1) 4 1 (.slice (some ⟨w.heap.size + 1, 0, none⟩) L.length L.length) L.length (bflat (doneL L.length [])) by (rw [← made_false]; exact hown2)); have hBW : Below (w.heap.size + 1) (w.alloc (.cells #[.slice ca L.length cc, .slice pa A.length pc] 29)) w2 := (br).grown hg2 (by simp) (fun k e => by cases e); have f0 := hg2.cell z0 (by simp); have f1 := hg2.cell z1 (by simp); clear hown2)
 generalize w.alloc (.cells #[.slice ca L.length cc, .slice pa A.length pc] 29) = W0 at *;have hg1 : w.heap.size + 1 < w2.heap.size := (HD2.out.lt _ rfl).2;have HI2 : Hid (Cues (w.heap.size + 1) w2 ca L) := lh (by have := HI.out; rw [HW0.out] at this; exact this.below hBW);have HZ0 := lh f0;have HZ1 := lh f1;have HF : Hid (∀ wr, Below (w.heap.size + 1) w2 wr → Below w.heap.size w wr) := lh fun wr h => (HX.out _ (by rw [HW0.out]; exact hBW.trans h)).1;have hL : L.length ≤ 60 := hlen;clear f0 f1 z0 z1 hBW HI hg2 HX hz0;generalize hgg : w.heap.size + 1 = g at *;have hwg : w.heap.size < g := by omega
 clear hgg
 go_loopw [5] (fun v wr => ∃ out : List Int, Hid (OrdAt hs out) ∧ Hid (∃ a' c', v = .slice a' out.length c') ∧ Hid (wr.ownsRow w2.heap.size 3 1 v out.length (nflat out)) ∧ Hid (wr.ownsRow g 4 1 (.slice (some ⟨g, 0, none⟩) L.length L.length) L.length (bflat (doneL L.length out))) ∧ Below g w2 wr ∧ w2.heap.size ≤ wr.heap.size) (fun v _ => (match v with | .slice _ n _ => L.length + 1 - n | _ => 0))
 case atStart => exact ⟨[], lh (OrdAt.start hs), lh ⟨_, _, rfl⟩, lh (World.ownsRow_nil _ _ _ _), HD2, br, Nat.le_refl _⟩
 case round =>
  clear HD2;obtain ⟨out, HO, HV, HR, HD, hB, hws⟩ := hrel;obtain ⟨a', c', rfl⟩ := HV.out;have hol : out.length ≤ L.length := by have := HO.out.len; rw [HHL.out] at this; exact this
  have z0 := (hB.cell (p := ⟨w.heap.size, 0, none⟩) hwg).trans HZ0.out;have z1 := (hB.cell (p := ⟨w.heap.size, 1, none⟩) hwg).trans HZ1.out
  by_cases hfull : out.length < L.length
  ·go_wp2_with fail
   obtain ⟨wo, hwo⟩ : ∃ wo : World, wo = wr := ⟨_, rfl⟩;subst hwo
   go_loopw [6, 7] (fun kv i wq => ∃ (j : Nat) (k i' : Int), j ≤ L.length ∧ i = .int .i64 i' ∧ kv = .int .i64 k ∧ Hid (i' = (j : Int) - 1) ∧ Hid (leastFrom hs out j k) ∧ Below wo.heap.size wo wq) (fun _ i _ => (intOf i + 1).toNat)
   case atStart => exact ⟨L.length, -1, _, Nat.le_refl _, rfl, rfl, lh rfl, lh (.inl ⟨rfl, fun x hx hl => by have := HHL.out; omega⟩), br⟩
   case round =>
    obtain ⟨j, kv, i', hj, rfl, rfl, HI', HLF, hB3⟩ := hrel;have hgo : g < wo.heap.size := by omega
    have hbs3 := hB3.size;have y0 := (hB3.cell (p := ⟨w.heap.size, 0, none⟩) (show w.heap.size < wo.heap.size by omega)).trans z0;have y1 := (hB3.cell (p := ⟨w.heap.size, 1, none⟩) (show w.heap.size < wo.heap.size by omega)).trans z1;rcases Nat.eq_zero_or_pos j with rfl | hpos
    ·obtain rfl : i' = -1 := by have := HI'.out; omega
     rcases least_all HLF.out with ⟨rfl, hnx⟩ | ⟨k, rfl, hk, hnx⟩
     ·have HE := lh (HO.out.ends hnx)
      have HP0 : Hid (ordR L = ([], false)) := lh (by rw [HRR.out, HE.out, if_pos hfull]);clear hnx
      go_wp2_with fail
      go_ret2
      rw [HP0.out];exact lh ⟨_, rfl, World.ownsRow_nil _ _ _ _, HF.out _ (hB.trans (hB3.mono (by omega)))⟩
     ·have HNX := lh (HO.out.next k hnx)
      have hkL : k < L.length := by have := HHL.out; omega
      have HD3 := lh (ownsRow_below HD.out hB3);have HR3 := lh (ownsRow_below HR.out hB3);have dk := bit_at HD3.out k hkL;have hfz := HD3.out.frozenAt k;have hst := HD3.out.stored k (.bool true);rw [doneL_set] at hst;have HST := lh hst.1;have hgr : g < wr.heap.size := by omega
      have HRS := lh (ownsRow_setCell_below HR3.out (a := ⟨g, k, none⟩) (show g < w2.heap.size from hg1) (.bool true));have HBS : Hid (Below g w2 (wr.setCell ⟨g, k, none⟩ (.bool true))) := lh ((hB.trans (hB3.mono (by omega))).setCell (show g ≤ (⟨g, k, none⟩ : Addr).block from Nat.le_refl _) _);clear hst hnx
      go_wp2_with (at_builtin; refine num_append rfl _ _ rfl w2.heap.size _ out rfl (HRS.out.alloc _) _ (k : Int) rfl (new_set _ _ _ _ _) (by omega) (by first | omega | (simp; omega)) ?_; intro v3 w3 hown3 hg3)
      have hBn : Below g w2 w3 := grown_own (HRS.out.alloc _) hg3 (HBS.out.alloc (by first | omega | (simp; omega)) _) (by first | omega | (simp; omega)) (by omega)
      have HDn := lh ((HST.out.alloc _).kept hg3 (.inr (by
       intro e;have : w2.heap.size ≤ g := (HRS.out.lt _ e.symm).1;omega)))
      have hs3 : w2.heap.size ≤ w3.heap.size := by have := hg3.size; simp at this; omega
      go_roundw
      case rel => exact ⟨_, lh HNX.out.1, lh (by obtain ⟨a3, c3, e, _⟩ := num_of_row hown3; exact ⟨a3, c3, e⟩), lh hown3, HDn, hBn, hs3⟩
      case measure =>
       have := HNX.out.2;obtain ⟨a3, c3, e, _⟩ := num_of_row hown3;rw [e]
       simp
       omega
    ·obtain ⟨m, rfl⟩ : ∃ m, j = m + 1 := ⟨j - 1, by omega⟩
     obtain rfl : i' = (m : Int) := by have := HI'.out; omega
     have hmL : m < L.length := by omega
     have hmh : m < hs.length := by have := HHL.out; omega
     have HDM := lh (show ∀ i, i < L.length → wr.cell? ⟨g, i, none⟩ = some (.bool (decide ((i : Int) ∈ out))) from fun i hi => (hB3.cell (p := ⟨g, i, none⟩) hgo).trans (bit_at HD.out i hi));have dm := HDM.out m hmL;obtain ⟨b, off, rfl, hbl, hc⟩ := HI2.out (by omega);have e1 := (hB3.cell (p := ⟨b, off + m * 7 + 1, none⟩) (show b < wo.heap.size by omega)).trans ((hB.cell (p := ⟨b, off + m * 7 + 1, none⟩) hbl).trans (hc m hmL).2.1);have hat := HAT.out m hmL;have hlc := (linked_cue HLK.out m hmL).2.2.2;clear hc
     by_cases hmo : (m : Int) ∈ out
     ·rw [decide_eq_true hmo] at dm
      have HL1 := lh (least_no HLF.out (ready_in hmo));clear hmo hat hlc HI'
      go_wp2_with fail
      go_quiet (fail)
      go_wp2_with fail
      go_roundw
      case rel => exact ⟨m, kv, _, by omega, rfl, rfl, lh rfl, HL1, below_drewN hB3 _⟩
      case measure => first | (simp [intOf]; done) | (simp [intOf]; omega)
     ·rw [decide_eq_false hmo] at dm
      rcases hlc with ⟨l1, ha⟩ | ⟨_, l1, f, hf, hfa, _⟩
      ·have hs1 : (cg L m).after.toList = [] := (nil_iff _).2 ha
       have HL1 := lh (least_yes hmh (ready_neg hmo (by rw [hat, hang_manual l1]; decide)));clear hmo hat l1 ha HI'
       go_wp2_with fail
       go_quiet (fail)
       go_wp2_with fail
       go_roundw
       case rel => exact ⟨m, _, _, by omega, rfl, rfl, lh rfl, HL1, below_drewN hB3 _⟩
       case measure => first | (simp [intOf]; done) | (simp [intOf]; omega)
      ·have hs1 : (cg L m).after.toList.isEmpty = false := by
        cases he : (cg L m).after.toList with
        | nil =>
         exfalso
         have hnm := (linked_cue HLK.out f hf).1;obtain ⟨_, h2, _⟩ := findI_name L (cg L m).after (by omega);rw [hfa, Int.toNat_natCast] at h2;rw [h2, (nil_iff _).1 he] at hnm
         revert hnm; decide
        | cons x r => rfl
       have HFA := lh hfa;have hhf : ig hs m = f := by rw [hat, hang_other l1, hfa]
       have df := HDM.out f hf;have HCR := lh (((HI2.out.below hB).mono (show g ≤ wo.heap.size by omega)).grow hB3);have hbr := Below.refl wr.heap.size wr;obtain ⟨bv, hbv⟩ := nm (decide ((f : Int) ∈ out));rw [hbv] at df
       have HRD : Hid (readyB hs out m = bv) := lh (by
        cases bv
        ·exact ready_no hhf (of_decide_eq_false hbv)
        ·exact ready_done hmo hhf (of_decide_eq_true hbv))
       have HS : Hid (∀ w', Below wr.heap.size wr w' → Below wr.heap.size wr w' ∧ w'.cell? ⟨w.heap.size, 0, none⟩ = some (.slice (some ⟨b, off, none⟩) L.length cc) ∧ w'.cell? ⟨w.heap.size, 1, none⟩ = some (.slice pa A.length pc) ∧ w'.cell? ⟨b, off + m * 7 + 1, none⟩ = some (.string (cg L m).after) ∧ w'.cell? ⟨g, m, none⟩ = some (.bool false) ∧ w'.cell? ⟨g, f, none⟩ = some (.bool bv)) := lh fun w' h =>
        ⟨h, (h.cell (p := ⟨w.heap.size, 0, none⟩) (wl y0)).trans y0, (h.cell (p := ⟨w.heap.size, 1, none⟩) (wl y1)).trans y1, (h.cell (p := ⟨b, off + m * 7 + 1, none⟩) (wl e1)).trans e1, (h.cell (p := ⟨g, m, none⟩) (wl dm)).trans dm, (h.cell (p := ⟨g, f, none⟩) (wl df)).trans df⟩
       clear hmo hat l1 HI' hfa hhf hbv
       go_wp2_with fail
       go_region_held3 (fun w' => Below wr.heap.size wr w' ∧ w'.cell? ⟨w.heap.size, 0, none⟩ = some (.slice (some ⟨b, off, none⟩) L.length cc) ∧ w'.cell? ⟨w.heap.size, 1, none⟩ = some (.slice pa A.length pc) ∧ w'.cell? ⟨b, off + m * 7 + 1, none⟩ = some (.string (cg L m).after) ∧ w'.cell? ⟨g, m, none⟩ = some (.bool false) ∧ w'.cell? ⟨g, f, none⟩ = some (.bool bv))
        (first | exact HS.out _ hbn | exact HS.out _ hbr.drew | go_keep)
        (first
         | (go_at_call 63; go_split_ands; (with_reducible refine (reffind_any _ L _ _ (cg L m).after _ (by omega) ?_).mono ?_); (next => exact HCR.out.grow (by assumption)); rintro e w4 ⟨rfl, hb4⟩; rw [HFA.out]; have hbn := held_next (wr := wr) (by assumption) hb4))
       cases bv
       ·have HL1 := lh (least_no HLF.out HRD.out)
        go_wp2_with fail
        go_roundw
        case rel => exact ⟨m, kv, _, by omega, rfl, rfl, lh rfl, HL1, hB3.trans (hbn.mono hB3.size)⟩
        case measure => first | (simp [intOf]; done) | (simp [intOf]; omega)
       ·have HL1 := lh (least_yes hmh HRD.out)
        go_wp2_with fail
        go_roundw
        case rel => exact ⟨m, _, _, by omega, rfl, rfl, lh rfl, HL1, hB3.trans (hbn.mono hB3.size)⟩
        case measure => first | (simp [intOf]; done) | (simp [intOf]; omega)
  ·have HE := lh (ord_full HO.out (by have := HHL.out; omega))
   have HP0 : Hid (ordR L = (out, true)) := lh (by rw [HRR.out, HE.out, if_neg hfull])
   go_wp2_with fail
   go_ret2
   rw [HP0.out];exact lh ⟨_, rfl, ownsRow_base HR.out (by omega), HF.out _ hB⟩
end
end Go.Proofs.YtlnodjcmdnmnlaaGreat
