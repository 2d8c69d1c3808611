/-
  THE WALK of the reference 36: After.
-/
import Derived.Test.YtlnodjcmdnmnlaaGreatV17
import Derived.Test.YtlnodjcmdnmnlaaGreatV23
namespace Go.Proofs.YtlnodjcmdnmnlaaGreat
set_option maxRecDepth 100000
set_option linter.unusedSimpArgs false
set_option maxHeartbeats 80000000
section
open Go.RowKit Go.Shelf
attribute [local go_sem] Oper.semAt_some
theorem rafter_any (h : HouseR) (q : CueR) (ta : Option Addr) (t : List Int) (tc : Nat) (w : World) (hh : HouseIn0 w h) (hl : h.sets.length ≤ 1000) (hm : Movs w.heap.size w q.ma q.moves) (hml : q.moves.length ≤ 1000)
  (ht : Nums w.heap.size w ta t) (htl : t.length = h.sets.length) (htn : ta = none → tc = 0) (hok : ∀ i, i < q.moves.length → 0 ≤ findS h.sets (mg q.moves i).name) :
  Calls Tryz.prog 90 #[.agg #[.string h.name, .int .i64 h.height, .slice h.sa h.sets.length h.sc, .slice h.ra h.roofs.length h.rc], .slice ta t.length tc, .agg #[.string q.name, .string q.after, .int .i64 q.link, .int .i64 q.delay, .slice q.ma q.moves.length q.mc, .int .i64 q.crew, .int .i64 q.power]] w fun e w' => Hid (∃ v, e = .returned v ∧ w'.ownsRow w.heap.size 3 1 v (movedL h t q.moves).length (nflat (movedL h t q.moves))) ∧ Below w.heap.size w w' := by
 have hb0 : Below w.heap.size w ((w.alloc (HC h)).alloc (CC q)) := (below_new w _).alloc (by simp) _
 have HX : Hid (∀ w', Below ((w.alloc (HC h)).alloc (CC q)).heap.size ((w.alloc (HC h)).alloc (CC q)) w' → HouseAt w' w.heap.size h ∧ CueAt w' (w.heap.size + 1) q ∧ HouseIn0 w' h ∧ Movs w'.heap.size w' q.ma q.moves ∧ Nums w'.heap.size w' ta t) := lh fun w' z =>
  ⟨((HouseAt.new w h _).carry (below_new _ _)).carry z, (CueAt.new (w.alloc _) q _ _ (by simp)).carry z, (hh.grow hb0).grow z, (hm.grow hb0).grow z, (ht.grow hb0).grow z⟩
 have HW : Hid (∀ w', Below ((w.alloc (HC h)).alloc (CC q)).heap.size ((w.alloc (HC h)).alloc (CC q)) w' → Below w.heap.size w w') := lh fun w' z => hb0.trans (z.mono hb0.size);have hml2 : (movedL h t q.moves).length = t.length := movedL_len h q.moves t;have HOK := lh hok;have HTN := lh htn;have HML2 := lh hml2;have HTLL := lh htl;have htl2 : t.length ≤ 1000000 := by omega
 clear hh hb0 hm ht hok htn hml2 htl
 go_enter Tryz.func90, Tryz.ntmps90
 go_upto_region 1 with (fail)
 obtain ⟨W0, hW0⟩ := nm (((w.alloc (HC h)).alloc (CC q)) : World);simp only [hW0] at HX HW ⊢;clear hW0;obtain ⟨B1, hB1⟩ := nm (w.heap.size);obtain ⟨B2, hB2⟩ := nm (w.heap.size + 1);rw [hB2] at HX ⊢;rw [hB1] at HX ⊢;clear hB1 hB2;obtain ⟨n₀, hn0⟩ := nm (W0.heap.size);have HSB : Hid (w.heap.size ≤ n₀) := lh (by have := (HW.out _ br).size; omega);have hB0 : Below n₀ W0 W0 := by rw [← hn0]; exact br
 have HXX : Hid (∀ w', Below n₀ W0 w' → HouseAt w' B1 h ∧ CueAt w' B2 q ∧ HouseIn0 w' h ∧ Movs w'.heap.size w' q.ma q.moves ∧ Nums w'.heap.size w' ta t) := lh fun w' z => by rw [← hn0] at z; exact HX.out w' z
 have HWW : Hid (∀ w', Below n₀ W0 w' → Below w.heap.size w w') := lh fun w' z => by rw [← hn0] at z; exact HW.out w' z
 have hB1 := hB0.alloc (by omega) (.cells #[] 3);have HO1 : Hid ((W0.alloc (.cells #[] 3)).ownsRow n₀ 3 1 (.slice (some ⟨W0.heap.size, 0, none⟩) 0 0) ([] : List Int).length (nflat [])) := lh (World.ownsRow_lit W0 #[] 0 (by omega) (by unfold maxLen; omega) rfl);have HN1 := lh (HXX.out _ hB1).2.2.2.2;have hn1 : n₀ ≤ (W0.alloc (.cells #[] 3)).heap.size := by simp; omega
 clear HX HW hB0 hn0
 go_upto_region 3 with (at_builtin; refine num_append_all rfl _ _ rfl n₀ _ [] rfl HO1.out ta t tc rfl HN1.out HTN.out (by simp) htl2 hn1 ?_; intro v1 w1 hr1 hg1; have HR1 := lh hr1; have hb1 := hB1.grown hg1 (by omega) (fun j hj => (HO1.out.lt _ hj).1); have hs1 := Nat.le_trans hn1 hg1.size; clear hr1 hg1)
 obtain ⟨qa, hqa⟩ := nm (q.ma);have HQA := lh hqa;rw [hqa];clear hqa HO1 HN1 hB1 hn1;have HR0 : Hid (w1.ownsRow n₀ 3 1 v1 h.sets.length (nflat t)) := lh (by have := HR1.out; rw [List.nil_append, HTLL.out] at this; exact this);clear HR1
 go_loopw [8] (fun iv wr => ∃ k : Nat, iv = .int .i64 k ∧ k ≤ q.moves.length ∧ Below n₀ W0 wr ∧ n₀ ≤ wr.heap.size ∧ Hid (wr.ownsRow n₀ 3 1 v1 h.sets.length (nflat (movedL h t (q.moves.take k))))) (fun iv _ => q.moves.length - (intOf iv).toNat)
 case atStart => exact ⟨0, rfl, Nat.zero_le _, hb1, hs1, lh (by rw [List.take_zero]; exact HR0.out)⟩
 case round =>
  clear HR0 hb1 hs1;obtain ⟨k, rfl, hk, hB, hnw, HR⟩ := hrel;obtain ⟨-, ⟨c0, c1, c2, c3, c4, c5, c6⟩, -, hmv, -⟩ := HXX.out _ hB;rw [HQA.out] at c4
  by_cases hlt : k < q.moves.length
  ·rw [HQA.out] at hmv
   obtain ⟨mb, mo, hma, hmb, -⟩ := hmv (by omega);subst hma;have HSN := lh (movedL_snoc h t q.moves hlt);have hf0 := HOK.out k hlt;have hf1 := (find_name hf0).1;have HTL : Hid ((movedL h t (q.moves.take k)).length = h.sets.length) := lh (by rw [movedL_len, HTLL.out]);obtain ⟨x, hx⟩ := nm (mg q.moves k);have HMK := lh hx;rw [hx] at HSN hf0 hf1;obtain ⟨f, hf⟩ := nm (findS h.sets x.name);have HF := lh hf;rw [hf] at hf0 hf1 HSN;have hf2 : f < (h.sets.length : Int) := by omega
   obtain ⟨T, hT⟩ := nm (movedL h t (q.moves.take k));rw [hT] at HR HSN HTL;clear hx hf hmv hT
   have hvv : ∃ g cap, v1 = .slice (some ⟨g, 0, none⟩) h.sets.length cap ∧ n₀ ≤ g := by
    rcases HR.out.2 with ⟨_, e0⟩ | ⟨g, cap, cur, e, hb, _⟩
    ·omega
    ·exact ⟨g, cap, e, hb⟩
   obtain ⟨g, cap, hv1, hgn⟩ := hvv;subst hv1;have HSETC := lh fun (w' : World) (z : HouseIn0 w' h) => rfind_any h x.name w' z hl;have HRD := lh (show wr.drew.ownsRow n₀ 3 1 (.slice (some ⟨g, 0, none⟩) h.sets.length cap) h.sets.length (nflat T) from HR.out)
   go_upto_region 5 with (fail)
   clear c0 c1 c2 c3 c4 c5 c6;have x0 : ∀ w', HeldT n₀ W0 w' → w'.cell? ⟨B1, 0, none⟩ = some (.string h.name) := fun w' z => (HXX.out w' z.old).1.1;have x1 : ∀ w', HeldT n₀ W0 w' → w'.cell? ⟨B1, 1, none⟩ = some (.int .i64 h.height) := fun w' z => (HXX.out w' z.old).1.2.1;have x2 : ∀ w', HeldT n₀ W0 w' → w'.cell? ⟨B1, 2, none⟩ = some (.slice h.sa h.sets.length h.sc) := fun w' z => (HXX.out w' z.old).1.2.2.1;have x3 : ∀ w', HeldT n₀ W0 w' → w'.cell? ⟨B1, 3, none⟩ = some (.slice h.ra h.roofs.length h.rc) := fun w' z => (HXX.out w' z.old).1.2.2.2;have c4 : ∀ w', HeldT n₀ W0 w' → w'.cell? ⟨B2, 4, none⟩ = some (.slice (some ⟨mb, mo, none⟩) q.moves.length q.mc) := fun w' z => by rw [← HQA.out]; exact (HXX.out w' z.old).2.1.2.2.2.2.1
   have hmm : ∀ w', HeldT n₀ W0 w' → w'.cell? ⟨mb, mo + k * 5, none⟩ = some (.string x.name) ∧ w'.cell? ⟨mb, mo + k * 5 + 1, none⟩ = some (.int .i64 x.to) := fun w' z => by
    obtain ⟨mb', mo', e, -, ex⟩ := (HXX.out w' z.old).2.2.2.1 (by omega);rw [HQA.out] at e
    cases e
    have := ex k hlt;rw [HMK.out] at this;exact ⟨this.1, this.2.1⟩
   have y0 := fun w' z => (hmm w' z).1;have y1 := fun w' z => (hmm w' z).2;clear hmm;have hH0 : HeldT n₀ W0 wr := ⟨hB, hnw⟩;refine wp_region_held_drew (S := (HeldT n₀ W0)) (by kernel_rfl) (hH0.next (br).drew) (fun hHeld => ?_);refine tk 0 ?_; refine tk 1 ?_; refine tk 2 ?_; refine tk 3 ?_; refine tk 4 ?_; refine tk 5 ?_; refine tk 6 ?_; refine tk 7 ?_; refine tk 9 ?_; refine tk 10 ?_; refine tk 11 ?_; refine tk 12 ?_; refine tk 13 ?_; refine tk 14 ?_;refine r1 8 (fun K hK => ?_)
   try simp only [q4, q5, q6]
   go_simp
   (go_at_call 87; go_split_ands; (with_reducible refine (HSETC.out _ (HXX.out _ hHeld.old).2.2.1).mono ?_); rintro e w6 ⟨rfl, hb6⟩; rw [HF.out]; have HR6 := lh (ownsRow_below HRD.out hb6); have hH6 := hHeld.next hb6)
   go_wp2_with fail
   refine hK.out _ _ (hH6) (fun hHeld => ?_);clear hK K
   try simp only [Act.put, qq]
   refine tk 15 ?_;have o2 : w6.cell? ⟨g, f.toNat, none⟩ = some (.int .i64 (ig T f.toNat)) := by rw [HR6.out.cellAt f.toNat (by omega), nflat_at _ _ (by rw [HTL.out]; exact hf1)]
   have o3 := HR6.out.frozenAt f.toNat;have o4 : g < w6.heap.size := (HR6.out.lt _ rfl).2;refine r1 16 (fun K hK => ?_);rw [if_pos (by rfl)]
   try simp only [q4, q5, q6]
   go_wp2_with fail
   refine hK.out _ _ (hH6.put hgn _) (fun hHeld7 => ?_);clear hK K
   try simp only [Act.put, qq]
   refine wpAnyH_done (by kernel_rfl) ?_ _;have HST := lh (show (w6.setCell ⟨g, f.toNat, none⟩ (.int .i64 x.to)).ownsRow n₀ 3 1 (.slice (some ⟨g, 0, none⟩) h.sets.length cap) h.sets.length (nflat (movedL h t (q.moves.take (k + 1)))) by rw [HSN.out, nflat_setL]; exact (HR6.out.stored f.toNat _).1);have hB7 := hHeld7.old;have hs7 := hHeld7.lo
   go_wp2_with fail
   go_roundw
   case rel => exact ⟨k + 1, by go_num, by omega, hB7, hs7, HST⟩
   case measure => simp [intOf]; omega
  ·obtain rfl : k = q.moves.length := by omega
   rw [List.take_length] at HR;clear hmv
   go_wp2_with fail
   go_ret;exact ⟨lh ⟨_, rfl, by rw [HML2.out, HTLL.out]; exact ownsRow_base HR.out HSB.out⟩, HWW.out _ hB⟩
theorem rhigh_any (h : HouseR) (w : World) (hh : HouseIn0 w h) (hl : h.sets.length ≤ 1000) :
  Calls Tryz.prog 89 #[.agg #[.string h.name, .int .i64 h.height, .slice h.sa h.sets.length h.sc, .slice h.ra h.roofs.length h.rc]] w fun e w' => Hid (∃ v, e = .returned v ∧ w'.ownsRow w.heap.size 3 1 v (highsL h).length (nflat (highsL h))) ∧ Below w.heap.size w w' := by
 have hb0 : Below w.heap.size w (w.alloc (HC h)) := below_new w _;have HX : Hid (∀ w', Below (w.alloc (HC h)).heap.size (w.alloc (HC h)) w' → HouseAt w' w.heap.size h ∧ HouseIn0 w' h) := lh fun w' z => ⟨(HouseAt.new w h _).carry z, (hh.grow hb0).grow z⟩;have HW : Hid (∀ w', Below (w.alloc (HC h)).heap.size (w.alloc (HC h)) w' → Below w.heap.size w w') := lh fun w' z => hb0.trans (z.mono hb0.size);clear hh hb0
 go_enter Tryz.func89, Tryz.ntmps89
 go_upto_region 1 with (fail)
 obtain ⟨W0, hW0⟩ := nm ((w.alloc (HC h)) : World);simp only [hW0] at HX HW ⊢;clear hW0;obtain ⟨B1, hB1⟩ := nm (w.heap.size);have HSB : Hid (w.heap.size ≤ W0.heap.size) := lh (HW.out _ br).size;rw [hB1] at HX ⊢;clear hB1;obtain ⟨n₀, hn0⟩ := nm (W0.heap.size);rw [hn0] at HX HW HSB;have hB0 : Below n₀ W0 W0 := by rw [← hn0]; exact br
 have hn : n₀ ≤ W0.heap.size := by omega
 obtain ⟨sa, hsa⟩ := nm (h.sa);have HSA := lh hsa;rw [hsa];clear hsa hn0
 go_upto_region 3 with (fail)
 go_loopw [3, 4] (fun v iv wr => ∃ k : Nat, iv = .int .i64 k ∧ k ≤ h.sets.length ∧ Below n₀ W0 wr ∧ n₀ ≤ wr.heap.size ∧ Hid (wr.ownsRow n₀ 3 1 v k (nflat ((h.sets.take k).map (·.high))))) (fun _ iv _ => h.sets.length - (intOf iv).toNat)
 case atStart => exact ⟨0, rfl, Nat.zero_le _, hB0, hn, lh (World.ownsRow_nil _ _ _ _)⟩
 case round =>
  clear hB0 hn;obtain ⟨k, rfl, hk, hB, hnw, HR⟩ := hrel;obtain ⟨⟨a0, a1, a2, a3⟩, hi⟩ := HX.out _ hB
  by_cases hlt : k < h.sets.length
  ·obtain ⟨b, off, ha, hb, hc⟩ := hi.sets (by omega)
   rw [HSA.out] at ha a2;subst ha;obtain ⟨-, -, -, d3, -⟩ := hc k hlt;have HHT := lh (highs_take h hlt);have HKL : Hid (((h.sets.take k).map (·.high)).length = k) := lh (by rw [List.length_map, List.length_take]; omega);obtain ⟨x, hx⟩ := nm ((hg h.sets k).high);rw [hx] at d3 HHT;obtain ⟨T, hT⟩ := nm ((h.sets.take k).map (·.high));rw [hT] at HR HHT HKL;clear hx hc hT hi;have hbx := below_new wr (.cells #[.int .i64 x] 3);have HO8 : Hid ((wr.alloc (.cells #[.int .i64 x] 3)).ownsRow n₀ 3 1 u3 T.length (nflat T)) := lh (by rw [HKL.out]; exact ownsRow_below HR.out hbx);have hB8 := hB.alloc hnw (.cells #[.int .i64 x] 3);have hn8 : n₀ ≤ (wr.alloc (.cells #[.int .i64 x] 3)).heap.size := by simp; omega
   have hkl : T.length ≤ 1000000 := by rw [HKL.out]; omega
   have hc8 : (wr.alloc (.cells #[.int .i64 x] 3)).cell? ⟨wr.heap.size, 0, none⟩ = some (.int .i64 x) := by simp
   clear hbx
   go_wp2_with (at_builtin; refine num_append rfl _ _ rfl n₀ _ T rfl HO8.out _ x rfl hc8 hkl hn8 ?_; intro v2 w8 hown8 hg8; have HO9 := lh hown8; have hB9 := hB8.grown hg8 (by omega) (fun j hj => (HO8.out.lt _ hj).1); have hn9 := Nat.le_trans hn8 hg8.size; clear hown8 hg8)
   go_roundw
   case rel => exact ⟨k + 1, by go_num, by omega, hB9, hn9, lh (by have := HO9.out; rw [List.length_append, HKL.out] at this; rw [HHT.out]; exact this)⟩
   case measure => simp [intOf]; omega
  ·obtain rfl : k = h.sets.length := by omega
   rw [List.take_length] at HR;rw [HSA.out] at a2;have hhl : Hid ((highsL h).length = h.sets.length) := lh (by unfold highsL; rw [List.length_map]);clear hi
   go_wp2_with fail
   go_ret;exact ⟨lh ⟨_, rfl, by rw [hhl.out]; exact ownsRow_base HR.out HSB.out⟩, HW.out _ hB⟩
structure TrimRows (h : HouseR) (C : List CueR) (P : List LstR) (n : Nat) : Prop where
 len : P.length = n + 1
 eq : ∀ i, i ≤ n → (lg P i).xs = trimL h C i
theorem TrimRows.snoc {h : HouseR} {C : List CueR} {P : List LstR} {n : Nat} {y : LstR} (t : TrimRows h C P n) (hy : y.xs = trimL h C (n + 1)) : TrimRows h C (P ++ [y]) (n + 1) := by
 refine ⟨by rw [List.length_append, t.len]; rfl, fun i hi => ?_⟩;rcases Nat.lt_or_ge i P.length with l | l
 ·rw [lg_old P y i l]; exact t.eq i (by have := t.len; omega)
 ·obtain rfl : i = P.length := by have := t.len; omega
  rw [lg_new, hy, t.len]
structure TrimsIn (w : World) (a : Option Addr) (h : HouseR) (C : List CueR) (P : List LstR) : Prop where
 rows : TrimRows h C P C.length
 lies : Lsts w.heap.size w a P
 each : ∀ i, i < P.length → Nums w.heap.size w (lg P i).a (lg P i).xs
 none : ∀ i, i < P.length → (lg P i).a = none → (lg P i).c = 0
theorem TrimsIn.grow {w w' : World} {a : Option Addr} {h : HouseR} {C : List CueR} {P : List LstR} (t : TrimsIn w a h C P) (hb : Below w.heap.size w w') : TrimsIn w' a h C P :=
 ⟨t.rows, t.lies.grow hb, fun i hi => (t.each i hi).grow hb, t.none⟩
theorem trims_in {w : World} {base base' : Nat} {v : Value} {h : HouseR} {C : List CueR} {P : List LstR} (hr : w.ownsRow base 30 1 v P.length (lflat P)) (ho : OwnLs w base' P) (t : TrimRows h C P C.length) : ∃ a c, v = .slice a P.length c ∧ TrimsIn w a h C P := by
 obtain ⟨a, c, e, _, _, _, hl⟩ := lst_of_row hr;refine ⟨a, c, e, t, hl, fun i hi => ho.nums hi, fun i hi => ?_⟩;obtain ⟨a', c', e', _, _, hn, _⟩ := num_of_row (ho i hi);unfold lstV at e'
 cases e'
 exact hn
theorem trims_no (h : HouseR) (s : SheetR) (w : World) (hh : HouseIn w h) (hs : SheetIn w s) (hv : sheetB h s = false) :
  Calls Tryz.prog 41 #[.agg #[.string h.name, .int .i64 h.height, .slice h.sa h.sets.length h.sc, .slice h.ra h.roofs.length h.rc], .agg #[.slice s.ca s.cues.length s.cc, .slice s.pa s.pairs.length s.pc]] w fun e w' => e = .returned (.tuple #[.slice none 0 0, .int .i64 1]) ∧ Below w.heap.size w w' := by
 have hb0 : Below w.heap.size w (TW w h s) := (below_new w _).alloc (by simp) _;have hat : HouseAt (TW w h s) w.heap.size h := (HouseAt.new w h _).carry (below_new _ _);have sat : SheetAt (TW w h s) (w.heap.size + 1) s := by unfold SheetAt; simp
 have HH := lh (hh.grow hb0);have HS := lh (hs.grow hb0);have HV := lh hv;clear hh hs hv
 go_enter Tryz.func41, Tryz.ntmps41
 go_upto_region 1 with (fail)
 obtain ⟨W0, hW0⟩ := nm ((TW w h s) : World);simp only [hW0] at hb0 hat sat HH HS ⊢;clear hW0;obtain ⟨a0, a1, a2, a3⟩ := hat;obtain ⟨s0, s1⟩ := sat
 go_wp2_with (go_at_call 64; (with_reducible refine (cuevalid_any h s _ HH.out HS.out).mono ?_); rintro e w1 ⟨rfl, hb1⟩; rw [HV.out])
 go_ret2
 exact ⟨rfl, hb0.trans (hb1.mono hb0.size)⟩
theorem trims_yes (h : HouseR) (s : SheetR) (w : World) (hh : HouseIn w h) (hs : SheetIn w s) (hv : sheetB h s = true) :
  Calls Tryz.prog 41 #[.agg #[.string h.name, .int .i64 h.height, .slice h.sa h.sets.length h.sc, .slice h.ra h.roofs.length h.rc], .agg #[.slice s.ca s.cues.length s.cc, .slice s.pa s.pairs.length s.pc]] w fun e w' => Hid (∃ a c P, e = .returned (.tuple #[.slice a (s.cues.length + 1) c, .int .i64 0]) ∧ TrimsIn w' a h s.cues P) ∧ Below w.heap.size w w' := by
 obtain ⟨hb0, HX, HW⟩ := o2 hh hs;have hsl := hh.slen;have hcl := hs.clen;have HML := lh hs.mlen;have HV := lh hv;have HOK := lh (sheetB_iff.1 hv);clear hh hs hb0 hv
 go_enter Tryz.func41, Tryz.ntmps41
 go_upto_region 1 with (fail)
 obtain ⟨W0, hW0⟩ := nm ((TW w h s) : World);simp only [hW0] at HX HW ⊢;clear hW0;obtain ⟨B1, hB1⟩ := nm (w.heap.size);obtain ⟨B2, hB2⟩ := nm (w.heap.size + 1);rw [hB2] at HX ⊢;rw [hB1] at HX ⊢;clear hB1 hB2;obtain ⟨⟨a0, a1, a2, a3⟩, ⟨s0, s1⟩, hin, sin⟩ := HX.out _ br;obtain ⟨sa, hsa⟩ := nm (h.sa);have HSA := lh hsa;obtain ⟨ca, hca⟩ := nm (s.ca);have HCA := lh hca;have HCV := lh (cuevalid_any h s _ hin sin);rw [hsa, hca] at HCV;rw [hsa] at a2 ⊢;rw [hca] at s0 ⊢;clear hsa hca hin sin;obtain ⟨n₀, hn0⟩ := nm (W0.heap.size);have HXX : Hid (∀ w', Below n₀ W0 w' → HouseAt w' B1 h ∧ SheetAt w' B2 s ∧ HouseIn w' h ∧ SheetIn w' s) := lh fun w' z => by rw [← hn0] at z; exact HX.out w' z
 have HWW : Hid (∀ w', Below n₀ W0 w' → Below w.heap.size w w') := lh fun w' z => by rw [← hn0] at z; exact HW.out w' z
 go_upto_region 5 with (go_at_call 64; (with_reducible refine HCV.out.mono ?_); rintro e w1 ⟨rfl, hb1⟩; rw [HV.out]; rw [hn0] at hb1; obtain ⟨⟨u0, u1, u2, u3⟩, -, -, -⟩ := HXX.out _ hb1; rw [HSA.out] at u2)
 have hn1 : n₀ ≤ w1.heap.size := by have := hb1.size; omega
 clear a0 a1 a2 a3 s0 s1 u0 u1 u2 u3 HX HW HCV;obtain ⟨N1, hN1⟩ := nm (w1.heap.size);have hb1' := hb1
 go_loopw [6, 8, 19] (fun v _ iv wr => ∃ k : Nat, iv = .int .i64 k ∧ k ≤ h.sets.length ∧ Below n₀ W0 wr ∧ n₀ ≤ wr.heap.size ∧ Hid (wr.ownsRow n₀ 3 1 v k (nflat ((h.sets.take k).map (·.high))))) (fun _ _ iv _ => h.sets.length - (intOf iv).toNat)
 case atStart => exact ⟨0, rfl, Nat.zero_le _, hb1, hn1, lh (World.ownsRow_nil _ _ _ _)⟩
 case round =>
  clear hb1 hn1 hb1' hN1;obtain ⟨k, rfl, hk, hB, hnw, HR⟩ := hrel
  by_cases hlt : k < h.sets.length
  ·obtain ⟨b, off, ha, hb, hc⟩ := (HXX.out _ hB).2.2.1.sets (by omega)
   rw [HSA.out] at ha;subst ha;obtain ⟨d0, d1, d2, d3, d4, d5, d6, d7, d8, d9, d10, d11, d12⟩ := hc k hlt;have HHT := lh (highs_take h hlt);have HKL : Hid (((h.sets.take k).map (·.high)).length = k) := lh (by rw [List.length_map, List.length_take]; omega);obtain ⟨x, hx⟩ := nm (hg h.sets k);rw [hx] at d0 d1 d2 d3 d4 d5 d6 d7 d8 d9 d10 d11 d12 HHT;obtain ⟨T, hT⟩ := nm ((h.sets.take k).map (·.high));rw [hT] at HR HHT HKL;clear hx hc hT
   go_upto_region 7 with (fail)
   have hB3 := hB.alloc hnw (RC x);have HR3 := lh (HR.out.alloc (RC x));have hn3 : n₀ ≤ (wr.alloc (RC x)).heap.size := by simp; omega
   have hx3 : (wr.alloc (RC x)).cell? ⟨wr.heap.size, 3, none⟩ = some (.int .i64 x.high) := by simp
   have hl3 : wr.heap.size < (wr.alloc (RC x)).heap.size := by simp
   clear d0 d1 d2 d3 d4 d5 d6 d7 d8 d9 d10 d11 d12 HR hB;generalize wr.alloc (RC x) = W3 at *;have HR4 := lh (HR3.out.alloc (.cells #[.int .i64 x.high] 3));have hB4 := hB3.alloc hn3 (.cells #[.int .i64 x.high] 3);have hn4 : n₀ ≤ (W3.alloc (.cells #[.int .i64 x.high] 3)).heap.size := by simp; omega
   have HKL2 := lh HKL.out.symm;rw [HKL2.out] at HR4
   go_wp2_with (at_builtin; refine num_append rfl _ _ rfl n₀ _ T rfl HR4.out _ x.high rfl (by simp) (by rw [HKL.out]; omega) hn4 ?_; intro v2 w2 hown2 hg2; have hB2 := grown_own HR4.out hg2 hB4 hn4 (Nat.le_refl _); rw [← HHT.out] at hown2; have HO2 := lh hown2; have hs2 := Nat.le_trans hn4 hg2.size; clear hown2 hg2)
   go_roundw
   case rel => exact ⟨k + 1, by go_num, by omega, hB2, hs2, lh (by have := HO2.out; rw [show ((h.sets.take (k + 1)).map (·.high)).length = k + 1 by rw [List.length_map, List.length_take]; omega] at this; exact this)⟩
   case measure => simp [intOf]; omega
  ·obtain rfl : k = h.sets.length := by omega
   rw [List.take_length] at HR;clear hlt hk;have hhl : (highsL h).length = h.sets.length := by unfold highsL; rw [List.length_map]
   have hr0 : wr.ownsRow n₀ 3 1 u6 (highsL h).length (nflat (highsL h)) := by rw [hhl]; exact HR.out
   obtain ⟨ya, yc, hy, -, -, yn, -⟩ := num_of_row hr0;subst hy;obtain ⟨y, hy⟩ : ∃ y : LstR, y = ⟨ya, highsL h, yc⟩ := ⟨_, rfl⟩;have HYX : Hid (y.xs = trimL h s.cues 0) := lh (by rw [hy]; rfl);have HYN : Hid (y.a = none → y.c = 0) := lh (by rw [hy]; exact yn);have HY0 : Hid (wr.ownsRow n₀ 3 1 (.slice y.a y.xs.length y.c) y.xs.length (nflat y.xs)) := lh (by rw [hy]; exact hr0);rw [show (Value.slice ya (highsL h).length yc) = .slice y.a y.xs.length y.c by rw [hy]];have hlx : wr.heap.size < (wr.alloc (.cells #[.slice y.a y.xs.length y.c] 30)).heap.size := by simp
   have HO0 : Hid ((wr.alloc (.cells #[.slice y.a y.xs.length y.c] 30)).ownsRow n₀ 30 1 (.slice (some ⟨wr.heap.size, 0, none⟩) 1 1) 1 (lflat [y])) := lh (World.ownsRow_lit wr #[.slice y.a y.xs.length y.c] 1 hnw (by unfold maxLen; omega) rfl)
   have HL0 : Hid (OwnLs (wr.alloc (.cells #[.slice y.a y.xs.length y.c] 30)) n₀ [y]) := lh fun i hi => by
    obtain rfl : i = 0 := (by simp at hi; exact hi);exact HY0.out.alloc _
   have HT0 : Hid (TrimRows h s.cues [y] 0) := lh ⟨rfl, fun i hi => by
    obtain rfl : i = 0 := (by omega);exact HYX.out⟩
   have hB0 := hB.alloc hnw (.cells #[.slice y.a y.xs.length y.c] 30);obtain ⟨-, ⟨s0, s1⟩, -, -⟩ := HXX.out _ hB;rw [HCA.out] at s0;have hb2l : B2 < wr.heap.size := wl s0;clear hy yn hr0 HR hhl hB
   go_upto_region 11 with (fail)
   clear s0 s1 hb2l;generalize wr.alloc (.cells #[.slice y.a y.xs.length y.c] 30) = W5 at *;obtain ⟨wo, rfl⟩ : ∃ wo : World, wo = wr := ⟨_, rfl⟩;obtain ⟨bo, hbo⟩ := nm (wo.heap.size);rw [hbo] at HO0 hnw hlx ⊢;clear hbo HY0
   go_loopw [6, 9, 11, 34] (fun v6 v9 _ iv wr => ∃ (k : Nat) (y : LstR) (P : List LstR), v6 = .slice y.a y.xs.length y.c ∧ iv = .int .i64 k ∧ k ≤ s.cues.length ∧ Below n₀ W0 wr ∧ n₀ ≤ wr.heap.size ∧ Hid (wr.ownsRow n₀ 30 1 v9 (k + 1) (lflat P) ∧ OwnLs wr n₀ P ∧ TrimRows h s.cues P k ∧ lg P k = y ∧ (y.a = none → y.c = 0))) (fun _ _ _ iv _ => s.cues.length - (intOf iv).toNat)
   case atStart => exact ⟨0, y, [y], rfl, rfl, Nat.zero_le _, hB0, by omega, lh ⟨HO0.out, HL0.out, HT0.out, rfl, HYN.out⟩⟩
   case round =>
    clear HO0 HL0 HT0 hB0 hlx hnw HYX HYN;obtain ⟨k, y, P, rfl, rfl, hk, hB, hnw, HR⟩ := hrel
    by_cases hlt : k < s.cues.length
    ·obtain ⟨b, off, ha, hb, hc⟩ := (HXX.out _ hB).2.2.2.lies (by omega)
     rw [HCA.out] at ha;subst ha;obtain ⟨d0, d1, d2, d3, d4, d5, d6⟩ := hc k hlt;obtain ⟨⟨a0, a1, a2, a3⟩, -, -, -⟩ := HXX.out _ hB;rw [HSA.out] at a2;have hb1l : B1 < wr.heap.size := wl a0;have HMK := lh (HML.out k hlt);have HRG := lh (HOK.out.each k hlt).1.2;have HYT := lh (HR.out.2.2.1.eq k (Nat.le_refl _));rw [HR.out.2.2.2.1] at HYT;have HYL : Hid (y.xs.length = h.sets.length) := lh (by rw [HYT.out, trimL_len]);obtain ⟨q, hq⟩ := nm (cg s.cues k);have HQ := lh hq;rw [hq] at d0 d1 d2 d3 d4 d5 d6 HMK HRG;clear hq hc;have hB3 := hB.alloc hnw (CC q);have hbn := below_new wr (CC q);have hn3 : n₀ ≤ (wr.alloc (CC q)).heap.size := by simp; omega
     have HR3 : Hid ((wr.alloc (CC q)).ownsRow n₀ 30 1 u9 (k + 1) (lflat P) ∧ OwnLs (wr.alloc (CC q)) n₀ P ∧ TrimRows h s.cues P k ∧ lg P k = y ∧ (y.a = none → y.c = 0)) := lh ⟨ownsRow_below HR.out.1 hbn, HR.out.2.1.below hbn, HR.out.2.2⟩;have HMO : Hid (Calls Tryz.prog 65 _ (wr.alloc (CC q)) _) := lh (moved_any h q y.a y.xs y.c _ (HXX.out _ hB3).2.2.1.toHouseIn0 hsl (by have := (HXX.out _ hB3).2.2.2.each k hlt; rw [HQ.out] at this; exact this) HMK.out (by have := HR3.out.2.1.nums (i := k) (by rw [HR3.out.2.2.1.len]; omega); rw [HR3.out.2.2.2.1] at this; exact this) HYL.out HR3.out.2.2.2.2 (fun i hi => (HRG.out i hi).2.1));rw [HSA.out] at HMO;have HNX : Hid (movedL h y.xs q.moves = trimL h s.cues (k + 1)) := lh (by rw [HYT.out, ← HQ.out]; rfl);clear HR hbn hB
     go_upto_region 14 with (go_at_call 65; (with_reducible refine HMO.out.mono ?_); rintro e w4 ⟨hx4, hb4⟩; obtain ⟨v4, rfl, hr4⟩ := hx4.out; obtain ⟨a4, c4, rfl, -, -, n4, -⟩ := num_of_row hr4; have HR4 := lh hr4; have HN4 := lh n4; clear hx4 hr4 n4)
     have hB4 := hB3.trans (hb4.mono hn3);have hn4 := Nat.le_trans hn3 hb4.size;obtain ⟨z, hz⟩ : ∃ z : LstR, z = ⟨a4, movedL h y.xs q.moves, c4⟩ := ⟨_, rfl⟩;rw [show (Value.slice a4 (movedL h y.xs q.moves).length c4) = .slice z.a z.xs.length z.c by rw [hz]];have HZX : Hid (z.xs = trimL h s.cues (k + 1)) := lh (by rw [hz]; exact HNX.out);have HZN : Hid (z.a = none → z.c = 0) := lh (by rw [hz]; exact HN4.out);have HZO : Hid (w4.ownsRow n₀ 3 1 (lstV z) z.xs.length (nflat z.xs)) := lh (by rw [hz]; exact ownsRow_base HR4.out hn3);have HR5 : Hid (w4.ownsRow n₀ 30 1 u9 (k + 1) (lflat P) ∧ OwnLs w4 n₀ P) := lh ⟨ownsRow_below HR3.out.1 hb4, HR3.out.2.1.below hb4⟩;have HTR := lh HR3.out.2.2.1;clear hz HR4 HN4 HR3 hb4 d0 d1 d2 d3 d4 d5 d6 a0 a1 a2 a3;have hbx := below_new w4 (.cells #[.slice z.a z.xs.length z.c] 30);have HRX : Hid ((w4.alloc (.cells #[.slice z.a z.xs.length z.c] 30)).ownsRow n₀ 30 1 u9 P.length (lflat P)) := lh (by rw [HTR.out.len]; exact ownsRow_below HR5.out.1 hbx);have HLX : Hid (OwnLs (w4.alloc (.cells #[.slice z.a z.xs.length z.c] 30)) n₀ (P ++ [z])) := lh ((HR5.out.2.snoc HZO.out).below hbx);have hBx := hB4.alloc hn4 (.cells #[.slice z.a z.xs.length z.c] 30);have hnx : n₀ ≤ (w4.alloc (.cells #[.slice z.a z.xs.length z.c] 30)).heap.size := by simp; omega
     have hPl : P.length ≤ 1000000 := by have := HTR.out.len; omega
     clear hbx
     go_wp2_with (at_builtin; refine lst_append rfl _ _ rfl n₀ _ P rfl HRX.out _ z rfl (by simp) hPl hnx ?_; intro v6 w6 hown6 hg6; have hB6 := grown_own HRX.out hg6 hBx hnx (Nat.le_refl _); have HO6 := lh hown6; have HL6 := lh (HLX.out.kept HRX.out hg6); have hs6 := Nat.le_trans hnx hg6.size; clear hown6 hg6)
     go_roundw
     case rel => exact ⟨k + 1, z, P ++ [z], rfl, by go_num, by omega, hB6, hs6, lh ⟨by have := HO6.out; rw [List.length_append, HTR.out.len] at this; exact this, HL6.out, HTR.out.snoc HZX.out, by rw [← HTR.out.len, lg_new], HZN.out⟩⟩
     case measure => simp [intOf]; omega
    ·obtain rfl : k = s.cues.length := by omega
     go_wp2_with fail
     go_ret2
     obtain ⟨a, c, e1, ht⟩ := trims_in (P := P) (by rw [HR.out.2.2.1.len]; exact HR.out.1) HR.out.2.1 HR.out.2.2.1;rw [HR.out.2.2.1.len] at e1;exact ⟨lh ⟨a, c, P, by rw [← e1]; rfl, ht⟩, HWW.out _ hB⟩
theorem row_some {w : World} {n₀ n : Nat} {t : TypeId} {m : Nat} {v : Value} {X : List Value} (h : w.ownsRow n₀ t m v (n + 1) X) : ∃ g cap, v = .slice (some ⟨g, 0, none⟩) (n + 1) cap ∧ n₀ ≤ g := by
 rcases h.2 with ⟨_, e0⟩ | ⟨g, cap, cur, e, hb, _⟩
 ·omega
 ·exact ⟨g, cap, e, hb⟩
theorem cell_one (W : World) (v : Value) (t : TypeId) : ∀ j u, [v][j]? = some u → (W.alloc (.cells #[v] t)).cell? ((⟨W.heap.size, 0, none⟩ : Addr).add j) = some u := by
 intro j u hj
 match j with
 | 0 => cases hj; rw [Go.WideShapes.add_plain]; simp
 | j + 1 => simp at hj
theorem rtrims_any (h : HouseR) (s : SheetR) (w : World) (hh : HouseIn w h) (hs : SheetIn w s) (hv : sheetB h s = true) :
  Calls Tryz.prog 55 #[.agg #[.string h.name, .int .i64 h.height, .slice h.sa h.sets.length h.sc, .slice h.ra h.roofs.length h.rc], .agg #[.slice s.ca s.cues.length s.cc, .slice s.pa s.pairs.length s.pc]] w fun e w' => Hid (∃ a c P, e = .returned (.slice a (s.cues.length + 1) c) ∧ TrimsIn w' a h s.cues P) ∧ Below w.heap.size w w' := by
 obtain ⟨hb0, HX, HW⟩ := o2 hh hs;have hsl := hh.slen;have hcl := hs.clen;have HML := lh hs.mlen;have HOK := lh (sheetB_iff.1 hv);clear hh hs hb0 hv;obtain ⟨i0, hi0, hi1, hi2, hi3⟩ := info_parts lst_info;have HI := lh (And.intro hi0 (And.intro hi1 (And.intro hi2 hi3)));clear hi0 hi1 hi2 hi3
 go_enter Tryz.func55, Tryz.ntmps55
 go_upto_region 1 with (fail)
 obtain ⟨W0, hW0⟩ := nm ((TW w h s) : World);simp only [hW0] at HX HW ⊢;clear hW0;obtain ⟨B1, hB1⟩ := nm (w.heap.size);obtain ⟨B2, hB2⟩ := nm (w.heap.size + 1);rw [hB2] at HX ⊢;rw [hB1] at HX ⊢;clear hB1 hB2;obtain ⟨n₀, hn0⟩ := nm (W0.heap.size);have HXX : Hid (∀ w', Below n₀ W0 w' → HouseAt w' B1 h ∧ SheetAt w' B2 s ∧ HouseIn w' h ∧ SheetIn w' s) := lh fun w' z => by rw [← hn0] at z; exact HX.out w' z
 have HWW : Hid (∀ w', Below n₀ W0 w' → Below w.heap.size w w') := lh fun w' z => by rw [← hn0] at z; exact HW.out w' z
 obtain ⟨sa, hsa⟩ := nm (h.sa);have HSA := lh hsa;obtain ⟨ca, hca⟩ := nm (s.ca);have HCA := lh hca;obtain ⟨⟨a0, a1, a2, a3⟩, -, hin, -⟩ := HX.out _ br;have HHI := lh (rhigh_any h W0 hin.toHouseIn0 hsl);rw [hsa] at a2 HHI;rw [hsa, hca];have hhl : (highsL h).length = h.sets.length := by unfold highsL; rw [List.length_map]
 have HHL := lh hhl;clear hsa hca hin hhl HX HW
 go_upto_region 2 with (go_at_call 89; (with_reducible refine HHI.out.mono ?_); rintro e w1 ⟨hx1, hb1⟩; obtain ⟨v1, rfl, hr1⟩ := hx1.out; obtain ⟨ya, yc, rfl, -, -, yn, -⟩ := num_of_row hr1; have HR1 := lh hr1; have HYN0 := lh yn; clear hx1 hr1 yn)
 obtain ⟨y, hy⟩ : ∃ y : LstR, y = ⟨ya, highsL h, yc⟩ := ⟨_, rfl⟩;have HYX : Hid (y.xs = trimL h s.cues 0) := lh (by rw [hy]; rfl);have HYN : Hid (y.a = none → y.c = 0) := lh (by rw [hy]; exact HYN0.out);have HY0 : Hid (w1.ownsRow n₀ 3 1 (.slice y.a y.xs.length y.c) y.xs.length (nflat y.xs)) := lh (by rw [hy, ← hn0]; exact HR1.out);rw [show (Value.slice ya (highsL h).length yc) = .slice y.a y.xs.length y.c by rw [hy]];rw [hn0] at hb1;have hn1 : n₀ ≤ w1.heap.size := by have := hb1.size; omega
 have HO0 : Hid ((w1.alloc (.cells #[.slice y.a y.xs.length y.c] 30)).ownsRow n₀ 30 1 (.slice (some ⟨w1.heap.size, 0, none⟩) 1 1) 1 (lflat [y])) := lh (World.ownsRow_lit w1 #[.slice y.a y.xs.length y.c] 1 hn1 (by unfold maxLen; omega) rfl)
 have HL0 : Hid (OwnLs (w1.alloc (.cells #[.slice y.a y.xs.length y.c] 30)) n₀ [y]) := lh fun i hi => by
  obtain rfl : i = 0 := (by simp at hi; exact hi);exact HY0.out.alloc _
 have HT0 : Hid (TrimRows h s.cues [y] 0) := lh ⟨rfl, fun i hi => by
  obtain rfl : i = 0 := (by omega);exact HYX.out⟩
 have hB0 := hb1.alloc hn1 (.cells #[.slice y.a y.xs.length y.c] 30);have hs0 : n₀ ≤ (w1.alloc (.cells #[.slice y.a y.xs.length y.c] 30)).heap.size := by simp; omega
 clear a0 a1 a2 a3 hy HY0 HR1 HYN0 HYX hb1 HHI hn0;generalize w1.alloc (.cells #[.slice y.a y.xs.length y.c] 30) = W2 at *;obtain ⟨b1, hb1⟩ := nm (w1.heap.size);rw [hb1] at HO0 hn1 ⊢;clear hb1
 go_upto_region 3 with (fail)
 go_loopw [5, 6] (fun v5 iv wr => ∃ (k : Nat) (y : LstR) (P : List LstR), iv = .int .i64 k ∧ k ≤ s.cues.length ∧ Below n₀ W0 wr ∧ n₀ ≤ wr.heap.size ∧ Hid (wr.ownsRow n₀ 30 1 v5 (k + 1) (lflat P) ∧ OwnLs wr n₀ P ∧ TrimRows h s.cues P k ∧ lg P k = y ∧ (y.a = none → y.c = 0))) (fun _ iv _ => s.cues.length - (intOf iv).toNat)
 case atStart => exact ⟨0, y, [y], rfl, Nat.zero_le _, hB0, hs0, lh ⟨HO0.out, HL0.out, HT0.out, rfl, HYN.out⟩⟩
 case round =>
  clear HO0 HL0 HT0 hB0 hs0 HYN;obtain ⟨k, y, P, rfl, hk, hB, hnw, HR⟩ := hrel;obtain ⟨-, ⟨s0, s1⟩, -, -⟩ := HXX.out _ hB;rw [HCA.out] at s0
  by_cases hlt : k < s.cues.length
  ·obtain ⟨cb, co, ha, hcb, -⟩ := (HXX.out _ hB).2.2.2.lies (by omega)
   rw [HCA.out] at ha;subst ha;have HMK := lh (HML.out k hlt);have HRG := lh (HOK.out.each k hlt).1.2;have HYT := lh (HR.out.2.2.1.eq k (Nat.le_refl _));rw [HR.out.2.2.2.1] at HYT;have HYL : Hid (y.xs.length = h.sets.length) := lh (by rw [HYT.out, trimL_len])
   have HCC : Hid (∀ w', Below n₀ W0 w' → ∀ i, i < s.cues.length → w'.cell? ⟨cb, co + i * 7, none⟩ = some (.string (cg s.cues i).name) ∧ w'.cell? ⟨cb, co + i * 7 + 1, none⟩ = some (.string (cg s.cues i).after) ∧ w'.cell? ⟨cb, co + i * 7 + 2, none⟩ = some (.int .i64 (cg s.cues i).link) ∧ w'.cell? ⟨cb, co + i * 7 + 3, none⟩ = some (.int .i64 (cg s.cues i).delay) ∧ w'.cell? ⟨cb, co + i * 7 + 4, none⟩ = some (.slice (cg s.cues i).ma (cg s.cues i).moves.length (cg s.cues i).mc) ∧ w'.cell? ⟨cb, co + i * 7 + 5, none⟩ = some (.int .i64 (cg s.cues i).crew) ∧ w'.cell? ⟨cb, co + i * 7 + 6, none⟩ = some (.int .i64 (cg s.cues i).power)) := lh fun w' z i hi => by
    obtain ⟨cb', co', e, -, ex⟩ := (HXX.out w' z).2.2.2.lies (by omega);rw [HCA.out] at e
    cases e
    exact ex i hi
   obtain ⟨q, hq⟩ := nm (cg s.cues k);have HQ := lh hq;rw [hq] at HMK HRG;have HMVS : Hid (∀ w', Below n₀ W0 w' → Movs w'.heap.size w' q.ma q.moves) := lh fun w' z => by have := (HXX.out w' z).2.2.2.each k hlt; rw [HQ.out] at this; exact this
   have HNX : Hid (movedL h y.xs q.moves = trimL h s.cues (k + 1)) := lh (by rw [HYT.out, ← HQ.out]; rfl);obtain ⟨g, cap, hv5, hgn⟩ := row_some HR.out.1;subst hv5;have HTR := lh HR.out.2.2.1;have hkP : k < P.length := by rw [HTR.out.len]; omega
   have HCELL : Hid (wr.drew.cell? ⟨g, k, none⟩ = some (.slice y.a y.xs.length y.c)) := lh (by
    have := HR.out.1.cellAt k (by omega);rw [lflat_at P k hkP, HR.out.2.2.2.1] at this;exact this)
   have HROW := lh (show wr.drew.ownsRow n₀ 30 1 (.slice (some ⟨g, 0, none⟩) (k + 1) cap) (k + 1) (lflat P) from HR.out.1);have HLS := lh (show OwnLs wr.drew n₀ P from fun i hi => HR.out.2.1 i hi);have HYG := lh HR.out.2.2.2.1;have HYZ := lh HR.out.2.2.2.2
   go_upto_region 5 with (fail)
   clear s0 s1 hq HR;have x0 : ∀ w', HeldT n₀ W0 w' → w'.cell? ⟨B1, 0, none⟩ = some (.string h.name) := fun w' z => (HXX.out w' z.old).1.1;have x1 : ∀ w', HeldT n₀ W0 w' → w'.cell? ⟨B1, 1, none⟩ = some (.int .i64 h.height) := fun w' z => (HXX.out w' z.old).1.2.1;have x2 : ∀ w', HeldT n₀ W0 w' → w'.cell? ⟨B1, 2, none⟩ = some (.slice sa h.sets.length h.sc) := fun w' z => by rw [← HSA.out]; exact (HXX.out w' z.old).1.2.2.1
   have x3 : ∀ w', HeldT n₀ W0 w' → w'.cell? ⟨B1, 3, none⟩ = some (.slice h.ra h.roofs.length h.rc) := fun w' z => (HXX.out w' z.old).1.2.2.2;have xs : ∀ w', HeldT n₀ W0 w' → w'.cell? ⟨B2, 0, none⟩ = some (.slice (some ⟨cb, co, none⟩) s.cues.length s.cc) := fun w' z => by rw [← HCA.out]; exact (HXX.out w' z.old).2.1.1
   have hcq : ∀ w', HeldT n₀ W0 w' → w'.cell? ⟨cb, co + k * 7, none⟩ = some (.string q.name) ∧ w'.cell? ⟨cb, co + k * 7 + 1, none⟩ = some (.string q.after) ∧ w'.cell? ⟨cb, co + k * 7 + 2, none⟩ = some (.int .i64 q.link) ∧ w'.cell? ⟨cb, co + k * 7 + 3, none⟩ = some (.int .i64 q.delay) ∧ w'.cell? ⟨cb, co + k * 7 + 4, none⟩ = some (.slice q.ma q.moves.length q.mc) ∧ w'.cell? ⟨cb, co + k * 7 + 5, none⟩ = some (.int .i64 q.crew) ∧ w'.cell? ⟨cb, co + k * 7 + 6, none⟩ = some (.int .i64 q.power) := fun w' z => by have := HCC.out w' z.old k hlt; rw [HQ.out] at this; exact this
   have y0 := fun w' z => (hcq w' z).1;have y1 := fun w' z => (hcq w' z).2.1;have y2 := fun w' z => (hcq w' z).2.2.1;have y3 := fun w' z => (hcq w' z).2.2.2.1;have y4 := fun w' z => (hcq w' z).2.2.2.2.1;have y5 := fun w' z => (hcq w' z).2.2.2.2.2.1;have y6 := fun w' z => (hcq w' z).2.2.2.2.2.2;clear hcq;have hH0 : HeldT n₀ W0 wr := ⟨hB, hnw⟩;have j0 : (0 : Int) ≤ (k : Int) := by omega
   have j1 : (k : Int) < (k : Int) + 1 := by omega
   have j2 : (k : Int) < (s.cues.length : Int) := by omega
   refine wp_region_held_drew (S := (HeldT n₀ W0)) (by kernel_rfl) (hH0.next (br).drew) (fun hHeld => ?_);obtain ⟨W5, hW5⟩ := nm (wr.drew);simp only [hW5] at hHeld HCELL HROW HLS ⊢;clear hW5;refine tk 0 ?_; refine tk 1 ?_; refine tk 2 ?_; refine tk 3 ?_; refine tk 4 ?_; refine tk 6 ?_; refine tk 7 ?_; refine tk 8 ?_; refine tk 9 ?_; refine tk 10 ?_;clear x0 x1 x2 x3 xs y0 y1 y2 y3 y4 y5 y6;refine r1 5 (fun K hK => ?_)
   try simp only [q4, q5, q6]
   have hcell := HCELL.out
   go_wp2_with fail
   refine hK.out _ _ hHeld (fun hHeld => ?_);clear hK K hcell
   try simp only [Act.put, qq]
   have hlo5 : n₀ ≤ W5.heap.size := hHeld.lo;have HAF : Hid (Calls Tryz.prog 90 _ W5 _) := lh (rafter_any h q y.a y.xs y.c W5 (HXX.out _ hHeld.old).2.2.1.toHouseIn0 hsl (HMVS.out _ hHeld.old) HMK.out (by have := HLS.out.nums hkP; rw [HYG.out] at this; exact this) HYL.out HYZ.out (fun i hi => (HRG.out i hi).2.1));rw [HSA.out] at HAF;refine r1 11 (fun K hK => ?_)
   try simp only [q4, q5, q6]
   go_simp
   (go_at_call 90; (with_reducible refine HAF.out.mono ?_); rintro e w6 ⟨hx6, hb6⟩; obtain ⟨v6, rfl, hr6⟩ := hx6.out; obtain ⟨a6, c6, rfl, -, -, n6, -⟩ := num_of_row hr6; have HR6 := lh hr6; have HN6 := lh n6; clear hx6 hr6 n6)
   go_wp2_with fail
   have hH6 := hHeld.next hb6;refine hK.out _ _ hH6 (fun hHeld => ?_);clear hK K
   try simp only [Act.put, qq]
   obtain ⟨z, hz⟩ : ∃ z : LstR, z = ⟨a6, movedL h y.xs q.moves, c6⟩ := ⟨_, rfl⟩;rw [show (Value.slice a6 (movedL h y.xs q.moves).length c6) = .slice z.a z.xs.length z.c by rw [hz]];have HZX : Hid (z.xs = trimL h s.cues (k + 1)) := lh (by rw [hz]; exact HNX.out);have HZN : Hid (z.a = none → z.c = 0) := lh (by rw [hz]; exact HN6.out);have HZO : Hid (w6.ownsRow n₀ 3 1 (lstV z) z.xs.length (nflat z.xs)) := lh (by rw [hz]; exact ownsRow_base HR6.out hlo5);have HROW6 := lh (ownsRow_below HROW.out hb6);have HLS6 := lh (HLS.out.below hb6);clear hz HR6 HN6 hb6 HAF HROW HLS HCELL;refine r1 12 (fun K hK => ?_);rw [if_pos (by rfl)]
   go_wp2_with fail
   have hbx := below_new w6 (.cells #[.slice z.a z.xs.length z.c] 30);have HRX : Hid ((w6.alloc (.cells #[.slice z.a z.xs.length z.c] 30)).ownsRow n₀ 30 1 (.slice (some ⟨g, 0, none⟩) (k + 1) cap) (k + 1) (lflat P)) := lh (ownsRow_below HROW6.out hbx);have HLX : Hid (OwnLs (w6.alloc (.cells #[.slice z.a z.xs.length z.c] 30)) n₀ (P ++ [z])) := lh ((HLS6.out.snoc HZO.out).below hbx);have hHN := hHeld.next hbx;refine hK.out _ _ hHN (fun hHeld => ?_);clear hK K hbx
   try simp only [Act.put, qq]
   refine r1 13 (fun K hK => ?_);refine step_append_lies _ rfl (.tmp 17) (.tmp 29) 71 rfl n₀ 30 i0 _ 1 24 Tryz.underlying71 HI.out.1 HI.out.2.1 HI.out.2.2.1 HI.out.2.2.2 rfl (by decide) (.slice (some ⟨g, 0, none⟩) (k + 1) cap) (k + 1) (lflat P) ?_ HRX.out ⟨w6.heap.size, 0, none⟩ 1 1 [.slice z.a z.xs.length z.c] ?_ rfl (cell_one w6 _ _) ?_ (by omega) ?_ ?_ ?_ _ rfl ?_
   ·simp [Act.eval]
   ·simp [Act.eval]
   ·simp [Value.oneCell']
   ·unfold maxLen; omega
   ·have := hHN.lo; omega
   ·have := hHN.lo; omega
   intro g7 cap7 w7 hown7 hgr7 hat7 hg7;clear hat7;have hS7 : HeldT n₀ W0 w7 := ⟨hHN.old.grown hgr7 (by have := hHN.lo; omega) (fun j hj => (HRX.out.lt _ hj).1), Nat.le_trans hHN.lo hgr7.size⟩;have HO7 := lh hown7;have HL7 := lh (HLX.out.kept HRX.out hgr7);clear hown7 hgr7 hg7;refine hK.out _ _ hS7 (fun hHeld => ?_);clear hK K
   try simp only [Act.put, qq]
   refine tk 14 ?_;refine wpAnyH_done (by kernel_rfl) ?_ _
   go_wp2_with fail
   go_roundw
   case rel => exact ⟨k + 1, z, P ++ [z], by go_num, by omega, hS7.old, hS7.lo, lh ⟨by have := HO7.out; rw [lflat_snoc]; exact this, HL7.out, HTR.out.snoc HZX.out, by rw [← HTR.out.len, lg_new], HZN.out⟩⟩
   case measure => simp [intOf]; omega
  ·obtain rfl : k = s.cues.length := by omega
   go_wp2_with fail
   go_ret;obtain ⟨a, c, e1, ht⟩ := trims_in (P := P) (by rw [HR.out.2.2.1.len]; exact HR.out.1) HR.out.2.1 HR.out.2.2.1;rw [HR.out.2.2.1.len] at e1;exact ⟨lh ⟨a, c, P, by rw [← e1]; rfl, ht⟩, HWW.out _ hB⟩
theorem rdist_any (h : HouseR) (x : Mv) (ta : Option Addr) (t : List Int) (tc : Nat) (w : World) (hh : HouseIn0 w h) (hl : h.sets.length ≤ 1000) (ht : Nums w.heap.size w ta t) (htl : t.length = h.sets.length) (hf0 : 0 ≤ findS h.sets x.name)
  (hw : 0 ≤ x.to ∧ x.to ≤ 1048576 ∧ 0 ≤ ig t (findS h.sets x.name).toNat ∧ ig t (findS h.sets x.name).toNat ≤ 1048576) :
  Calls Tryz.prog 92 #[.agg #[.string h.name, .int .i64 h.height, .slice h.sa h.sets.length h.sc, .slice h.ra h.roofs.length h.rc], .slice ta t.length tc, .agg #[.string x.name, .int .i64 x.to, .int .i64 x.spd, .int .i64 x.rise, .int .i64 x.fall]] w fun e w' => e = .returned (.int .i64 (moveD h t x)) ∧ Below w.heap.size w w' := by
 have hb0 : Below w.heap.size w ((w.alloc (HC h)).alloc (.cells #[.string x.name, .int .i64 x.to, .int .i64 x.spd, .int .i64 x.rise, .int .i64 x.fall] 93)) := (below_new w _).alloc (by simp) _;have HX : Hid (∀ w', Below ((w.alloc (HC h)).alloc (.cells #[.string x.name, .int .i64 x.to, .int .i64 x.spd, .int .i64 x.rise, .int .i64 x.fall] 93)).heap.size ((w.alloc (HC h)).alloc (.cells #[.string x.name, .int .i64 x.to, .int .i64 x.spd, .int .i64 x.rise, .int .i64 x.fall] 93)) w' → HouseAt w' w.heap.size h ∧ HouseIn0 w' h ∧ Nums w'.heap.size w' ta t) := lh fun w' z => ⟨((HouseAt.new w h _).carry (below_new _ _)).carry z, (hh.grow hb0).grow z, (ht.grow hb0).grow z⟩;have HW : Hid (∀ w', Below ((w.alloc (HC h)).alloc (.cells #[.string x.name, .int .i64 x.to, .int .i64 x.spd, .int .i64 x.rise, .int .i64 x.fall] 93)).heap.size ((w.alloc (HC h)).alloc (.cells #[.string x.name, .int .i64 x.to, .int .i64 x.spd, .int .i64 x.rise, .int .i64 x.fall] 93)) w' → Below w.heap.size w w') := lh fun w' z => hb0.trans (z.mono hb0.size)
 have HM : Hid (MvAt ((w.alloc (HC h)).alloc (.cells #[.string x.name, .int .i64 x.to, .int .i64 x.spd, .int .i64 x.rise, .int .i64 x.fall] 93)) (w.heap.size + 1) x) := lh (by
  have e := MvAt.new (w.alloc (HC h)) x 93;rw [show (w.alloc (HC h)).heap.size = w.heap.size + 1 by simp] at e;exact e)
 have hf1 := (find_name hf0).1;have hft : (findS h.sets x.name).toNat < t.length := by omega
 have HSETC := lh fun (w' : World) (z : HouseIn0 w' h) => rfind_any h x.name w' z hl;clear hh ht hb0
 go_enter Tryz.func92, Tryz.ntmps92
 go_upto_region 1 with (fail)
 obtain ⟨W0, hW0⟩ := nm (((w.alloc (HC h)).alloc (.cells #[.string x.name, .int .i64 x.to, .int .i64 x.spd, .int .i64 x.rise, .int .i64 x.fall] 93)) : World);simp only [hW0] at HX HW HM ⊢;clear hW0;obtain ⟨B1, hB1⟩ := nm (w.heap.size);obtain ⟨B4, hB4⟩ := nm (w.heap.size + 1);rw [hB4] at HM ⊢;rw [hB1] at HX ⊢;clear hB1 hB4;obtain ⟨f, hf⟩ := nm (findS h.sets x.name);have HFN := lh hf;rw [hf] at hf0 hf1 hft hw;obtain ⟨v, hv⟩ := nm (ig t f.toNat);have HDV : Hid (moveD h t x = if x.to - v < 0 then 0 - (x.to - v) else x.to - v) := lh (by unfold moveD; rw [hf, hv]);rw [hv] at hw;obtain ⟨D, hD⟩ := nm (x.to - v);rw [hD] at HDV;have hsub : IntKind.i64.wrap (x.to - v) = D := by rw [← hD]; simp only [IntKind.wrap_i64]; omega
 have hsub2 : IntKind.i64.wrap (0 - D) = 0 - D := by simp only [IntKind.wrap_i64]; omega
 have hsub3 : IntKind.i64.wrap (-D) = -D := by simp only [IntKind.wrap_i64]; omega
 have hf2 : f < (t.length : Int) := by omega
 have HVV := lh hv;clear hf hD hw hv htl;obtain ⟨-, -, hnm⟩ := HX.out _ br;obtain ⟨tb, tf, hta, htb, -⟩ := hnm (by omega);subst hta;clear hnm;obtain ⟨n₀, hn0⟩ := nm (W0.heap.size);have HXX : Hid (∀ w', Below n₀ W0 w' → HouseAt w' B1 h ∧ HouseIn0 w' h ∧ Nums w'.heap.size w' (some ⟨tb, tf, none⟩) t) := lh fun w' z => by rw [← hn0] at z; exact HX.out w' z
 have HWW : Hid (∀ w', Below n₀ W0 w' → Below w.heap.size w w') := lh fun w' z => by rw [← hn0] at z; exact HW.out w' z
 have HBB : Hid (Below n₀ W0 W0) := lh (by rw [← hn0]; exact br);have hn6 : n₀ ≤ W0.drew.heap.size := by show n₀ ≤ W0.heap.size; omega
 have HAX := HM;clear HX HW hn0 htb;have x0 : ∀ w', HeldM n₀ W0 B4 x w' → w'.cell? ⟨B1, 0, none⟩ = some (.string h.name) := fun w' z => (HXX.out w' z.old).1.1;have x1 : ∀ w', HeldM n₀ W0 B4 x w' → w'.cell? ⟨B1, 1, none⟩ = some (.int .i64 h.height) := fun w' z => (HXX.out w' z.old).1.2.1;have x2 : ∀ w', HeldM n₀ W0 B4 x w' → w'.cell? ⟨B1, 2, none⟩ = some (.slice h.sa h.sets.length h.sc) := fun w' z => (HXX.out w' z.old).1.2.2.1;have x3 : ∀ w', HeldM n₀ W0 B4 x w' → w'.cell? ⟨B1, 3, none⟩ = some (.slice h.ra h.roofs.length h.rc) := fun w' z => (HXX.out w' z.old).1.2.2.2;have y0 : ∀ w', HeldM n₀ W0 B4 x w' → w'.cell? ⟨B4, 0, none⟩ = some (.string x.name) := fun w' z => z.mv.1;have y1 : ∀ w', HeldM n₀ W0 B4 x w' → w'.cell? ⟨B4, 1, none⟩ = some (.int .i64 x.to) := fun w' z => z.mv.2.1
 have z0 : ∀ w', HeldM n₀ W0 B4 x w' → w'.cell? ⟨tb, tf + f.toNat, none⟩ = some (.int .i64 v) := fun w' z => by
  obtain ⟨tb', tf', e, _, ex⟩ := (HXX.out w' z.old).2.2 (by omega)
  cases e
  rw [← HVV.out];exact ex _ hft
 refine wp_region_held_drew (S := (HeldM n₀ W0 B4 x)) (by kernel_rfl) (⟨HBB.out.drew, HAX.out.carry (br).drew⟩) (fun hHeld => ?_);refine tk 0 ?_; refine tk 1 ?_; refine tk 2 ?_; refine tk 3 ?_; refine tk 4 ?_; refine tk 5 ?_;refine r1 6 (fun K hK => ?_)
 try simp only [q4, q5, q6]
 go_simp
 (go_at_call 87; go_split_ands; (with_reducible refine (HSETC.out _ (HXX.out _ hHeld.old).2.1).mono ?_); rintro e w6 ⟨rfl, hb6⟩; rw [HFN.out]; have how : n₀ ≤ w6.heap.size := Nat.le_trans hn6 hb6.size; have hHeld6 := hHeld.old.trans (hb6.mono hn6); have hMv6 := hHeld.mv.carry hb6)
 go_wp2_with fail
 refine hK.out _ _ (⟨hHeld6, hMv6⟩) (fun hHeld => ?_);clear hK K
 try simp only [Act.put, qq]
 refine tk 7 ?_; refine tk 8 ?_; refine tk 9 ?_; refine tk 10 ?_;refine wpAnyH_done (by kernel_rfl) ?_ _;clear x0 x1 x2 x3 y0 y1 z0 hHeld hsub
 by_cases c : D < 0
 ·have g := decide_eq_true c
  have HC := lh c;clear c
  go_wp2_with fail
  go_ret;exact ⟨ret_int (by rw [HDV.out, if_pos HC.out]; try omega), HWW.out _ hHeld6⟩
 ·have g := decide_eq_false c
  have HC := lh c;clear c
  go_wp2_with fail
  go_ret;exact ⟨ret_int (by rw [HDV.out, if_neg (by have := HC.out; omega)]), HWW.out _ hHeld6⟩
theorem rlen_any (h : HouseR) (q : CueR) (ta : Option Addr) (t : List Int) (tc : Nat) (w : World) (hh : HouseIn w h) (hm : Movs w.heap.size w q.ma q.moves) (hml : q.moves.length ≤ 1000) (_ : q.moves.length ≤ q.mc) (ht : Nums w.heap.size w ta t) (hb : houseB h = true) (hr : rightB h q = true) (hto : TrimOK h t) :
  Calls Tryz.prog 56 #[.agg #[.string h.name, .int .i64 h.height, .slice h.sa h.sets.length h.sc, .slice h.ra h.roofs.length h.rc], .slice ta t.length tc, .agg #[.string q.name, .string q.after, .int .i64 q.link, .int .i64 q.delay, .slice q.ma q.moves.length q.mc, .int .i64 q.crew, .int .i64 q.power]] w fun e w' => e = .returned (.agg #[.int .i64 (lenTo h t q.moves).1, .int .i64 (lenTo h t q.moves).2]) ∧ Below w.heap.size w w' := by
 have hb0 : Below w.heap.size w (((w.alloc (HC h)).alloc (CC q)).alloc (.cells #[.int .i64 0, .int .i64 0] 110)) := ((below_new w _).alloc (by simp) _).alloc (by simp; omega) _
 have HX : Hid (∀ w', Below (((w.alloc (HC h)).alloc (CC q)).alloc (.cells #[.int .i64 0, .int .i64 0] 110)).heap.size (((w.alloc (HC h)).alloc (CC q)).alloc (.cells #[.int .i64 0, .int .i64 0] 110)) w' → HouseAt w' w.heap.size h ∧ CueAt w' (w.heap.size + 1) q ∧ HouseIn w' h ∧ Movs w'.heap.size w' q.ma q.moves ∧ Nums w'.heap.size w' ta t) := lh fun w' z =>
  ⟨(((HouseAt.new w h _).carry (below_new _ _)).carry (below_new _ _)).carry z, ((CueAt.new (w.alloc _) q _ _ (by simp)).carry (below_new _ _)).carry z, (hh.grow hb0).grow z, (hm.grow hb0).grow z, (ht.grow hb0).grow z⟩
 have HW : Hid (∀ w', Below (((w.alloc (HC h)).alloc (CC q)).alloc (.cells #[.int .i64 0, .int .i64 0] 110)).heap.size (((w.alloc (HC h)).alloc (CC q)).alloc (.cells #[.int .i64 0, .int .i64 0] 110)) w' → Below w.heap.size w w') := lh fun w' z => hb0.trans (z.mono hb0.size);have hsl := hh.slen;have HSL := lh hsl;have HB := lh hb;have HOK := lh (rightB_iff.1 hr).2;have HTO := lh hto;clear hh hm ht hb0 hb hr hto hsl
 go_enter Tryz.func56, Tryz.ntmps56
 go_upto_region 1 with (fail)
 have hN6 : NewI6 (((w.alloc (HC h)).alloc (CC q)).alloc (.cells #[.int .i64 0, .int .i64 0] 110)) (w.heap.size + 1 + 1) := by
  have e := NewI6.new ((w.alloc (HC h)).alloc (CC q)) 110;rw [show ((w.alloc (HC h)).alloc (CC q)).heap.size = w.heap.size + 1 + 1 by simp] at e;exact e
 obtain ⟨W0, hW0⟩ := nm ((((w.alloc (HC h)).alloc (CC q)).alloc (.cells #[.int .i64 0, .int .i64 0] 110)) : World);simp only [hW0] at HX HW hN6 ⊢;clear hW0;obtain ⟨B1, hB1⟩ := nm (w.heap.size);obtain ⟨B2, hB2⟩ := nm (w.heap.size + 1);obtain ⟨B3, hB3⟩ := nm (w.heap.size + 1 + 1);rw [hB3] at hN6 ⊢;rw [hB2] at HX ⊢;rw [hB1] at HX ⊢;have HB3 : Hid (w.heap.size ≤ B3) := lh (by omega);clear hB1 hB2 hB3;obtain ⟨n₀, hn0⟩ := nm (W0.heap.size);have HN6 := lh hN6;obtain ⟨qa, hqa⟩ := nm (q.ma);have HQA := lh hqa;rw [hqa] at HX ⊢;clear hqa hN6
 go_upto_region 2 with (go_at_call 58; (with_reducible refine (rof_any 0 _).mono ?_); rintro e w1 ⟨rfl, hb1⟩; rw [hn0] at hb1)
 have HXX : Hid (∀ w', Below n₀ W0 w' → HouseAt w' B1 h ∧ CueAt w' B2 q ∧ HouseIn w' h ∧ Movs w'.heap.size w' qa q.moves ∧ Nums w'.heap.size w' ta t) := lh fun w' z => by rw [← hn0] at z; exact HX.out w' z
 have HWW : Hid (∀ w', Below n₀ W0 w' → Below w.heap.size w w') := lh fun w' z => by rw [← hn0] at z; exact HW.out w' z
 have HNN : Hid (∀ w', Below n₀ W0 w' → NewI6 w' B3) := lh fun w' z => by rw [← hn0] at z; exact HN6.out.carry z
 have hn1 : n₀ ≤ w1.heap.size := by have := hb1.size; omega
 clear HX HW HN6 hn0;have hb2 := hb1.alloc hn1 (.cells #[.int .i64 0, .int .i64 1] 110);have hF2 := FI.put w1 0 1 110;have hn2 : n₀ ≤ (w1.alloc (.cells #[.int .i64 0, .int .i64 1] 110)).heap.size := by simp; omega
 generalize w1.alloc (.cells #[.int .i64 0, .int .i64 1] 110) = W2 at *;obtain ⟨B7, hB7⟩ := nm (w1.heap.size);rw [hB7] at hF2 hn1 ⊢;clear hb1 hB7
 go_upto_region 3 with (fail)
 go_loopw [8, 9] (fun iv _ wr => ∃ (k : Nat) (b : Int × Int), iv = .int .i64 k ∧ k ≤ q.moves.length ∧ Below n₀ W0 wr ∧ n₀ ≤ wr.heap.size ∧ Hid (b = lenTo h t (q.moves.take k)) ∧ Hid (FI wr B7 b.1 b.2)) (fun iv _ _ => q.moves.length - (intOf iv).toNat)
 case atStart => exact ⟨0, (0, 1), rfl, Nat.zero_le _, hb2, hn2, lh (by rw [List.take_zero]; rfl), lh hF2⟩
 case round =>
  clear hb2 hF2 hn2;obtain ⟨k, b, rfl, hk, hB, hnw, HBK, HF⟩ := hrel;obtain ⟨-, ⟨c0, c1, c2, c3, c4, c5, c6⟩, hhi, hmv, hnm⟩ := HXX.out _ hB;rw [HQA.out] at c4
  by_cases hlt : k < q.moves.length
  ·obtain ⟨mb, mo, hma, hmb, -⟩ := hmv (by omega)
   subst hma;have HSN := lh (lenTo_snoc h t q.moves hlt);have HTK : Hid (TmOK b) := lh (by rw [HBK.out]; exact len_ok HB.out HTO.out HOK.out k (by omega));have HMG := lh (move_given HB.out HTO.out (HOK.out k hlt));have HMW := lh (move_within HB.out HTO.out (HOK.out k hlt));have HF0 := lh (HOK.out k hlt).2.1;obtain ⟨x, hx⟩ := nm (mg q.moves k);have HMK := lh hx;rw [hx] at HSN HMG HMW HF0;rw [← HBK.out] at HSN;have HDIST : Hid (∀ w', HeldT n₀ W0 w' → Calls Tryz.prog 92 #[.agg #[.string h.name, .int .i64 h.height, .slice h.sa h.sets.length h.sc, .slice h.ra h.roofs.length h.rc], .slice ta t.length tc, .agg #[.string x.name, .int .i64 x.to, .int .i64 x.spd, .int .i64 x.rise, .int .i64 x.fall]] w' fun e w2 => e = .returned (.int .i64 (moveD h t x)) ∧ Below w'.heap.size w' w2) := lh fun w' z => rdist_any h x ta t tc w' (HXX.out _ z.old).2.2.1.toHouseIn0 HSL.out (HXX.out _ z.old).2.2.2.2 HTO.out.1 HF0.out HMW.out;obtain ⟨dd, hdd⟩ := nm (moveD h t x);rw [hdd] at HSN HMG HDIST;have HTIME := lh fun (w' : World) => rtime_any dd x (topV dd x) HMG.out (top_is HMG.out) w';rw [show timeP dd x (topV dd x) = tmF dd x from rfl] at HTIME;have HTP := lh (tm_ok HMG.out);have vb := (validF_iff _ _).1 HTK.out.ok;obtain ⟨p, hp⟩ := nm (tmF dd x);rw [hp] at HSN HTIME HTP;have vp := (validF_iff _ _).1 HTP.out.ok;have HCM := lh fun (w' : World) => rcmp_any p.1 p.2 b.1 b.2 HTP.out.pos (by omega) (by omega) (by omega) HTK.out.pos (by omega) (by omega) (by omega) w';clear hhi hmv hnm hx hdd hp vb vp
   go_upto_region 5 with (fail)
   clear c0 c1 c2 c3 c4 c5 c6
   go_cut [9] (fun v9 wx => ∃ B9 : Nat, v9 = .pointer (some ⟨B9, 0, none⟩) ∧ Below n₀ W0 wx ∧ n₀ ≤ wx.heap.size ∧ n₀ ≤ B9 ∧ Hid (FI wx B9 p.1 p.2 ∧ FI wx B7 b.1 b.2 ∧ B7 ≠ B9))
   case first =>
    have x0 : ∀ w', HeldT n₀ W0 w' → w'.cell? ⟨B1, 0, none⟩ = some (.string h.name) := fun w' z => (HXX.out w' z.old).1.1;have x1 : ∀ w', HeldT n₀ W0 w' → w'.cell? ⟨B1, 1, none⟩ = some (.int .i64 h.height) := fun w' z => (HXX.out w' z.old).1.2.1;have x2 : ∀ w', HeldT n₀ W0 w' → w'.cell? ⟨B1, 2, none⟩ = some (.slice h.sa h.sets.length h.sc) := fun w' z => (HXX.out w' z.old).1.2.2.1;have x3 : ∀ w', HeldT n₀ W0 w' → w'.cell? ⟨B1, 3, none⟩ = some (.slice h.ra h.roofs.length h.rc) := fun w' z => (HXX.out w' z.old).1.2.2.2;have c4 : ∀ w', HeldT n₀ W0 w' → w'.cell? ⟨B2, 4, none⟩ = some (.slice (some ⟨mb, mo, none⟩) q.moves.length q.mc) := fun w' z => by rw [← HQA.out]; exact (HXX.out w' z.old).2.1.2.2.2.2.1
    have hmm : ∀ w', HeldT n₀ W0 w' → w'.cell? ⟨mb, mo + k * 5, none⟩ = some (.string x.name) ∧ w'.cell? ⟨mb, mo + k * 5 + 1, none⟩ = some (.int .i64 x.to) ∧ w'.cell? ⟨mb, mo + k * 5 + 2, none⟩ = some (.int .i64 x.spd) ∧ w'.cell? ⟨mb, mo + k * 5 + 3, none⟩ = some (.int .i64 x.rise) ∧ w'.cell? ⟨mb, mo + k * 5 + 4, none⟩ = some (.int .i64 x.fall) := fun w' z => by
     obtain ⟨mb', mo', e, -, ex⟩ := (HXX.out w' z.old).2.2.2.1 (by omega)
     cases e
     have := ex k hlt;rw [HMK.out] at this;exact this
    have y0 := fun w' z => (hmm w' z).1;have y1 := fun w' z => (hmm w' z).2.1;have y2 := fun w' z => (hmm w' z).2.2.1;have y3 := fun w' z => (hmm w' z).2.2.2.1;have y4 := fun w' z => (hmm w' z).2.2.2.2;clear hmm;have H0 : HeldT n₀ W0 wr.drew := (HeldT.mk hB hnw).next (br).drew
    have F7_0 := HF.out.carry (br).drew;refine wp_region_held_drew (S := (HeldT n₀ W0)) (by kernel_rfl) H0 (fun hHeld => ?_);obtain ⟨W5, hW5⟩ := nm (wr.drew);simp only [hW5] at hHeld H0 F7_0 ⊢;clear hW5;refine tk 0 ?_; refine tk 1 ?_; refine tk 2 ?_; refine tk 3 ?_; refine tk 4 ?_; refine tk 5 ?_; refine tk 6 ?_; refine tk 8 ?_; refine tk 9 ?_; refine tk 10 ?_; refine tk 11 ?_; refine tk 12 ?_;clear x0 x1 x2 x3 c4 y0 y1 y2 y3 y4;refine rq [7, 14] ?_;refine AllReadyH.cons (o := _) rfl (fun K hK => ?_) (AllReadyH.cons (o := _) rfl (fun K hK => ?_) AllReadyH.nil)
    ·try simp only [q4, q5, q6]
     go_simp
     (go_at_call 92; go_split_ands; (with_reducible refine (HDIST.out _ H0).mono ?_); rintro e y1 ⟨rfl, hy1⟩)
     go_wp2_with fail
     have H1 := H0.next hy1;have F7_1 := F7_0.carry hy1;refine hK.out _ _ H1 (fun hHeld => ?_);clear hK K
     try simp only [Act.put, qq]
     refine rq [13, 14] ?_;refine AllReadyH.cons (o := _) rfl (fun K hK => ?_) (AllReadyH.cons (o := _) rfl (fun K hK => ?_) AllReadyH.nil)
     focus
      try simp only [q4, q5, q6]
      go_simp
      (go_at_call 91; go_split_ands; (with_reducible refine (HTIME.out _).mono ?_); rintro e y2 ⟨rfl, hy2⟩)
      go_wp2_with fail
      have H2 := H1.next hy2;have F7_2 := F7_1.carry hy2;refine hK.out _ _ H2 (fun hHeld => ?_);clear hK K
      try simp only [Act.put, qq]
      refine r1 14 (fun K hK => ?_);rw [if_pos (by rfl)];go_split_ands
      go_wp2_with fail
      have H3 := H2.next (below_new y2 (.cells #[.int .i64 0, .int .i64 0] 110));have F7_3 := F7_2.carry (below_new y2 (.cells #[.int .i64 0, .int .i64 0] 110));have F9_3 := FI.new y2 110;have hlo : n₀ ≤ y2.heap.size := H2.lo;have hne : B7 ≠ y2.heap.size := Nat.ne_of_lt F7_2.2.2.2.2;obtain ⟨B9, hB9⟩ := nm (y2.heap.size);rw [hB9] at F9_3 hlo hne ⊢;clear hB9;generalize y2.alloc (.cells #[.int .i64 0, .int .i64 0] 110) = y3 at *
     rotate_left
     focus
      rw [if_pos (by rfl)];go_split_ands
      go_wp2_with fail
      have H2 := H1.next (below_new y1 (.cells #[.int .i64 0, .int .i64 0] 110));have F7_2 := F7_1.carry (below_new y1 (.cells #[.int .i64 0, .int .i64 0] 110));have F9_2 := FI.new y1 110;have hlo : n₀ ≤ y1.heap.size := H1.lo;have hne : B7 ≠ y1.heap.size := Nat.ne_of_lt F7_1.2.2.2.2;obtain ⟨B9, hB9⟩ := nm (y1.heap.size);rw [hB9] at F9_2 hlo hne ⊢;clear hB9;generalize y1.alloc (.cells #[.int .i64 0, .int .i64 0] 110) = y2 at *;refine hK.out _ _ H2 (fun hHeld => ?_);clear hK K
      try simp only [Act.put, qq]
      refine r1 13 (fun K hK => ?_)
      try simp only [q4, q5, q6]
      go_simp
      (go_at_call 91; go_split_ands; (with_reducible refine (HTIME.out _).mono ?_); rintro e y3 ⟨rfl, hy3⟩)
      go_wp2_with fail
      have H3 := H2.next hy3;have F7_3 := F7_2.carry hy3;have F9_3 := F9_2.carry hy3
     rotate_left
     all_goals
      refine hK.out _ _ H3 (fun hHeld => ?_);clear hK K
      try simp only [Act.put, qq]
      refine r1 15 (fun K hK => ?_);rw [if_pos (by rfl)];go_split_ands;obtain ⟨f0, f1, f2, f3, f4⟩ := F9_3
      go_wp2_with fail
      refine hK.out _ _ ((H3.put hlo _).put hlo _) (fun hHeld => ?_);clear hK K
      try simp only [Act.put, qq]
      refine wpAnyH_done (by kernel_rfl) ?_ _
      go_wp2_with fail
      go_meet
      exact ⟨B9, rfl, ((H3.put hlo _).put hlo _).old, ((H3.put hlo _).put hlo _).lo, hlo, lh ⟨FI.set ⟨f0, f1, f2, f3, f4⟩ _ _, F7_3.other hne _ _, hne⟩⟩
    ·rw [if_pos (by rfl)]
     go_split_ands
     go_wp2_with fail
     have H1 := H0.next (below_new W5 (.cells #[.int .i64 0, .int .i64 0] 110));have F7_1 := F7_0.carry (below_new W5 (.cells #[.int .i64 0, .int .i64 0] 110));have F9_1 := FI.new W5 110;have hlo : n₀ ≤ W5.heap.size := H0.lo;have hne : B7 ≠ W5.heap.size := Nat.ne_of_lt F7_0.2.2.2.2;obtain ⟨B9, hB9⟩ := nm (W5.heap.size);rw [hB9] at F9_1 hlo hne ⊢;clear hB9;generalize W5.alloc (.cells #[.int .i64 0, .int .i64 0] 110) = y1 at *;refine hK.out _ _ H1 (fun hHeld => ?_);clear hK K
     try simp only [Act.put, qq]
     refine r1 7 (fun K hK => ?_)
     try simp only [q4, q5, q6]
     go_simp
     (go_at_call 92; go_split_ands; (with_reducible refine (HDIST.out _ H1).mono ?_); rintro e y2 ⟨rfl, hy2⟩)
     go_wp2_with fail
     have H2 := H1.next hy2;have F7_2 := F7_1.carry hy2;have F9_2 := F9_1.carry hy2;refine hK.out _ _ H2 (fun hHeld => ?_);clear hK K
     try simp only [Act.put, qq]
     refine r1 13 (fun K hK => ?_)
     try simp only [q4, q5, q6]
     go_simp
     (go_at_call 91; go_split_ands; (with_reducible refine (HTIME.out _).mono ?_); rintro e y3 ⟨rfl, hy3⟩)
     go_wp2_with fail
     have H3 := H2.next hy3;have F7_3 := F7_2.carry hy3;have F9_3 := F9_2.carry hy3;refine hK.out _ _ H3 (fun hHeld => ?_);clear hK K
     try simp only [Act.put, qq]
     refine r1 15 (fun K hK => ?_);rw [if_pos (by rfl)];go_split_ands;obtain ⟨f0, f1, f2, f3, f4⟩ := F9_3
     go_wp2_with fail
     refine hK.out _ _ ((H3.put hlo _).put hlo _) (fun hHeld => ?_);clear hK K
     try simp only [Act.put, qq]
     refine wpAnyH_done (by kernel_rfl) ?_ _
     go_wp2_with fail
     go_meet
     exact ⟨B9, rfl, ((H3.put hlo _).put hlo _).old, ((H3.put hlo _).put hlo _).lo, hlo, lh ⟨FI.set ⟨f0, f1, f2, f3, f4⟩ _ _, F7_3.other hne _ _, hne⟩⟩
   case rest =>
    obtain ⟨B9, rfl, hB8, hn8, hlo, hq⟩ := hcut;obtain ⟨q0, q1, q2, q3, q4⟩ := hq.out.1;obtain ⟨s0, s1, s2, s3, s4⟩ := hq.out.2.1;clear HF hB hnw HDIST HTIME
    by_cases hcc : 0 < cmpP (p.1 * b.2) (b.1 * p.2)
    ·have HMF : Hid (moreF p b = p) := lh (by unfold moreF; rw [if_pos hcc])
     have hdc : decide (0 < cmpP (p.1 * b.2) (b.1 * p.2)) = true := decide_eq_true hcc
     go_wp2_with (go_at_call 93; (with_reducible refine (HCM.out _).mono ?_); rintro e w9 ⟨rfl, hb9⟩; have hB9 := hB8.trans (hb9.mono hn8); have hn9 : n₀ ≤ w9.heap.size := Nat.le_trans hn8 hb9.size; obtain ⟨r0, r1, r2, r3, r4⟩ := FI.carry ⟨q0, q1, q2, q3, q4⟩ hb9; have F10 := lh (show FI w9 B7 b.1 b.2 from FI.carry ⟨s0, s1, s2, s3, s4⟩ hb9); obtain ⟨v0, v1, v2, v3, v4⟩ := F10.out)
     have F11 := lh (F10.out.set p.1 p.2);have hs11 : n₀ ≤ ((w9.setCell ⟨B7, 0, none⟩ (.int .i64 p.1)).setCell ⟨B7, 1, none⟩ (.int .i64 p.2)).heap.size := by simp; omega
     have hB11 := (hB9.setCell (show n₀ ≤ (⟨B7, 0, none⟩ : Addr).block from hn1) (.int .i64 p.1)).setCell (show n₀ ≤ (⟨B7, 1, none⟩ : Addr).block from hn1) (.int .i64 p.2);go_roundw
     case rel => exact ⟨k + 1, p, by go_num, by omega, hB11, hs11, lh (by rw [HSN.out, HMF.out]), F11⟩
     case measure => simp [intOf]; omega
    ·have HMF : Hid (moreF p b = b) := lh (by unfold moreF; rw [if_neg hcc])
     have hdc : decide (0 < cmpP (p.1 * b.2) (b.1 * p.2)) = false := decide_eq_false hcc
     go_wp2_with (go_at_call 93; (with_reducible refine (HCM.out _).mono ?_); rintro e w9 ⟨rfl, hb9⟩; have hB9 := hB8.trans (hb9.mono hn8); have hn9 : n₀ ≤ w9.heap.size := Nat.le_trans hn8 hb9.size; have F10 := FI.carry ⟨s0, s1, s2, s3, s4⟩ hb9)
     go_roundw
     case rel => exact ⟨k + 1, b, by go_num, by omega, hB9, hn9, lh (by rw [HSN.out, HMF.out]), lh F10⟩
     case measure => simp [intOf]; omega
  ·obtain rfl : k = q.moves.length := by omega
   rw [List.take_length] at HBK;obtain ⟨s0, s1, s2, s3, s4⟩ := HF.out;obtain ⟨t0, t1, t2, t3, t4⟩ := HNN.out _ hB;clear hhi hmv hnm
   go_wp2_with fail
   have hr := two_cells (v0 := .int .i64 b.1) (v1 := .int .i64 b.2) t0 t1;refine bodyPost_ret (v := .agg #[.int .i64 b.1, .int .i64 b.2]) (by simp [results, Tryz.results56, go_sem, hr.1, hr.2]) rfl ⟨by rw [HBK.out], ?_⟩;exact ((HWW.out _ hB).setCell (show w.heap.size ≤ (⟨B3, 0, none⟩ : Addr).block from HB3.out) _).setCell (show w.heap.size ≤ (⟨B3, 1, none⟩ : Addr).block from HB3.out) _
end
end Go.Proofs.YtlnodjcmdnmnlaaGreat
