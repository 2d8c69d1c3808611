/-
  PLAIN: the order, one by one; the starts that the reference makes along the order are those of the program.
-/
import Derived.Test.YtebofaenlhhkaaaGreatF26
import Derived.Test.YtebofaenlhhkaaaGreatF15
namespace Go.Proofs.YtebofaenlhhkaaaGreat
set_option maxRecDepth 100000
set_option maxHeartbeats 80000000
section
theorem ord_next (hs : List Int) : ∀ k, k < (ordP hs).length → ∃ m : Nat, ig (ordP hs) k = m ∧ nextO hs ((ordP hs).take k) = some m := by
 have main : ∀ f out, OrdAt hs out → hs.length - out.length = f → (∀ k, k < out.length → ∃ m : Nat, ig out k = m ∧ nextO hs (out.take k) = some m) → ∀ k, k < (ordP hs).length → ∃ m : Nat, ig (ordP hs) k = m ∧ nextO hs ((ordP hs).take k) = some m := by
  intro f
  induction f with
  | zero =>
   intro out h hf hq
   cases hn : nextO hs out with
   | none => rw [h.ends hn]; exact hq
   | some k => have := (h.next k hn).2; omega
  | succ f ih =>
   intro out h hf hq
   cases hn : nextO hs out with
   | none => rw [h.ends hn]; exact hq
   | some k =>
    obtain ⟨h1, h2⟩ := h.next k hn;refine ih _ h1 (by rw [List.length_append, List.length_singleton]; omega) fun j hj => ?_;rw [List.length_append, List.length_singleton] at hj;rcases Nat.lt_or_ge j out.length with l | l
    ·rw [ig_old _ _ _ l, List.take_append_of_le_length (by omega)]
     exact hq j l
    ·obtain rfl : j = out.length := by omega
     refine ⟨k, ig_new _ _, ?_⟩;rw [List.take_append_of_le_length (Nat.le_refl _), List.take_length];exact hn
 exact main _ [] (OrdAt.start hs) rfl (fun k hk => absurd hk (Nat.not_lt_zero _))
theorem ready_iff {hs out : List Int} {m : Nat} : readyB hs out m = true ↔ (m : Int) ∉ out ∧ (ig hs m < 0 ∨ ig hs m ∈ out) := by
 unfold readyB
 simp
theorem all_in (n : Nat) (l : List Int) (hn : l.Nodup) (h : ∀ x ∈ l, 0 ≤ x ∧ x < n) (hl : l.length = n) (i : Nat) (hi : i < n) : (i : Int) ∈ l := by
 by_cases hm : (i : Int) ∈ l
 ·exact hm
 ·have := pigeon n _ (snoc_nodup hn hm) (snoc_in h (Int.natCast_nonneg i) (by omega))
  rw [List.length_append, List.length_singleton] at this;omega
theorem pass2_manual {L : List CueR} (N G : List Int) (k : Nat) (hk : k ≤ (ordP (hangs L)).length) (m : Nat) (hm : m < L.length) (hl : (cg L m).link = 1) : ig (pass2 L N G k) m = ig G (manTo L m) + (cg L m).delay := by
 induction k with
 | zero => show ig (pass1 L G L.length) m = _; rw [pass1_at _ _ _ _ hm, if_pos ⟨hm, hl⟩]
 | succ k ih =>
  obtain ⟨j, hj, e⟩ := ord_in L k (by omega);rw [pass2_succ L N G k (by omega), e];unfold stepS;rw [Int.toNat_natCast]
  split
  ·exact ih (by omega)
  ·next hl2 =>
   rw [ig_set _ _ _ _ (by rw [pass2_len]; exact hj), if_neg (fun e => hl2 (by rw [e]; exact hl))];exact ih (by omega)
end
section
open Go.RowKit
theorem startsV_other {L : List CueR} (hl : ¬ (ordP (hangs L)).length < L.length) (N G : List Int) (m f : Nat) (hm : m < L.length) (hf : f < L.length) (hl1 : (cg L m).link ≠ 1) (hfa : findI L (cg L m).after = f) :
  ig (startsV L N G) m = ig (startsV L N G) f + (cg L m).delay + if (cg L m).link = 2 then ig N f else 0 := by
 obtain ⟨hO, _⟩ := ord_at (hangs L);have hlen : (ordP (hangs L)).length = L.length := by have := ord_le L; omega
 have stay : ∀ d k x, k + d = (ordP (hangs L)).length → x < L.length → ((cg L x).link = 1 ∨ (x : Int) ∈ (ordP (hangs L)).take k) → ig (startsV L N G) x = ig (pass2 L N G k) x := by
  intro d
  induction d with
  | zero =>
   intro k x hk _ _;obtain rfl : k = (ordP (hangs L)).length := by omega
   rfl
  | succ d ih =>
   intro k x hk hx hc;obtain ⟨j, em, hnx⟩ := ord_next (hangs L) k (by omega);have hjL : j < L.length := by have := (next_of hnx).1; rwa [hangs_len] at this
   have hnot := (ready_iff.1 (next_of hnx).2.1).1;have htk : (ordP (hangs L)).take (k + 1) = (ordP (hangs L)).take k ++ [(j : Int)] := by rw [List.take_add_one, ig_get (by omega), em]; rfl
   rw [ih (k + 1) x (by omega) hx (by
    rcases hc with c | c
    ·exact .inl c
    ·exact .inr (by rw [htk]; exact List.mem_append_left _ c)), pass2_succ L N G k (by omega), em]
   unfold stepS;rw [Int.toNat_natCast]
   split
   ·rfl
   ·next hj1 =>
    rw [ig_set _ _ _ _ (by rw [pass2_len]; exact hjL), if_neg (fun e => ?_)];subst e;rcases hc with c | c
    ·exact hj1 c
    ·exact hnot c
 have hin := all_in L.length _ hO.nd (by have := hO.inn; rwa [hangs_len] at this) hlen m hm
 obtain ⟨k, hk, ek⟩ : ∃ k, k < (ordP (hangs L)).length ∧ ig (ordP (hangs L)) k = (m : Int) := by
  obtain ⟨k, hk, e⟩ := List.getElem_of_mem hin;exact ⟨k, hk, by rw [ig_eq _ _ hk]; exact e⟩
 obtain ⟨m', em, hnx⟩ := ord_next (hangs L) k hk;obtain rfl : m' = m := by have := em.symm.trans ek; omega
 have hrd := (ready_iff.1 (next_of hnx).2.1).2;rw [hangs_at L m' hm, hang_other hl1, hfa] at hrd
 have hfin : (f : Int) ∈ (ordP (hangs L)).take k := by
  rcases hrd with c | c
  ·omega
  ·exact c
 have htk : (ordP (hangs L)).take (k + 1) = (ordP (hangs L)).take k ++ [(m' : Int)] := by rw [List.take_add_one, ig_get hk, em]; rfl
 rw [stay ((ordP (hangs L)).length - (k + 1)) (k + 1) m' (by omega) hm (.inr (by rw [htk]; simp)), stay ((ordP (hangs L)).length - k) k f (by omega) hf (.inr hfin), pass2_succ L N G k hk, em];unfold stepS;rw [Int.toNat_natCast, if_neg hl1, hfa, Int.toNat_natCast, ig_set _ _ _ _ (by rw [pass2_len]; exact hm), if_pos rfl]
theorem plan_starts {h : HouseR} {s : SheetR} {G : List Int} (e : planE h s G = 0) : planS h s G = startsV s.cues (planN h s) G ∧ ¬ (ordP (hangs s.cues)).length < s.cues.length := by
 unfold planE at e
 split at e
 case isFalse => cases e
 unfold planS;unfold startsP at e ⊢
 split at e
 case isFalse => cases e
 rename_i h1
 rw [if_pos h1]
 split at e
 case isFalse => cases e
 rename_i h2
 rw [if_pos h2]
 split at e
 ·cases e
 rename_i h3
 rw [if_neg h3]
 split at e
 ·cases e
 rename_i h4
 rw [if_neg h4];exact ⟨rfl, h4⟩
theorem start_man {h : HouseR} {s : SheetR} {G : List Int} (e : planE h s G = 0) {k : Nat} (hk : k < s.cues.length) (l : (cg s.cues k).link = 1) : ig (planS h s G) k = ig G (manTo s.cues k) + (cg s.cues k).delay ∧ manTo s.cues k < G.length := by
 rw [(plan_starts e).1];exact ⟨pass2_manual _ _ _ (Nat.le_refl _) k hk l, by rw [(plan_sheet e).2.lenG]; exact manTo_lt _ _ _ hk l⟩
theorem start_off {h : HouseR} {s : SheetR} {G : List Int} (e : planE h s G = 0) {k : Nat} (hk : k < s.cues.length) (l : (cg s.cues k).link ≠ 1) : ∃ f : Nat, f < k ∧ findI s.cues (cg s.cues k).after = (f : Int) ∧ ig (planS h s G) k = (if (cg s.cues k).link = 2 then ig (planS h s G) f + ig (planN h s) f else ig (planS h s G) f) + (cg s.cues k).delay := by
 obtain ⟨ok, po⟩ := plan_sheet e;obtain ⟨h0, h1⟩ := (ok.each k hk).2.2.2 l;obtain ⟨f, hf⟩ : ∃ f : Nat, (f : Int) = findI s.cues (cg s.cues k).after := ⟨_, Int.toNat_of_nonneg h0⟩;obtain ⟨e1, e2⟩ := plan_starts e;refine ⟨f, by omega, hf.symm, ?_⟩;rw [e1, startsV_other e2 _ _ k f hk (by omega) l hf.symm]
 split <;> omega
theorem begs_at (h : HouseR) (s : SheetR) (G : List Int) : ∀ n k, k < n → beg (begsL h s G n) k = ((cg s.cues k).name, ig (planS h s G) k)
 | 0, k, hk => absurd hk (Nat.not_lt_zero _)
 | n + 1, k, hk => by
  rw [begsL_snoc];rcases Nat.lt_or_ge k n with l | l
  ·rw [beg_old _ _ _ (by rw [begsL_len]; exact l)]
   exact begs_at h s G n k l
  ·obtain rfl : k = n := by omega
   have := beg_new (begsL h s G k) ((cg s.cues k).name, ig (planS h s G) k);rw [begsL_len] at this;exact this
theorem ends_at (h : HouseR) (s : SheetR) (G : List Int) : ∀ n k, k < n → ig (endsL h s G n) k = ig (planS h s G) k + ig (planN h s) k
 | 0, k, hk => absurd hk (Nat.not_lt_zero _)
 | n + 1, k, hk => by
  rw [endsL_snoc];rcases Nat.lt_or_ge k n with l | l
  ·rw [ig_old _ _ _ (by rw [endsL_len]; exact l)]
   exact ends_at h s G n k l
  ·obtain rfl : k = n := by omega
   have := ig_new (endsL h s G k) (ig (planS h s G) k + ig (planN h s) k);rw [endsL_len] at this;exact this
theorem manTo_yes {L : List CueR} {k : Nat} (l : (cg L k).link = 1) : manTo L (k + 1) = manTo L k + 1 := by rw [manTo, if_pos l]
theorem manTo_no {L : List CueR} {k : Nat} (l : (cg L k).link ≠ 1) : manTo L (k + 1) = manTo L k := by rw [manTo, if_neg l]; rfl
end
section
open Go.RowKit Go.Shelf
attribute [local go_sem] Oper.semAt_some
def Runs (S N : List Int) (ms : Int) (i : Nat) : Prop := ig S i ≤ ms ∧ ms < ig S i + ig N i
instance (S N : List Int) (ms : Int) (i : Nat) : Decidable (Runs S N ms i) := by unfold Runs; infer_instance
noncomputable def busyL (h : HouseR) (s : SheetR) (G : List Int) (ms : Int) (n : Nat) : List ByteArray := ((List.range n).filter fun i => decide (Runs (planS h s G) (planN h s) ms i)).map fun i => (cg s.cues i).name
theorem busyL_yes {h : HouseR} {s : SheetR} {G : List Int} {ms : Int} {n : Nat} (r : Runs (planS h s G) (planN h s) ms n) : busyL h s G ms (n + 1) = busyL h s G ms n ++ [(cg s.cues n).name] := by
 unfold busyL;rw [List.range_succ, List.filter_append, List.map_append, List.filter_cons_of_pos (by simpa using r), List.filter_nil]
 rfl
theorem busyL_no {h : HouseR} {s : SheetR} {G : List Int} {ms : Int} {n : Nat} (r : ¬ Runs (planS h s G) (planN h s) ms n) : busyL h s G ms (n + 1) = busyL h s G ms n := by
 unfold busyL;rw [List.range_succ, List.filter_append, List.map_append, List.filter_cons_of_neg (by simpa using r), List.filter_nil, List.map_nil, List.append_nil]
theorem busyL_len (h : HouseR) (s : SheetR) (G : List Int) (ms : Int) (n : Nat) : (busyL h s G ms n).length ≤ n := by
 unfold busyL;rw [List.length_map];exact Nat.le_trans (List.length_filter_le _ _) (by rw [List.length_range]; exact Nat.le_refl _)
noncomputable def busyP (h : HouseR) (s : SheetR) (G : List Int) (ms : Int) : List ByteArray := if planE h s G = 0 then busyL h s G ms s.cues.length else []
theorem busy_any (ms : Int) (m0 : 0 ≤ ms) (m1 : ms ≤ 1099511627776) (h : HouseR) (s : SheetR) (ga : Option Addr) (G : List Int) (gc : Nat) (w : World) (hh : HouseIn w h) (hs : SheetIn w s) (hG : Nums w.heap.size w ga G) (hgl : G.length ≤ 1000) :
  Calls Tryz.prog 25 #[.agg #[.string h.name, .int .i64 h.height, .slice h.sa h.sets.length h.sc, .slice h.ra h.roofs.length h.rc], .agg #[.slice s.ca s.cues.length s.cc, .slice s.pa s.pairs.length s.pc], .slice ga G.length gc, .int .i64 ms] w fun e w' => Hid (∃ v, e = .returned (.tuple #[v, .int .i64 (planE h s G)]) ∧ w'.ownsRow w.heap.size 9 1 v (busyP h s G ms).length (sflat (busyP h s G ms))) ∧ Below w.heap.size w w' := by
 obtain ⟨hb0, HX, HW⟩ := o1 hh hs hG;have HP := lh fun (q : planE h s G = 0) => plan_sheet q;have hcl := hs.clen;clear hh hs hG hb0;obtain ⟨E, hE⟩ := nm (planE h s G)
 by_cases hz : E = 0
 case neg =>
  have HE := lh hE;have HEP : Hid (busyP h s G ms = []) := lh (by unfold busyP; rw [hE, if_neg hz]);have g0 : (E != 0) = true := bne_iff_ne.2 hz;clear hz hE
  go_enter Tryz.func25, Tryz.ntmps25
  go_upto_region 1 with (fail)
  obtain ⟨W0, hW0⟩ := nm ((LTw w h s) : World);simp only [hW0] at HX HW ⊢;clear hW0;obtain ⟨B1, hB1⟩ := nm (w.heap.size);obtain ⟨B2, hB2⟩ := nm (w.heap.size + 1);rw [hB2] at HX ⊢;rw [hB1] at HX ⊢;have HBB : Hid (w.heap.size = B1) := lh hB1;clear hB1 hB2;obtain ⟨⟨a0, a1, a2, a3⟩, ⟨s0, s1⟩, -, -, -⟩ := HX.out _ br;have HMD := lh (made_any h s ga G gc _ (HX.out _ br).2.2.1 (HX.out _ br).2.2.2.1 (HX.out _ br).2.2.2.2 hgl)
  go_wp2_with (go_at_call 44; (with_reducible refine HMD.out.mono ?_); rintro e w1 ⟨hx1, hb1⟩; obtain ⟨ta, tn, tc, sa, sn, sc, na, nn, nc, rfl, hp1⟩ := hx1.out; have HP1 := lh hp1; clear hx1 hp1; rw [HE.out])
  go_ret2
  exact ⟨lh ⟨.slice none 0 0, by first | rfl | (rw [HE.out]; rfl), by rw [HEP.out]; exact World.ownsRow_nil _ _ _ _⟩, (HW.out _ hb1).alloc (by have := (HW.out _ hb1).size; omega) _⟩
 case pos =>
  subst hz;have HE := lh hE;have HEP : Hid (busyP h s G ms = busyL h s G ms s.cues.length) := lh (by unfold busyP; rw [hE, if_pos rfl]);have HQ := lh (HP.out hE);clear hE HP;have g1 : decide (ms < 0) = false := dF (by omega);have g2 : decide (1099511627776 < ms) = false := dF (by omega)
  go_enter Tryz.func25, Tryz.ntmps25
  go_upto_region 1 with (fail)
  obtain ⟨W0, hW0⟩ := nm ((LTw w h s) : World);simp only [hW0] at HX HW ⊢;clear hW0;obtain ⟨B1, hB1⟩ := nm (w.heap.size);obtain ⟨B2, hB2⟩ := nm (w.heap.size + 1);rw [hB2] at HX ⊢;rw [hB1] at HX ⊢;have HBB : Hid (w.heap.size = B1) := lh hB1;clear hB1 hB2;obtain ⟨⟨a0, a1, a2, a3⟩, ⟨s0, s1⟩, -, -, -⟩ := HX.out _ br;have HMD := lh (made_any h s ga G gc _ (HX.out _ br).2.2.1 (HX.out _ br).2.2.2.1 (HX.out _ br).2.2.2.2 hgl);obtain ⟨ca, hca⟩ := nm (s.ca);have HCA := lh hca;rw [hca] at s0 HMD ⊢;clear hca
  go_upto_region 7 with (go_at_call 44; (with_reducible refine HMD.out.mono ?_); rintro e w1 ⟨hx1, hb1⟩; obtain ⟨ta, tn, tc, sa, sn, sc, na, nn, nc, rfl, hp1⟩ := hx1.out; have HP1 := lh hp1; clear hx1 hp1; rw [HE.out])
  obtain ⟨e1, e2, hS1, hN1⟩ := HP1.out HE.out;subst e1;subst e2;have hbx := below_new w1 (.cells #[.slice ta tn tc, .slice sa s.cues.length sc, .slice na s.cues.length nc] 109);have hP2 := PC.put w1 (.slice ta tn tc) (.slice sa s.cues.length sc) (.slice na s.cues.length nc) 109;have hW2 := (HW.out _ hb1).alloc (by have := (HW.out _ hb1).size; omega) (.cells #[.slice ta tn tc, .slice sa s.cues.length sc, .slice na s.cues.length nc] 109);have hX2 : Hid (Below W0.heap.size W0 (w1.alloc (.cells #[.slice ta tn tc, .slice sa s.cues.length sc, .slice na s.cues.length nc] 109))) := lh (hb1.alloc hb1.size _);replace hS1 := hS1.grow hbx;replace hN1 := hN1.grow hbx;clear hbx HP1 HMD a0 a1 a2 a3 s0 s1;generalize w1.alloc (.cells #[.slice ta tn tc, .slice sa s.cues.length sc, .slice na s.cues.length nc] 109) = W2 at *;obtain ⟨B8, hB8⟩ := nm (w1.heap.size);rw [hB8] at hP2 ⊢;clear hB8
  have HXX : Hid (∀ w', Below W2.heap.size W2 w' → Below w.heap.size w w' ∧ PC w' B8 (.slice ta tn tc) (.slice sa s.cues.length sc) (.slice na s.cues.length nc) ∧ Nums w'.heap.size w' sa (planS h s G) ∧ Nums w'.heap.size w' na (planN h s) ∧ SheetAt w' B2 s ∧ SheetIn w' s) := lh fun w' z => by
   have y := hX2.out.trans (z.mono hX2.out.size);obtain ⟨-, y2, -, y4, -⟩ := HX.out w' y;exact ⟨hW2.trans (z.mono hW2.size), hP2.carry z, hS1.grow z, hN1.grow z, y2, y4⟩
  clear HX hW2 hS1 hN1 hP2 HW hX2 hb1;obtain ⟨n₂, hn2⟩ := nm (W2.heap.size);rw [hn2] at HXX;have hB2 : Below n₂ W2 W2 := by rw [← hn2]; exact br
  have hnn : n₂ ≤ W2.heap.size := by omega
  have HBN : Hid (w.heap.size ≤ n₂) := lh (by have := (HXX.out _ hB2).1.size; omega);clear hn2;obtain ⟨-, -, -, -, ⟨s0, s1⟩, -⟩ := HXX.out _ hB2;rw [HCA.out] at s0
  go_upto_region 8 with (fail)
  clear s0 s1 g1 g2
  go_loopw [12, 13, 14, 36] (fun v12 _ _ iv wr => ∃ (k : Nat), iv = .int .i64 k ∧ k ≤ s.cues.length ∧ Below n₂ W2 wr ∧ n₂ ≤ wr.heap.size ∧ Hid (wr.ownsRow n₂ 9 1 v12 (busyL h s G ms k).length (sflat (busyL h s G ms k)))) (fun _ _ _ iv _ => s.cues.length - (intOf iv).toNat)
  case atStart => exact ⟨0, rfl, Nat.zero_le _, hB2, hnn, lh (World.ownsRow_nil _ _ _ _)⟩
  case round =>
   clear hB2 hnn;obtain ⟨k, rfl, hk, hB, hnw, HR⟩ := hrel
   by_cases hlt : k < s.cues.length
   ·obtain ⟨-, -, hS, hN, -, hsi⟩ := HXX.out _ hB
    obtain ⟨b, off, ha, hb, hc⟩ := hsi.lies (by omega);rw [HCA.out] at ha;subst ha;obtain ⟨d0, d1, d2, d3, d4, d5, d6⟩ := hc k hlt;have hls : k < (planS h s G).length := by rw [HQ.out.2.lenS]; exact hlt
    have hln : k < (planN h s).length := by rw [HQ.out.2.lenN]; exact hlt
    obtain ⟨sb, so, hsa, hsb, hsx⟩ := hS (by omega);subst hsa;obtain ⟨nb, no, hna, hnb, hnx⟩ := hN (by omega);subst hna;have q1 := HQ.out.2.lens k hlt;have q2 := HQ.out.2.starts k hlt;have HYES := lh fun r => busyL_yes (h := h) (s := s) (G := G) (ms := ms) (n := k) r;have HNO := lh fun r => busyL_no (h := h) (s := s) (G := G) (ms := ms) (n := k) r;obtain ⟨q, hq⟩ := nm (cg s.cues k);rw [hq] at d0 d1 d2 d3 d4 d5 d6 HYES;have hRD : Runs (planS h s G) (planN h s) ms k ↔ ig (planS h s G) k ≤ ms ∧ ms < ig (planS h s G) k + ig (planN h s) k := Iff.rfl;obtain ⟨x, hx⟩ := nm (ig (planS h s G) k);obtain ⟨y, hy⟩ := nm (ig (planN h s) k);rw [hx, hy] at hRD;rw [hx] at q2;rw [hy] at q1;have HX5 := lh hx;have HY5 := lh hy;have HRD := lh hRD;have hsum : IntKind.i64.wrap (x + y) = x + y := by simp only [IntKind.wrap_i64]; omega
    have HLE := lh (busyL_len h s G ms k);clear hS hN hsi hc hsx hnx hq hx hy hRD q1 q2;have hB3 := hB.alloc hnw (LCu q);have hbn := below_new wr (LCu q);have HC3 := CueAt.new wr q 86 _ rfl;have hn3 : n₂ ≤ (wr.alloc (LCu q)).heap.size := by simp; omega
    have HR3 := lh (ownsRow_below HR.out hbn)
    go_upto_region 10 with (fail)
    clear d0 d1 d2 d3 d4 d5 d6 HR hbn hB hnw hb;generalize wr.alloc (LCu q) = W3 at *;obtain ⟨B12, hB12⟩ := nm (wr.heap.size);rw [hB12] at HC3 ⊢;clear hB12;have hn3' : ∀ n, n₂ ≤ (W3.drewN n).heap.size := fun _ => hn3;obtain ⟨-, ⟨p0, p1, p2, p3, p4, p5, p6⟩, hS, hN, -, -⟩ := HXX.out _ hB3;obtain ⟨tb, tf, e1, -, ex⟩ := hS (by omega)
    cases e1
    have x2 := ex k hls;obtain ⟨tb, tf, e1, -, ey⟩ := hN (by omega)
    cases e1
    have y2 := ey k hln;rw [HX5.out] at x2;rw [HY5.out] at y2;clear hS hN ex ey
    by_cases r1 : x ≤ ms
    ·have b1 : decide (x ≤ ms) = true := decide_eq_true r1
     by_cases r2 : ms < x + y
     ·have b2 : decide (ms < x + y) = true := decide_eq_true r2
      have HSN := lh (HYES.out (HRD.out.2 ⟨r1, r2⟩));clear r1 r2
      go_upto_region 11 with (go_quiet (fail))
      have hbq := below_drewN (Below.refl W3.heap.size W3) nq;have hB6 := hB3.trans (hbq.mono hn3);have hn6 : n₂ ≤ (W3.drewN nq).heap.size := hn3;have HR6 := lh (ownsRow_below HR3.out hbq);have c0 := (HC3.carry hbq).1;have hl0 : B12 < (W3.drewN nq).heap.size := wl c0;clear hbq p0 p1 p2 p3 p4 p5 p6 x2 y2 b1 b2;generalize W3.drewN nq = W6 at *;have hbx := below_new W6 (.cells #[.string q.name] 9);have HO8 := lh (ownsRow_below HR6.out hbx);have hB8 := hB6.alloc hn6 (.cells #[.string q.name] 9);have hn8 : n₂ ≤ (W6.alloc (.cells #[.string q.name] 9)).heap.size := by simp; omega
      have hkl : (busyL h s G ms k).length ≤ 1000000 := by have := HLE.out; omega
      have hc8 : (W6.alloc (.cells #[.string q.name] 9)).cell? ⟨W6.heap.size, 0, none⟩ = some (.string q.name) := by simp
      clear hbx
      go_wp2_with (at_builtin; refine str_append rfl _ _ rfl n₂ _ (busyL h s G ms k) rfl HO8.out _ q.name rfl hc8 hkl hn8 ?_; intro v2 w8 hown8 hg8; have HO9 := lh hown8; have hB9 := hB8.grown hg8 (by omega) (fun j hj => (HO8.out.lt _ hj).1); have hn9 := Nat.le_trans hn8 hg8.size; clear hown8 hg8)
      go_roundw
      case rel => exact ⟨k + 1, by go_num, by omega, hB9, hn9, lh (by rw [HSN.out]; exact HO9.out)⟩
      case measure => simp [intOf]; omega
     ·have b2 : decide (ms < x + y) = false := decide_eq_false r2
      have HSN := lh (HNO.out fun z => r2 (HRD.out.1 z).2);clear r1 r2
      go_wp2_with (go_quiet (fail))
      go_roundw
      case rel => exact ⟨k + 1, by go_num, by omega, below_drewN hB3 _, hn3' _, lh (by rw [HSN.out]; exact HR3.out)⟩
      case measure => simp [intOf]; omega
    ·have b1 : decide (x ≤ ms) = false := decide_eq_false r1
     have HSN := lh (HNO.out fun z => r1 (HRD.out.1 z).1);clear r1
     go_wp2_with (go_quiet (fail))
     go_roundw
     case rel => exact ⟨k + 1, by go_num, by omega, below_drewN hB3 _, hn3' _, lh (by rw [HSN.out]; exact HR3.out)⟩
     case measure => simp [intOf]; omega
   ·obtain rfl : k = s.cues.length := by omega
    go_wp2_with fail
    go_ret2
    exact ⟨lh ⟨_, by first | rfl | (rw [HE.out]; rfl), by rw [HEP.out]; exact ownsRow_base HR.out HBN.out⟩, (HXX.out _ hB).1⟩
theorem rcfind_any (ca : Option Addr) (L : List CueR) (cc : Nat) (v : Value) (s : ByteArray) (w : World) (hlen : L.length ≤ 1100) (hI : Cues w.heap.size w ca L) :
  Calls Tryz.prog 32 #[.agg #[.slice ca L.length cc, v], .string s] w fun e w' => e = .returned (.int .i64 (findI L s)) ∧ Below w.heap.size w w' := by
 have hb0 : Below w.heap.size w (w.alloc (.cells #[.slice ca L.length cc, v] 29)) := below_new w _;have HI := lh (hI.below hb0); clear hI;have HB := lh hb0; clear hb0
 go_enter Tryz.func32, Tryz.ntmps32
 go_wp2
 go_loop [5] (fun i => ∃ k : Nat, k ≤ L.length ∧ i = .int .i64 k ∧ Hid (∀ j, j < k → decide ((cg L j).name = s) = false)) (fun i => L.length - (intOf i).toNat)
 case atStart => exact ⟨0, Nat.zero_le _, rfl, lh (fun _ h => absurd h (Nat.not_lt_zero _))⟩
 case round =>
  obtain ⟨k, hk, rfl, HA⟩ := hrel
  by_cases hlt : k < L.length
  ·obtain ⟨b, off, rfl, hb, hc⟩ := HI.out (by omega)
   obtain ⟨d0, _⟩ := hc k hlt;have H := lh (str_eq (cg L k).name s);have hs := str_eq (cg L k).name s;clear hc
   by_cases hx : (cg L k).name = s
   ·have H := lh (cue_first_hit L (fun r => decide (r.name = s)) k hlt (decide_eq_true hx) HA.out)
    rw [decide_eq_true hx] at hs;clear hx
    go_wp2
    go_ret;exact ⟨ret_int H.out.symm, HB.out⟩
   ·rw [decide_eq_false hx] at hs
    have HB' : Hid (∀ j, j < k + 1 → decide ((cg L j).name = s) = false) := lh fun j hj => by
     rcases Nat.lt_or_ge j k with l | l
     ·exact HA.out j l
     ·obtain rfl : j = k := by omega
      exact decide_eq_false hx
    clear hx
    go_wp2
    go_round
    case rel => exact ⟨k + 1, by omega, by go_num, HB'⟩
    case measure => simp [intOf]; omega
  ·obtain rfl : k = L.length := by omega
   have H := lh (cue_first_miss L (fun r => decide (r.name = s)) HA.out)
   go_wp2
   go_ret;exact ⟨ret_int H.out.symm, HB.out⟩
end
section
open Go.RowKit
def xS (a : Option Addr) : SetR := ⟨⟨#[115]⟩, 0, 0, 5000, 2000, a, [0, 2000], 2, 0, 0, 1, 1, 0, none, [], 0, none, [], 0⟩
def xH (a s : Option Addr) : HouseR := ⟨⟨#[104]⟩, 5000, s, [xS a], 1, none, [], 0⟩
def xM : Mv := ⟨⟨#[115]⟩, 4000, 200, 100, 100⟩
def xC (m : Option Addr) : CueR := ⟨⟨#[113]⟩, ⟨#[]⟩, 1, 0, m, [xM], 1, 0, 0⟩
def xT (m c : Option Addr) : SheetR := ⟨c, [xC m], 1, none, [], 0⟩
theorem xS_ok (a : Option Addr) : setB (xS a) = true := by rfl
theorem xH_ok (a s : Option Addr) : houseB (xH a s) = true := by
 refine houseB_iff.2 ⟨by rfl, (show (1 : Int) ≤ 5000 by decide), (show (5000 : Int) ≤ 1048576 by decide), (show 1 ≤ 60 by decide), ⟨(show 0 ≤ 20 by decide), fun k hk => absurd hk (Nat.not_lt_zero _)⟩, fun k hk => ?_⟩
 obtain rfl : k = 0 := by
  have : k < 1 := hk;omega
 exact ⟨xS_ok a, (show (5000 : Int) ≤ 5000 by decide), fun i hi => absurd hi (Nat.not_lt_zero _)⟩
theorem x_find (a s : Option Addr) : findS (xH a s).sets xM.name = 0 := by rfl
theorem x_right (a s m : Option Addr) : RightOK (xH a s) (xC m) := by
 refine ⟨⟨by rfl, .inl rfl, (show (0 : Int) ≤ 0 ∧ (0 : Int) ≤ 2147483648 by decide), (show (0 : Int) ≤ 0 ∧ (0 : Int) ≤ 100 by decide), (show (0 : Int) ≤ 0 ∧ (0 : Int) ≤ 100 by decide)⟩, fun i hi => ?_⟩
 obtain rfl : i = 0 := by
  have : i < 1 := hi;omega
 exact ⟨by rfl, (show (0 : Int) ≤ 0 by decide), (show (0 : Int) ≤ 4000 by decide), (show (4000 : Int) ≤ 5000 by decide), fun j hj => absurd hj (Nat.not_lt_zero _)⟩
theorem x_sheet (a s m c : Option Addr) : SheetOK (xH a s) (xT m c) := by
 refine ⟨xH_ok a s, (show 1 ≤ 60 by decide), (show 1 ≤ 100 by decide), fun k hk => ?_, ⟨(show 0 ≤ 1000 by decide), fun i hi => absurd hi (Nat.not_lt_zero _)⟩⟩
 obtain rfl : k = 0 := by
  have : k < 1 := hk;omega
 exact ⟨x_right a s m, by rfl, fun _ => rfl, fun n => absurd rfl n⟩
theorem x_given : givenP 1000 xM = 0 := by rfl
theorem x_istop : IsTop 1000 xM.spd xM.rise xM.fall 200 := ⟨by decide, by decide, by unfold Room; decide, .inl rfl⟩
theorem x_top : topV 1000 xM = 200 := top_unique (by decide) (by decide) (top_is x_given) x_istop
theorem x_tm : tmF 1000 xM = (7, 1) := by
 unfold tmF;rw [x_top]
 decide +kernel
theorem x_len (a s m : Option Addr) : lenTo (xH a s) (highsL (xH a s)) (xC m).moves = (7, 1) := by
 show moreF (tmF (moveD (xH a s) (highsL (xH a s)) xM) xM) (0, 1) = (7, 1);rw [show moveD (xH a s) (highsL (xH a s)) xM = 1000 from rfl, x_tm]
 decide +kernel
theorem x_lens (a s m c : Option Addr) : planN (xH a s) (xT m c) = [7000] := by
 unfold planN lensL;rw [show (xT m c).cues.length = 1 from rfl, show List.range 1 = [0] from rfl, List.map_cons, List.map_nil];show [msF (lenTo (xH a s) (highsL (xH a s)) (xC m).moves)] = _;rw [x_len]
 decide +kernel
theorem x_starts (m c : Option Addr) : startsP (xT m c).cues (xT m c).pairs [7000] [2000] = ([2000], 0) := by
 rfl
theorem x_planE (a s m c : Option Addr) : planE (xH a s) (xT m c) [2000] = 0 := by
 unfold planE;rw [if_pos (sheetB_iff.2 (x_sheet a s m c)), x_lens, x_starts]
theorem x_planS (a s m c : Option Addr) : planS (xH a s) (xT m c) [2000] = [2000] := by
 unfold planS;rw [x_lens, x_starts]
theorem x_begs (a s m c : Option Addr) : begsP (xH a s) (xT m c) [2000] = [(⟨#[113]⟩, 2000)] := by
 unfold begsP begsL;rw [if_pos (x_planE a s m c), x_planS]
 rfl
theorem x_ends (a s m c : Option Addr) : endsP (xH a s) (xT m c) [2000] = [9000] := by
 unfold endsP endsL;rw [if_pos (x_planE a s m c), x_planS, x_lens]
 rfl
end
section
open Go.RowKit Go.Shelf
theorem sub_all (an ad bn bd : Int) (va : validF an ad = true) (vb : validF bn bd = true) (w : World) :
  Calls Tryz.prog 102 #[.agg #[.int .i64 an, .int .i64 ad], .agg #[.int .i64 bn, .int .i64 bd]] w fun e w' => e = .returned (.tuple #[.agg #[.int .i64 (addP an ad (-bn) bd).1, .int .i64 (addP an ad (-bn) bd).2.1], .int .i64 (addP an ad (-bn) bd).2.2]) ∧ Below w.heap.size w w' := by
 obtain ⟨P, hP⟩ := nm (addP an ad (-bn) bd);have HPP := lh hP;rw [hP];clear hP;obtain ⟨b1, b2, b3, b4, b5⟩ := (validF_iff _ _).1 vb;have wn : IntKind.i64.wrap (-bn) = -bn := IntWalk.i64_in _ (by omega);have HVA := lh va;have HVB := lh vb;have HC := lh (add_all an ad (-bn) bd va (valid_neg vb));clear va vb b5
 go_enter Tryz.func102, Tryz.ntmps102
 go_wp2_with (first
  | (go_at_call 68; (with_reducible refine (valid_any an ad _).mono ?_); rintro e w1 ⟨rfl, hb1⟩; rw [HVA.out]; have z0 : w1.cell? ⟨w.heap.size, 0, none⟩ = some (.int .i64 an) := (hb1.cell (p := ⟨w.heap.size, 0, none⟩) (by simp <;> omega)).trans (by simp [go_sem, World.cell?_alloc_past]); have z1 : w1.cell? ⟨w.heap.size, 1, none⟩ = some (.int .i64 ad) := (hb1.cell (p := ⟨w.heap.size, 1, none⟩) (by simp <;> omega)).trans (by simp [go_sem, World.cell?_alloc_past]); have z2 : w1.cell? ⟨w.heap.size + 1, 0, none⟩ = some (.int .i64 bn) := (hb1.cell (p := ⟨w.heap.size + 1, 0, none⟩) (by simp <;> omega)).trans (by simp [go_sem, World.cell?_alloc_past]); have z3 : w1.cell? ⟨w.heap.size + 1, 1, none⟩ = some (.int .i64 bd) := (hb1.cell (p := ⟨w.heap.size + 1, 1, none⟩) (by simp <;> omega)).trans (by simp [go_sem, World.cell?_alloc_past]))
  | (go_at_call 68; (with_reducible refine (valid_any bn bd _).mono ?_); rintro e w2 ⟨rfl, hb2⟩; rw [HVB.out]; have z4 : w2.cell? ⟨w.heap.size, 0, none⟩ = some (.int .i64 an) := (hb2.cell (p := ⟨w.heap.size, 0, none⟩) (wl z0)).trans z0; have z5 : w2.cell? ⟨w.heap.size, 1, none⟩ = some (.int .i64 ad) := (hb2.cell (p := ⟨w.heap.size, 1, none⟩) (wl z1)).trans z1; have z6 : w2.cell? ⟨w.heap.size + 1, 0, none⟩ = some (.int .i64 bn) := (hb2.cell (p := ⟨w.heap.size + 1, 0, none⟩) (wl z2)).trans z2; have z7 : w2.cell? ⟨w.heap.size + 1, 1, none⟩ = some (.int .i64 bd) := (hb2.cell (p := ⟨w.heap.size + 1, 1, none⟩) (wl z3)).trans z3)
  | (go_at_call 124; (with_reducible refine (HC.out _).mono ?_); rintro e w3 ⟨rfl, hb3⟩; rw [HPP.out]; have hb4 := hb1.trans ((hb2.trans (hb3.mono hb2.size)).mono hb1.size); have l4 : w3.cell? ⟨w.heap.size + 1 + 1, 0, none⟩ = some (.int .i64 0) := (hb4.cell (p := ⟨w.heap.size + 1 + 1, 0, none⟩) (by simp <;> omega)).trans (by simp [go_sem]); have l5 : w3.cell? ⟨w.heap.size + 1 + 1, 1, none⟩ = some (.int .i64 0) := (hb4.cell (p := ⟨w.heap.size + 1 + 1, 1, none⟩) (by simp <;> omega)).trans (by simp [go_sem]); have l6 : w3.frozen? ⟨w.heap.size + 1 + 1, 0, none⟩ = false := (hb4.frozen (p := ⟨w.heap.size + 1 + 1, 0, none⟩) (by simp <;> omega)).trans (by simp [go_sem]); have l7 : w3.frozen? ⟨w.heap.size + 1 + 1, 1, none⟩ = false := (hb4.frozen (p := ⟨w.heap.size + 1 + 1, 1, none⟩) (by simp <;> omega)).trans (by simp [go_sem])))
 have s2 := (two_cells (v0 := .int .i64 P.1) (v1 := .int .i64 P.2.1) l4 l5).1;have s3 := (two_cells (v0 := .int .i64 P.1) (v1 := .int .i64 P.2.1) l4 l5).2;refine bodyPost_ret (v := .tuple #[.agg #[.int .i64 P.1, .int .i64 P.2.1], .int .i64 P.2.2]) (by simp [results, Tryz.results102, go_sem, s2, s3]) rfl ⟨rfl, ?_⟩;have hBW := (((below_new w (.cells #[.int .i64 an, .int .i64 ad] 49)).alloc (by simp) (.cells #[.int .i64 bn, .int .i64 bd] 49)).alloc (by simp <;> omega) (.cells #[.int .i64 0, .int .i64 0] 49)).trans (hb4.mono (by simp <;> omega));exact (hBW.setCell (p := ⟨w.heap.size + 1 + 1, 0, none⟩) (by simp <;> omega) _).setCell (p := ⟨w.heap.size + 1 + 1, 1, none⟩) (by simp <;> omega) _
theorem qzero_any (w : World) : Calls Tryz.prog 61 #[] w fun e w' => e = .returned (.agg #[.int .i64 0, .int .i64 1]) ∧ Below w.heap.size w w' := by
 go_enter Tryz.func61, Tryz.ntmps61
 go_wp2_with fail
 refine bodyPost_ret (v := .agg #[.int .i64 0, .int .i64 1]) (by simp [results, Tryz.results61, go_sem]) rfl ⟨rfl, ?_⟩;exact below_new _ _
theorem qkeep_any (b : Nat) (e n d er : Int) (w : World) (hc : w.cell? ⟨b, 0, none⟩ = some (.int .i64 e)) (hf : w.frozen? ⟨b, 0, none⟩ = false) :
  Calls Tryz.prog 101 #[.pointer (some ⟨b, 0, none⟩), .agg #[.int .i64 n, .int .i64 d], .int .i64 er] w fun x w' => x = .returned (.agg #[.int .i64 (kp e (n, d, er)).1.1, .int .i64 (kp e (n, d, er)).1.2]) ∧ Sm b (kp e (n, d, er)).2 w w' := by
 have hb : b < w.heap.size := wl hc;have hsz : (w.alloc (.cells #[.int .i64 n, .int .i64 d] 49)).heap.size = w.heap.size + 1 := by simp
 by_cases z : er = 0
 ·have HR : Hid (kp e (n, d, er) = ((n, d), e)) := lh (by unfold kp; rw [if_pos z])
  rw [HR.out];subst z
  go_enter Tryz.func101, Tryz.ntmps101
  go_wp2_with fail
  refine bodyPost_ret (v := .agg #[.int .i64 n, .int .i64 d]) (by simp [results, Tryz.results101, go_sem]) rfl ⟨rfl, ?_⟩;exact Sm.of ((below_new w _).alloc (by simp) _) hc hf
 ·have z1 : (er == 0) = false := beq_eq_false_iff_ne.2 z
  have z2 : (er != 0) = true := by simpa using z
  by_cases y : e = 0
  ·have HR : Hid (kp e (n, d, er) = ((0, 1), er)) := lh (by unfold kp; rw [if_neg z, if_pos y])
   rw [HR.out];subst y;clear z
   go_enter Tryz.func101, Tryz.ntmps101
   go_wp2_with (go_at_call 61; (with_reducible refine (qzero_any _).mono ?_); rintro x w1 ⟨rfl, hb1⟩; have c0 : w1.cell? ⟨w.heap.size + 1, 0, none⟩ = some (.int .i64 0) := (hb1.cell (p := ⟨w.heap.size + 1, 0, none⟩) (by simp <;> omega)).trans (by simp [go_sem]); have c1 : w1.cell? ⟨w.heap.size + 1, 1, none⟩ = some (.int .i64 0) := (hb1.cell (p := ⟨w.heap.size + 1, 1, none⟩) (by simp <;> omega)).trans (by simp [go_sem]); have c2 : w1.frozen? ⟨w.heap.size + 1, 0, none⟩ = false := (hb1.frozen (p := ⟨w.heap.size + 1, 0, none⟩) (by simp <;> omega)).trans (by simp [go_sem]); have c3 : w1.frozen? ⟨w.heap.size + 1, 1, none⟩ = false := (hb1.frozen (p := ⟨w.heap.size + 1, 1, none⟩) (by simp <;> omega)).trans (by simp [go_sem]))
   have l0 := (two_cells (v0 := .int .i64 0) (v1 := .int .i64 1) c0 c1).1;have l1 := (two_cells (v0 := .int .i64 0) (v1 := .int .i64 1) c0 c1).2;refine bodyPost_ret (v := .agg #[.int .i64 0, .int .i64 1]) (by simp [results, Tryz.results101, go_sem, l0, l1]) rfl ⟨rfl, ?_⟩;have k1 := (((Sm.set er hc hf).alloc (.cells #[.int .i64 n, .int .i64 d] 49)).alloc (.cells #[.int .i64 0, .int .i64 0] 49)).then hb1
   exact (k1.setCell (p := ⟨w.heap.size + 1, 0, none⟩) (Nat.le_succ _) hb _).setCell (p := ⟨w.heap.size + 1, 1, none⟩) (Nat.le_succ _) hb _
  ·have y1 : (e == 0) = false := beq_eq_false_iff_ne.2 y
   have HR : Hid (kp e (n, d, er) = ((0, 1), e)) := lh (by unfold kp; rw [if_neg z, if_neg y]);rw [HR.out];clear y z
   go_enter Tryz.func101, Tryz.ntmps101
   go_wp2_with (go_at_call 61; (with_reducible refine (qzero_any _).mono ?_); rintro x w1 ⟨rfl, hb1⟩; have c0 : w1.cell? ⟨w.heap.size + 1, 0, none⟩ = some (.int .i64 0) := (hb1.cell (p := ⟨w.heap.size + 1, 0, none⟩) (by simp <;> omega)).trans (by simp [go_sem]); have c1 : w1.cell? ⟨w.heap.size + 1, 1, none⟩ = some (.int .i64 0) := (hb1.cell (p := ⟨w.heap.size + 1, 1, none⟩) (by simp <;> omega)).trans (by simp [go_sem]); have c2 : w1.frozen? ⟨w.heap.size + 1, 0, none⟩ = false := (hb1.frozen (p := ⟨w.heap.size + 1, 0, none⟩) (by simp <;> omega)).trans (by simp [go_sem]); have c3 : w1.frozen? ⟨w.heap.size + 1, 1, none⟩ = false := (hb1.frozen (p := ⟨w.heap.size + 1, 1, none⟩) (by simp <;> omega)).trans (by simp [go_sem]))
   have l0 := (two_cells (v0 := .int .i64 0) (v1 := .int .i64 1) c0 c1).1;have l1 := (two_cells (v0 := .int .i64 0) (v1 := .int .i64 1) c0 c1).2;refine bodyPost_ret (v := .agg #[.int .i64 0, .int .i64 1]) (by simp [results, Tryz.results101, go_sem, l0, l1]) rfl ⟨rfl, ?_⟩;have k0 : Below w.heap.size w ((w.alloc (.cells #[.int .i64 n, .int .i64 d] 49)).alloc (.cells #[.int .i64 0, .int .i64 0] 49)) := (below_new _ _).alloc (by simp) _;have k1 := k0.trans (hb1.mono k0.size);exact Sm.of ((k1.setCell (p := ⟨w.heap.size + 1, 0, none⟩) (Nat.le_succ _) _).setCell (p := ⟨w.heap.size + 1, 1, none⟩) (Nat.le_succ _) _) hc hf
theorem kadd_any (b : Nat) (e : Int) (x y : Int × Int) (hx : vF x = true) (hy : vF y = true) (w : World) (hc : w.cell? ⟨b, 0, none⟩ = some (.int .i64 e)) (hf : w.frozen? ⟨b, 0, none⟩ = false) :
  Calls Tryz.prog 103 #[.pointer (some ⟨b, 0, none⟩), .agg #[.int .i64 x.1, .int .i64 x.2], .agg #[.int .i64 y.1, .int .i64 y.2]] w fun z w' => z = .returned (.agg #[.int .i64 (kAdd e x y).1.1, .int .i64 (kAdd e x y).1.2]) ∧ Sm b (kAdd e x y).2 w w' := by
 obtain ⟨an, ad⟩ := x;obtain ⟨bn, bd⟩ := y;have hb : b < w.heap.size := wl hc;obtain ⟨P, hP⟩ := nm (addP an ad bn bd)
 have HC : Hid (∀ w : World, Calls Tryz.prog 124 #[.agg #[.int .i64 an, .int .i64 ad], .agg #[.int .i64 bn, .int .i64 bd]] w fun e w' => e = .returned (.tuple #[.agg #[.int .i64 P.1, .int .i64 P.2.1], .int .i64 P.2.2]) ∧ Below w.heap.size w w') := lh fun w => by
  have := add_all an ad bn bd hx hy w
  rwa [hP] at this
 have HR : Hid (kAdd e (an, ad) (bn, bd) = kp e (P.1, P.2.1, P.2.2)) := lh (by unfold kAdd; rw [hP]);rw [HR.out];clear hP hx hy;generalize hK : kp e (P.1, P.2.1, P.2.2) = K;have HK := lh hK;clear hK
 go_enter Tryz.func103, Tryz.ntmps103
 go_wp2_with (first
  | (go_at_call 124; (with_reducible refine (HC.out _).mono ?_); rintro x w1 ⟨rfl, hb1⟩; have k0 : Below w.heap.size w w1 := (((below_new w (.cells #[.int .i64 an, .int .i64 ad] 49)).alloc (by simp) (.cells #[.int .i64 bn, .int .i64 bd] 49)).alloc (by simp <;> omega) (.cells #[.int .i64 0, .int .i64 0] 49)).trans (hb1.mono (by simp <;> omega)); have q0 : w1.cell? ⟨w.heap.size + 1 + 1, 0, none⟩ = some (.int .i64 0) := (hb1.cell (p := ⟨w.heap.size + 1 + 1, 0, none⟩) (by simp <;> omega)).trans (by simp [go_sem]); have q1 : w1.cell? ⟨w.heap.size + 1 + 1, 1, none⟩ = some (.int .i64 0) := (hb1.cell (p := ⟨w.heap.size + 1 + 1, 1, none⟩) (by simp <;> omega)).trans (by simp [go_sem]); have q2 : w1.frozen? ⟨w.heap.size + 1 + 1, 0, none⟩ = false := (hb1.frozen (p := ⟨w.heap.size + 1 + 1, 0, none⟩) (by simp <;> omega)).trans (by simp [go_sem]); have q3 : w1.frozen? ⟨w.heap.size + 1 + 1, 1, none⟩ = false := (hb1.frozen (p := ⟨w.heap.size + 1 + 1, 1, none⟩) (by simp <;> omega)).trans (by simp [go_sem]); have q4 : w.heap.size + 1 + 1 < w1.heap.size := wl q0)
  | (go_at_call 101; (with_reducible refine (qkeep_any b e P.1 P.2.1 P.2.2 _ ((k0.cell (p := ⟨b, 0, none⟩) hb).trans hc) ((k0.frozen (p := ⟨b, 0, none⟩) hb).trans hf)).mono ?_); rintro x w2 ⟨rfl, hs2⟩; rw [HK.out] at hs2 ⊢; have r0 := (hs2.other (p := ⟨w.heap.size + 1 + 1, 0, none⟩) q4 (by simp <;> omega)).trans q0; have r1 := (hs2.other (p := ⟨w.heap.size + 1 + 1, 1, none⟩) q4 (by simp <;> omega)).trans q1; have r2 := (hs2.otherF (p := ⟨w.heap.size + 1 + 1, 0, none⟩) q4 (by simp <;> omega)).trans q2; have r3 := (hs2.otherF (p := ⟨w.heap.size + 1 + 1, 1, none⟩) q4 (by simp <;> omega)).trans q3))
 have l0 := (two_cells (v0 := .int .i64 K.1.1) (v1 := .int .i64 K.1.2) r0 r1).1;have l1 := (two_cells (v0 := .int .i64 K.1.1) (v1 := .int .i64 K.1.2) r0 r1).2;refine bodyPost_ret (v := .agg #[.int .i64 K.1.1, .int .i64 K.1.2]) (by simp [results, Tryz.results103, go_sem, l0, l1]) rfl ⟨rfl, ?_⟩;exact ((Sm.from k0 hb hs2).setCell (p := ⟨w.heap.size + 1 + 1, 0, none⟩) (by simp <;> omega) hb _).setCell (p := ⟨w.heap.size + 1 + 1, 1, none⟩) (by simp <;> omega) hb _
theorem ksub_any (b : Nat) (e : Int) (x y : Int × Int) (hx : vF x = true) (hy : vF y = true) (w : World) (hc : w.cell? ⟨b, 0, none⟩ = some (.int .i64 e)) (hf : w.frozen? ⟨b, 0, none⟩ = false) :
  Calls Tryz.prog 62 #[.pointer (some ⟨b, 0, none⟩), .agg #[.int .i64 x.1, .int .i64 x.2], .agg #[.int .i64 y.1, .int .i64 y.2]] w fun z w' => z = .returned (.agg #[.int .i64 (kSub e x y).1.1, .int .i64 (kSub e x y).1.2]) ∧ Sm b (kSub e x y).2 w w' := by
 obtain ⟨an, ad⟩ := x;obtain ⟨bn, bd⟩ := y;have hb : b < w.heap.size := wl hc;obtain ⟨P, hP⟩ := nm (addP an ad (-bn) bd)
 have HC : Hid (∀ w : World, Calls Tryz.prog 102 #[.agg #[.int .i64 an, .int .i64 ad], .agg #[.int .i64 bn, .int .i64 bd]] w fun e w' => e = .returned (.tuple #[.agg #[.int .i64 P.1, .int .i64 P.2.1], .int .i64 P.2.2]) ∧ Below w.heap.size w w') := lh fun w => by
  have := sub_all an ad bn bd hx hy w
  rwa [hP] at this
 have HR : Hid (kSub e (an, ad) (bn, bd) = kp e (P.1, P.2.1, P.2.2)) := lh (by unfold kSub; rw [hP]);rw [HR.out];clear hP hx hy;generalize hK : kp e (P.1, P.2.1, P.2.2) = K;have HK := lh hK;clear hK
 go_enter Tryz.func62, Tryz.ntmps62
 go_wp2_with (first
  | (go_at_call 102; (with_reducible refine (HC.out _).mono ?_); rintro x w1 ⟨rfl, hb1⟩; have k0 : Below w.heap.size w w1 := (((below_new w (.cells #[.int .i64 an, .int .i64 ad] 49)).alloc (by simp) (.cells #[.int .i64 bn, .int .i64 bd] 49)).alloc (by simp <;> omega) (.cells #[.int .i64 0, .int .i64 0] 49)).trans (hb1.mono (by simp <;> omega)); have q0 : w1.cell? ⟨w.heap.size + 1 + 1, 0, none⟩ = some (.int .i64 0) := (hb1.cell (p := ⟨w.heap.size + 1 + 1, 0, none⟩) (by simp <;> omega)).trans (by simp [go_sem]); have q1 : w1.cell? ⟨w.heap.size + 1 + 1, 1, none⟩ = some (.int .i64 0) := (hb1.cell (p := ⟨w.heap.size + 1 + 1, 1, none⟩) (by simp <;> omega)).trans (by simp [go_sem]); have q2 : w1.frozen? ⟨w.heap.size + 1 + 1, 0, none⟩ = false := (hb1.frozen (p := ⟨w.heap.size + 1 + 1, 0, none⟩) (by simp <;> omega)).trans (by simp [go_sem]); have q3 : w1.frozen? ⟨w.heap.size + 1 + 1, 1, none⟩ = false := (hb1.frozen (p := ⟨w.heap.size + 1 + 1, 1, none⟩) (by simp <;> omega)).trans (by simp [go_sem]); have q4 : w.heap.size + 1 + 1 < w1.heap.size := wl q0)
  | (go_at_call 101; (with_reducible refine (qkeep_any b e P.1 P.2.1 P.2.2 _ ((k0.cell (p := ⟨b, 0, none⟩) hb).trans hc) ((k0.frozen (p := ⟨b, 0, none⟩) hb).trans hf)).mono ?_); rintro x w2 ⟨rfl, hs2⟩; rw [HK.out] at hs2 ⊢; have r0 := (hs2.other (p := ⟨w.heap.size + 1 + 1, 0, none⟩) q4 (by simp <;> omega)).trans q0; have r1 := (hs2.other (p := ⟨w.heap.size + 1 + 1, 1, none⟩) q4 (by simp <;> omega)).trans q1; have r2 := (hs2.otherF (p := ⟨w.heap.size + 1 + 1, 0, none⟩) q4 (by simp <;> omega)).trans q2; have r3 := (hs2.otherF (p := ⟨w.heap.size + 1 + 1, 1, none⟩) q4 (by simp <;> omega)).trans q3))
 have l0 := (two_cells (v0 := .int .i64 K.1.1) (v1 := .int .i64 K.1.2) r0 r1).1;have l1 := (two_cells (v0 := .int .i64 K.1.1) (v1 := .int .i64 K.1.2) r0 r1).2;refine bodyPost_ret (v := .agg #[.int .i64 K.1.1, .int .i64 K.1.2]) (by simp [results, Tryz.results62, go_sem, l0, l1]) rfl ⟨rfl, ?_⟩;exact ((Sm.from k0 hb hs2).setCell (p := ⟨w.heap.size + 1 + 1, 0, none⟩) (by simp <;> omega) hb _).setCell (p := ⟨w.heap.size + 1 + 1, 1, none⟩) (by simp <;> omega) hb _
theorem kmul_any (b : Nat) (e : Int) (x y : Int × Int) (hx : vF x = true) (hy : vF y = true) (w : World) (hc : w.cell? ⟨b, 0, none⟩ = some (.int .i64 e)) (hf : w.frozen? ⟨b, 0, none⟩ = false) :
  Calls Tryz.prog 104 #[.pointer (some ⟨b, 0, none⟩), .agg #[.int .i64 x.1, .int .i64 x.2], .agg #[.int .i64 y.1, .int .i64 y.2]] w fun z w' => z = .returned (.agg #[.int .i64 (kMul e x y).1.1, .int .i64 (kMul e x y).1.2]) ∧ Sm b (kMul e x y).2 w w' := by
 obtain ⟨an, ad⟩ := x;obtain ⟨bn, bd⟩ := y;have hb : b < w.heap.size := wl hc;obtain ⟨P, hP⟩ := nm (mulP an ad bn bd)
 have HC : Hid (∀ w : World, Calls Tryz.prog 75 #[.agg #[.int .i64 an, .int .i64 ad], .agg #[.int .i64 bn, .int .i64 bd]] w fun e w' => e = .returned (.tuple #[.agg #[.int .i64 P.1, .int .i64 P.2.1], .int .i64 P.2.2]) ∧ Below w.heap.size w w') := lh fun w => by
  have := mul_any an ad bn bd hx hy w
  rwa [hP] at this
 have HR : Hid (kMul e (an, ad) (bn, bd) = kp e (P.1, P.2.1, P.2.2)) := lh (by unfold kMul; rw [hP]);rw [HR.out];clear hP hx hy;generalize hK : kp e (P.1, P.2.1, P.2.2) = K;have HK := lh hK;clear hK
 go_enter Tryz.func104, Tryz.ntmps104
 go_wp2_with (first
  | (go_at_call 75; (with_reducible refine (HC.out _).mono ?_); rintro x w1 ⟨rfl, hb1⟩; have k0 : Below w.heap.size w w1 := (((below_new w (.cells #[.int .i64 an, .int .i64 ad] 49)).alloc (by simp) (.cells #[.int .i64 bn, .int .i64 bd] 49)).alloc (by simp <;> omega) (.cells #[.int .i64 0, .int .i64 0] 49)).trans (hb1.mono (by simp <;> omega)); have q0 : w1.cell? ⟨w.heap.size + 1 + 1, 0, none⟩ = some (.int .i64 0) := (hb1.cell (p := ⟨w.heap.size + 1 + 1, 0, none⟩) (by simp <;> omega)).trans (by simp [go_sem]); have q1 : w1.cell? ⟨w.heap.size + 1 + 1, 1, none⟩ = some (.int .i64 0) := (hb1.cell (p := ⟨w.heap.size + 1 + 1, 1, none⟩) (by simp <;> omega)).trans (by simp [go_sem]); have q2 : w1.frozen? ⟨w.heap.size + 1 + 1, 0, none⟩ = false := (hb1.frozen (p := ⟨w.heap.size + 1 + 1, 0, none⟩) (by simp <;> omega)).trans (by simp [go_sem]); have q3 : w1.frozen? ⟨w.heap.size + 1 + 1, 1, none⟩ = false := (hb1.frozen (p := ⟨w.heap.size + 1 + 1, 1, none⟩) (by simp <;> omega)).trans (by simp [go_sem]); have q4 : w.heap.size + 1 + 1 < w1.heap.size := wl q0)
  | (go_at_call 101; (with_reducible refine (qkeep_any b e P.1 P.2.1 P.2.2 _ ((k0.cell (p := ⟨b, 0, none⟩) hb).trans hc) ((k0.frozen (p := ⟨b, 0, none⟩) hb).trans hf)).mono ?_); rintro x w2 ⟨rfl, hs2⟩; rw [HK.out] at hs2 ⊢; have r0 := (hs2.other (p := ⟨w.heap.size + 1 + 1, 0, none⟩) q4 (by simp <;> omega)).trans q0; have r1 := (hs2.other (p := ⟨w.heap.size + 1 + 1, 1, none⟩) q4 (by simp <;> omega)).trans q1; have r2 := (hs2.otherF (p := ⟨w.heap.size + 1 + 1, 0, none⟩) q4 (by simp <;> omega)).trans q2; have r3 := (hs2.otherF (p := ⟨w.heap.size + 1 + 1, 1, none⟩) q4 (by simp <;> omega)).trans q3))
 have l0 := (two_cells (v0 := .int .i64 K.1.1) (v1 := .int .i64 K.1.2) r0 r1).1;have l1 := (two_cells (v0 := .int .i64 K.1.1) (v1 := .int .i64 K.1.2) r0 r1).2;refine bodyPost_ret (v := .agg #[.int .i64 K.1.1, .int .i64 K.1.2]) (by simp [results, Tryz.results104, go_sem, l0, l1]) rfl ⟨rfl, ?_⟩;exact ((Sm.from k0 hb hs2).setCell (p := ⟨w.heap.size + 1 + 1, 0, none⟩) (by simp <;> omega) hb _).setCell (p := ⟨w.heap.size + 1 + 1, 1, none⟩) (by simp <;> omega) hb _
end
end Go.Proofs.YtebofaenlhhkaaaGreat
