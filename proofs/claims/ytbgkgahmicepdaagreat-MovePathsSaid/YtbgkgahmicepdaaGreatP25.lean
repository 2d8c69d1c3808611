/-
  PLAIN LAWS over any program: a slice of pieces in a block of the call's own, written element by element.
-/
import Derived.BigRegion
import Derived.Test.YtbgkgahmicepdaaGreatP24
namespace Go.Proofs.YtbgkgahmicepdaaGreat
set_option maxRecDepth 100000
set_option maxHeartbeats 80000000
set_option linter.unusedSimpArgs false
section
open Go.RowKit Go.Shelf
attribute [local go_sem] Oper.semAt_some
structure Rowz (w : World) (b : Nat) (M : List Pc) : Prop where
 cells : ∀ i, i < M.length → w.cell? ⟨b, i * 8, none⟩ = some (.int .i64 (pcg M i).f0) ∧ w.cell? ⟨b, i * 8 + 1, none⟩ = some (.int .i64 (pcg M i).f1) ∧ w.cell? ⟨b, i * 8 + 2, none⟩ = some (.int .i64 (pcg M i).a0) ∧ w.cell? ⟨b, i * 8 + 3, none⟩ = some (.int .i64 (pcg M i).a1) ∧ w.cell? ⟨b, i * 8 + 4, none⟩ = some (.int .i64 (pcg M i).b0) ∧ w.cell? ⟨b, i * 8 + 5, none⟩ = some (.int .i64 (pcg M i).b1) ∧ w.cell? ⟨b, i * 8 + 6, none⟩ = some (.int .i64 (pcg M i).c0) ∧ w.cell? ⟨b, i * 8 + 7, none⟩ = some (.int .i64 (pcg M i).c1)
 free : ∀ o, w.frozen? ⟨b, o, none⟩ = false
 lt : b < w.heap.size
theorem Rowz.carry {w w' : World} {b : Nat} {M : List Pc} (h : Rowz w b M) (hb : Below w.heap.size w w') : Rowz w' b M :=
 ⟨fun i hi => by
  obtain ⟨c0, c1, c2, c3, c4, c5, c6, c7⟩ := h.cells i hi;exact ⟨(hb.cell (p := ⟨b, _, none⟩) h.lt).trans c0, (hb.cell (p := ⟨b, _, none⟩) h.lt).trans c1, (hb.cell (p := ⟨b, _, none⟩) h.lt).trans c2, (hb.cell (p := ⟨b, _, none⟩) h.lt).trans c3, (hb.cell (p := ⟨b, _, none⟩) h.lt).trans c4, (hb.cell (p := ⟨b, _, none⟩) h.lt).trans c5, (hb.cell (p := ⟨b, _, none⟩) h.lt).trans c6, (hb.cell (p := ⟨b, _, none⟩) h.lt).trans c7⟩, fun o => (hb.frozen (p := ⟨b, o, none⟩) h.lt).trans (h.free o), Nat.lt_of_lt_of_le h.lt hb.size⟩
theorem beyond_from : ∀ (vs : List Value) (w : World) (b j i : Nat), j + vs.length ≤ i → (setFrom w b j vs).cell? ⟨b, i, none⟩ = w.cell? ⟨b, i, none⟩
 | [], _, _, _, _, _ => rfl
 | v :: vs, w, b, j, i, h => by
  simp only [List.length_cons] at h;exact (beyond_from vs _ b (j + 1) i (by omega)).trans (World.cell?_setCell_other _ _ _ _ (by intro q; injection q with _ q; omega))
theorem frozen_from : ∀ (vs : List Value) (w : World) (b j : Nat) (a : Addr), (setFrom w b j vs).frozen? a = w.frozen? a
 | [], _, _, _, _ => rfl
 | v :: vs, w, b, j, a => (frozen_from vs _ b (j + 1) a).trans (by simp)
theorem size_from : ∀ (vs : List Value) (w : World) (b j : Nat), (setFrom w b j vs).heap.size = w.heap.size
 | [], _, _, _ => rfl
 | v :: vs, w, b, j => (size_from vs _ b (j + 1)).trans (by simp [World.setCell])
theorem pcg_set {M : List Pc} {k i : Nat} {q : Pc} (hk : k < M.length) : pcg (M.set k q) i = if i = k then q else pcg M i := by
 unfold pcg
 by_cases e : i = k
 ·subst e
  rw [if_pos rfl, List.getElem?_set_self hk]
  rfl
 ·rw [if_neg e, List.getElem?_set_ne (fun x => e x.symm)]
theorem Rowz.set {w : World} {b k : Nat} {M : List Pc} (h : Rowz w b M) (hk : k < M.length) (q : Pc) : Rowz (setFrom w b (k * 8) [.int .i64 q.f0, .int .i64 q.f1, .int .i64 q.a0, .int .i64 q.a1, .int .i64 q.b0, .int .i64 q.b1, .int .i64 q.c0, .int .i64 q.c1]) b (M.set k q) := by
 have hs : ∀ i, i < ([.int .i64 q.f0, .int .i64 q.f1, .int .i64 q.a0, .int .i64 q.a1, .int .i64 q.b0, .int .i64 q.b1, .int .i64 q.c0, .int .i64 q.c1] : List Value).length → (w.cell? ⟨b, k * 8 + i, none⟩).isSome = true := by
  intro i hi;have hi' : i < 8 := hi;obtain ⟨c0, c1, c2, c3, c4, c5, c6, c7⟩ := h.cells k hk;obtain rfl | rfl | rfl | rfl | rfl | rfl | rfl | rfl : i = 0 ∨ i = 1 ∨ i = 2 ∨ i = 3 ∨ i = 4 ∨ i = 5 ∨ i = 6 ∨ i = 7 := by omega
  ·rw [Nat.add_zero, c0]; rfl
  ·rw [c1]; rfl
  ·rw [c2]; rfl
  ·rw [c3]; rfl
  ·rw [c4]; rfl
  ·rw [c5]; rfl
  ·rw [c6]; rfl
  ·rw [c7]; rfl
 have r := read_from ([.int .i64 q.f0, .int .i64 q.f1, .int .i64 q.a0, .int .i64 q.a1, .int .i64 q.b0, .int .i64 q.b1, .int .i64 q.c0, .int .i64 q.c1] : List Value) w b (k * 8) hs;refine ⟨fun i hi => ?_, fun o => (frozen_from _ _ _ _ _).trans (h.free o), by rw [size_from]; exact h.lt⟩;rw [List.length_set] at hi;rw [pcg_set hk]
 by_cases e : i = k
 ·subst e
  simp only [if_true];exact ⟨r 0 (by simp), r 1 (by simp), r 2 (by simp), r 3 (by simp), r 4 (by simp), r 5 (by simp), r 6 (by simp), r 7 (by simp)⟩
 ·simp only [if_neg e]
  obtain ⟨c0, c1, c2, c3, c4, c5, c6, c7⟩ := h.cells i hi
  have same : ∀ o, i * 8 ≤ o → o < i * 8 + 8 → (setFrom w b (k * 8) [.int .i64 q.f0, .int .i64 q.f1, .int .i64 q.a0, .int .i64 q.a1, .int .i64 q.b0, .int .i64 q.b1, .int .i64 q.c0, .int .i64 q.c1]).cell? ⟨b, o, none⟩ = w.cell? ⟨b, o, none⟩ := fun o h1 h2 => by
   rcases Nat.lt_or_ge o (k * 8) with l | l
   ·exact far_from _ _ _ _ _ l
   ·exact beyond_from _ _ _ _ _ (by simp only [List.length_cons, List.length_nil]; omega)
  exact ⟨(same _ (by omega) (by omega)).trans c0, (same _ (by omega) (by omega)).trans c1, (same _ (by omega) (by omega)).trans c2, (same _ (by omega) (by omega)).trans c3, (same _ (by omega) (by omega)).trans c4, (same _ (by omega) (by omega)).trans c5, (same _ (by omega) (by omega)).trans c6, (same _ (by omega) (by omega)).trans c7⟩
theorem Rowz.pcs {w : World} {b : Nat} {M : List Pc} (h : Rowz w b M) : Pcs w.heap.size w (some ⟨b, 0, none⟩) M := fun _ => by
 refine ⟨b, 0, rfl, h.lt, fun i hi => ?_⟩;have := h.cells i hi
 simpa only [Nat.zero_add] using this
theorem made_zero (n o : Nat) (h : o < n * 8) : (madeCells #[.int .i64 0, .int .i64 0, .int .i64 0, .int .i64 0, .int .i64 0, .int .i64 0, .int .i64 0, .int .i64 0] (n * 8))[o]? = some (.int .i64 0) := by
 unfold madeCells;rw [Array.getElem?_map, Array.getElem?_range, if_pos h];have hm : o % 8 < 8 := Nat.mod_lt _ (by decide);show some ((#[.int .i64 0, .int .i64 0, .int .i64 0, .int .i64 0, .int .i64 0, .int .i64 0, .int .i64 0, .int .i64 0] : Array Value)[o % 8]!) = _;obtain e | e | e | e | e | e | e | e : o % 8 = 0 ∨ o % 8 = 1 ∨ o % 8 = 2 ∨ o % 8 = 3 ∨ o % 8 = 4 ∨ o % 8 = 5 ∨ o % 8 = 6 ∨ o % 8 = 7 := by omega
 all_goals rw [e]; rfl
theorem Rowz.new (w : World) (n : Nat) (t : TypeId) : Rowz (w.alloc (.cells (madeCells #[.int .i64 0, .int .i64 0, .int .i64 0, .int .i64 0, .int .i64 0, .int .i64 0, .int .i64 0, .int .i64 0] (n * 8)) t)) w.heap.size (List.replicate n ⟨0, 0, 0, 0, 0, 0, 0, 0⟩) := by
 have c : ∀ o, o < n * 8 → (w.alloc (.cells (madeCells #[.int .i64 0, .int .i64 0, .int .i64 0, .int .i64 0, .int .i64 0, .int .i64 0, .int .i64 0, .int .i64 0] (n * 8)) t)).cell? ⟨w.heap.size, o, none⟩ = some (.int .i64 0) := fun o ho => by
  rw [cell_of_row _ _ o _ t (0, 0) (heap_alloc_new _ _)];exact made_zero n o ho
 refine ⟨fun i hi => ?_, fun o => by simp, by simp⟩;rw [List.length_replicate] at hi
 have e : pcg (List.replicate n (⟨0, 0, 0, 0, 0, 0, 0, 0⟩ : Pc)) i = ⟨0, 0, 0, 0, 0, 0, 0, 0⟩ := by
  unfold pcg;rw [List.getElem?_replicate, if_pos hi]
  rfl
 rw [e];exact ⟨c _ (by omega), c _ (by omega), c _ (by omega), c _ (by omega), c _ (by omega), c _ (by omega), c _ (by omega), c _ (by omega)⟩
def mixL (P : List Pc) (k : Nat) : List Pc := (List.range P.length).map fun i => if i < k then pcg P i else ⟨0, 0, 0, 0, 0, 0, 0, 0⟩
theorem mix_len (P : List Pc) (k : Nat) : (mixL P k).length = P.length := by simp [mixL]
theorem mix_at {P : List Pc} {k i : Nat} (h : i < P.length) : pcg (mixL P k) i = if i < k then pcg P i else ⟨0, 0, 0, 0, 0, 0, 0, 0⟩ := by
 rw [pcg_eq _ i (by rw [mix_len]; exact h)]
 simp [mixL]
theorem mix_zero (P : List Pc) : mixL P 0 = List.replicate P.length ⟨0, 0, 0, 0, 0, 0, 0, 0⟩ := by
 refine List.ext_getElem (by simp [mixL]) fun i h1 h2 => ?_
 simp [mixL]
theorem mix_all (P : List Pc) : mixL P P.length = P := pcg_ext _ _ (mix_len P _) fun j hj => by
 rw [mix_len] at hj;rw [mix_at hj, if_pos hj]
theorem mix_next {P : List Pc} {k : Nat} (h : k < P.length) : (mixL P k).set k (pcg P k) = mixL P (k + 1) := pcg_ext _ _ (by rw [List.length_set, mix_len, mix_len]) fun j hj => by
 rw [List.length_set, mix_len] at hj;rw [pcg_set (by rw [mix_len]; exact h), mix_at hj, mix_at hj]
 by_cases e : j = k
 ·subst e
  rw [if_pos rfl, if_pos (Nat.lt_succ_self _)]
 ·rw [if_neg e]
  by_cases l : j < k
  ·rw [if_pos l, if_pos (by omega)]
  ·rw [if_neg l, if_neg (by omega)]
def upB (f : Int) (m : Mv) : Bool := !decide (m.to < f)
def mpL (f : Int) (m : Mv) (t : Int) : List Pc := pathL (upB f m) f (curveL (mgD f m) m.rise m.fall t)
def PathV (w' : World) (h : HouseR) (f : Int) (m : Mv) (t : Int) (v : Value) : Prop :=
 (mgE h f m = 0 → ∃ b, v = .slice (some ⟨b, 0, none⟩) (mpL f m t).length (mpL f m t).length ∧ Pcs w'.heap.size w' (some ⟨b, 0, none⟩) (mpL f m t)) ∧ (¬ mgE h f m = 0 → v = .slice none 0 0)
theorem mpath_any (h : HouseR) (f : Int) (m : Mv) (t : Int) (ht : mgE h f m = 0 → IsTop (mgD f m) m.spd m.rise m.fall t) (w : World) (hh : HouseIn w h) :
  Calls Tryz.prog 13 #[.agg #[.string h.name, .int .i64 h.height, .slice h.sa h.sets.length h.sc, .slice h.ra h.roofs.length h.rc], .int .i64 f, .agg #[.string m.name, .int .i64 m.to, .int .i64 m.spd, .int .i64 m.rise, .int .i64 m.fall]] w fun e w' => Hid (∃ v, e = .returned (.tuple #[v, .int .i64 (mgE h f m)]) ∧ PathV w' h f m t v) ∧ Below w.heap.size w w' := by
 obtain ⟨e, he⟩ := nm (mgE h f m);obtain ⟨d, hd⟩ := nm (mgR h f m);have HE := lh he
 have HG : Hid (∀ w' : World, Below w.heap.size w w' → Calls Tryz.prog 43 #[.agg #[.string h.name, .int .i64 h.height, .slice h.sa h.sets.length h.sc, .slice h.ra h.roofs.length h.rc], .int .i64 f, .agg #[.string m.name, .int .i64 m.to, .int .i64 m.spd, .int .i64 m.rise, .int .i64 m.fall]] w' fun z w2 => z = .returned (.tuple #[.int .i64 d, .int .i64 e]) ∧ Below w'.heap.size w' w2) := lh fun w' hb => by
  have := mgiven_any h f m w' (hh.grow hb);rw [hd, he] at this;exact this
 clear hh;rw [he]
 by_cases z : e = 0
 ·subst z
  obtain ⟨_, _, f0, f1, t0, t1, gd, _, _, hD⟩ := mg_ok he;have hT := ht he;have hC := Curve_any (mgD f m) m t (fun _ => hT);have hsm := curve_small gd hT;have hok := (move_c gd hT).ok;obtain rfl : mgD f m = d := hD.symm.trans hd;obtain ⟨L, hL⟩ := nm (curveL (mgD f m) m.rise m.fall t);have HLL := lh hL;have HGP := lh gd;rw [hL] at hsm hok;have HC := lh hC;obtain ⟨d, hdd⟩ := nm (mgD f m);rw [hdd] at HG HC HGP HLL;have hpos := hok.pos;have hlen := (move_c (he ▸ (mg_ok he).2.2.2.2.2.2.1) hT).len;rw [hL] at hlen;have HOK := lh hok;have HSMM := lh hsm;have hf : -1048576 ≤ f ∧ f ≤ 1048576 := by omega
  obtain ⟨i0, hi, hz0, hz1, hz2⟩ := info_parts piece_info
  have hmk : ∀ w : World, (Instr.makeSlice 41 (.int .i64 (L.length : Int)) (.int .i64 (L.length : Int))).run Tryz.prog w = .ok (.slice (some ⟨w.heap.size, 0, none⟩) L.length L.length) (w.alloc (.cells (madeCells #[.int .i64 0, .int .i64 0, .int .i64 0, .int .i64 0, .int .i64 0, .int .i64 0, .int .i64 0, .int .i64 0] (L.length * 8)) 81)) := fun w => by
   have := run_make (P := Tryz.prog) w 41 81 i0 _ Tryz.underlying41 hi hz0 .i64 .i64 (L.length : Int) (L.length : Int) (by omega) (Int.le_refl _) (by rw [hz2]; omega) (by omega);rw [hz1, Int.toNat_natCast] at this;exact this
  have HMP : Hid (mpL f m t = pathL (upB f m) f L) := lh (by unfold mpL; rw [hL]);clear hD hd ht gd hC hT hsm hok hL hz0 hz1 hz2 hi hdd
  cases hu : decide (m.to < f)
  ·have HU : Hid (upB f m = true) := lh (by unfold upB; rw [hu]; rfl)
   obtain ⟨Q, hQ⟩ := nm (pathL true f L);have hql : Q.length = L.length := by rw [← hQ, path_len]
   have HQ : Hid (mpL f m t = Q) := lh (by rw [HMP.out, HU.out, hQ])
   have HST : Hid (∀ k, k < L.length → ∀ w : World, Calls Tryz.prog 45 #[.int .i64 f, .agg #[.int .i64 (pcg L k).f0, .int .i64 (pcg L k).f1, .int .i64 (pcg L k).a0, .int .i64 (pcg L k).a1, .int .i64 (pcg L k).b0, .int .i64 (pcg L k).b1, .int .i64 (pcg L k).c0, .int .i64 (pcg L k).c1]] w fun e w' => e = .returned (.tuple #[.agg #[.int .i64 (pcg Q k).f0, .int .i64 (pcg Q k).f1, .int .i64 (pcg Q k).a0, .int .i64 (pcg Q k).a1, .int .i64 (pcg Q k).b0, .int .i64 (pcg Q k).b1, .int .i64 (pcg Q k).c0, .int .i64 (pcg Q k).c1], .int .i64 0]) ∧ Below w.heap.size w w') := lh fun k hk w => by
    have v := HOK.out.val k hk;have sm := HSMM.out k hk;have hq : pcg Q k = (upP f (pcg L k)).1 := by rw [← hQ, path_at hk]; rfl
    have := up_any f (pcg L k) (by omega) (by omega) v.a  w;rw [up_ok hf sm, ← hq] at this;exact this
   clear hQ
   go_enter Tryz.func13, Tryz.ntmps13
   go_upto_region 1 with (fail)
   have hat1 := (HouseAt.new w h 25).carry (below_new (w.alloc (LHo h)) (.cells #[.string m.name, .int .i64 m.to, .int .i64 m.spd, .int .i64 m.rise, .int .i64 m.fall] 27));have mat1 := MvAt.new (w.alloc (LHo h)) m 27;have hW0 := (below_new w (LHo h)).alloc (by simp) (.cells #[.string m.name, .int .i64 m.to, .int .i64 m.spd, .int .i64 m.rise, .int .i64 m.fall] 27);have hm1 : (w.alloc (LHo h)).heap.size = w.heap.size + 1 := by simp
   rw [hm1] at mat1;generalize ((w.alloc (LHo h)).alloc (.cells #[.string m.name, .int .i64 m.to, .int .i64 m.spd, .int .i64 m.rise, .int .i64 m.fall] 27)) = W0 at *;have HAT := lh hat1;have MAT := lh mat1;clear hat1 mat1 hm1;obtain ⟨k0, k1, k2, k3⟩ := HAT.out;obtain ⟨m0, m1, m2, m3, m4⟩ := MAT.out
   go_wp2_with (first
    | (go_at_call 43; (with_reducible refine (HG.out _ hW0).mono ?_); rintro e w1 ⟨rfl, hb1⟩; clear k0 k1 k2 k3 m0 m1 m2 m3 m4; obtain ⟨m0, m1, m2, m3, m4⟩ := MAT.out.carry hb1)
    | (go_at_call 44; (with_reducible refine (HC.out _).mono ?_); rintro e w2 ⟨hv, hb2⟩; obtain ⟨v, rfl, hrow⟩ := hv.out; rw [HGP.out]; have hr1 := hrow.1 HGP.out; rw [HLL.out] at hr1; obtain ⟨pa, pcap, rfl, _, _, _, hP⟩ := pc_of_row hr1; have HP := lh hP; clear hP hr1 hrow hv; have hb12 := hb1.trans (hb2.mono hb1.size); clear m0 m1 m2 m3 m4; obtain ⟨m0, m1, m2, m3, m4⟩ := MAT.out.carry hb12))
   clear m0 m1 m2 m3 m4 hu;have hB2 := hW0.trans (hb12.mono hW0.size);have hR0 := Rowz.new w2 L.length 81;have hbn := below_new w2 (.cells (madeCells #[.int .i64 0, .int .i64 0, .int .i64 0, .int .i64 0, .int .i64 0, .int .i64 0, .int .i64 0, .int .i64 0] (L.length * 8)) 81);clear hmk hb1 hb2 hb12 hW0;obtain ⟨Bo, hBo⟩ := nm (w2.heap.size);have HBo := lh hBo;simp only [hBo] at hR0 ⊢;clear hBo
   go_loopw [50] (fun i wr => ∃ k : Nat, k ≤ L.length ∧ i = .int .i64 k ∧ Below w2.heap.size w2 wr ∧ Rowz wr Bo (mixL Q k)) (fun i _ => L.length - (intOf i).toNat)
   case atStart => exact ⟨0, Nat.zero_le _, rfl, hbn, by rw [mix_zero, hql]; exact hR0⟩
   case round =>
    obtain ⟨k, hk, rfl, hB, hR⟩ := hrel
    by_cases hlt : k < L.length
    ·have HR := lh hR
     have HB := lh hB;obtain ⟨b, off, rfl, hb, hc⟩ := HP.out (by omega);obtain ⟨c0, c1, c2, c3, c4, c5, c6, c7⟩ := hc k hlt;replace c0 := (hB.cell (p := ⟨b, _, none⟩) hb).trans c0;replace c1 := (hB.cell (p := ⟨b, _, none⟩) hb).trans c1;replace c2 := (hB.cell (p := ⟨b, _, none⟩) hb).trans c2;replace c3 := (hB.cell (p := ⟨b, _, none⟩) hb).trans c3;replace c4 := (hB.cell (p := ⟨b, _, none⟩) hb).trans c4;replace c5 := (hB.cell (p := ⟨b, _, none⟩) hb).trans c5;replace c6 := (hB.cell (p := ⟨b, _, none⟩) hb).trans c6;replace c7 := (hB.cell (p := ⟨b, _, none⟩) hb).trans c7;have i0 : 0 ≤ (k : Int) := by omega
     have i1 : (k : Int) < (L.length : Int) := by omega
     have s1 : IntKind.i64.wrap ((k : Int) + 1) = (k : Int) + 1 := IntWalk.i64_in _ (by omega);have hkq : k < Q.length := by omega
     have HSK := lh (HST.out k hlt);have HNX : Hid ((mixL Q k).set k (pcg Q k) = mixL Q (k + 1)) := lh (mix_next hkq);have hmz : pcg (mixL Q k) k = ⟨0, 0, 0, 0, 0, 0, 0, 0⟩ := by rw [mix_at hkq, if_neg (Nat.lt_irrefl _)]
     have HMZ := lh hmz;have hkm : k < (mixL Q k).length := by rw [mix_len]; exact hkq
     generalize pcg Q k = q at *;clear hc hB hR hmz
     go_upto_region 16 with (go_at_call 45; (with_reducible refine (HSK.out _).mono ?_); rintro e w3 ⟨rfl, hb3⟩)
     clear c0 c1 c2 c3 c4 c5 c6 c7;have hR4 := (HR.out.carry hb3).carry (below_new w3 (.cells #[.int .i64 q.f0, .int .i64 q.f1, .int .i64 q.a0, .int .i64 q.a1, .int .i64 q.b0, .int .i64 q.b1, .int .i64 q.c0, .int .i64 q.c1] 81));have hB4 := (HB.out.trans (hb3.mono HB.out.size)).alloc (by have := HB.out.size; have := hb3.size; omega) (.cells #[.int .i64 q.f0, .int .i64 q.f1, .int .i64 q.a0, .int .i64 q.a1, .int .i64 q.b0, .int .i64 q.b1, .int .i64 q.c0, .int .i64 q.c1] 81);have hp4 := PB.new w3 q 81;obtain ⟨Bx, hBx⟩ := nm (w3.heap.size);simp only [hBx] at hp4 ⊢;generalize w3.alloc (.cells #[.int .i64 q.f0, .int .i64 q.f1, .int .i64 q.a0, .int .i64 q.a1, .int .i64 q.b0, .int .i64 q.b1, .int .i64 q.c0, .int .i64 q.c1] 81) = W4 at *;clear hBx hb3;have HR4 := lh hR4;obtain ⟨d0, d1, d2, d3, d4, d5, d6, d7⟩ := hR4.cells k hkm;simp only [HMZ.out] at d0 d1 d2 d3 d4 d5 d6 d7;have zf := hR4.free;obtain ⟨p0, p1, p2, p3, p4, p5, p6, p7, pf⟩ := hp4;clear hR4
     go_wp2_with fail
     go_roundw
     case rel =>
      have hS := HR4.out.set hkm q;rw [HNX.out] at hS;refine ⟨k + 1, by omega, by go_num, ?_, hS⟩;exact below_from (m := w2.heap.size) (b := Bo) (W := w2) [.int .i64 q.f0, .int .i64 q.f1, .int .i64 q.a0, .int .i64 q.a1, .int .i64 q.b0, .int .i64 q.b1, .int .i64 q.c0, .int .i64 q.c1] W4 (k * 8) hB4 (by rw [HBo.out]; exact Nat.le_refl _)
     case measure => simp [intOf]; omega
    ·obtain rfl : k = L.length := by omega
     go_wp2_with fail
     go_ret2
     have hpc := hR.pcs;rw [← hql, mix_all] at hpc;refine ⟨lh ⟨.slice (some ⟨Bo, 0, none⟩) L.length L.length, rfl, fun _ => ⟨Bo, by rw [HQ.out, hql], by rw [HQ.out]; exact hpc⟩, fun n => absurd HE.out n⟩, hB2.trans (hB.mono hB2.size)⟩
  ·have HU : Hid (upB f m = false) := lh (by unfold upB; rw [hu]; rfl)
   obtain ⟨Q, hQ⟩ := nm (pathL false f L);have hql : Q.length = L.length := by rw [← hQ, path_len]
   have HQ : Hid (mpL f m t = Q) := lh (by rw [HMP.out, HU.out, hQ])
   have HST : Hid (∀ k, k < L.length → ∀ w : World, Calls Tryz.prog 46 #[.int .i64 f, .agg #[.int .i64 (pcg L k).f0, .int .i64 (pcg L k).f1, .int .i64 (pcg L k).a0, .int .i64 (pcg L k).a1, .int .i64 (pcg L k).b0, .int .i64 (pcg L k).b1, .int .i64 (pcg L k).c0, .int .i64 (pcg L k).c1]] w fun e w' => e = .returned (.tuple #[.agg #[.int .i64 (pcg Q k).f0, .int .i64 (pcg Q k).f1, .int .i64 (pcg Q k).a0, .int .i64 (pcg Q k).a1, .int .i64 (pcg Q k).b0, .int .i64 (pcg Q k).b1, .int .i64 (pcg Q k).c0, .int .i64 (pcg Q k).c1], .int .i64 0]) ∧ Below w.heap.size w w') := lh fun k hk w => by
    have v := HOK.out.val k hk;have sm := HSMM.out k hk;have hq : pcg Q k = (downP f (pcg L k)).1 := by rw [← hQ, path_at hk]; rfl
    have := down_any f (pcg L k) (by omega) (by omega) v.a (by have := sm.b; omega) (by have := sm.c; omega) w;rw [down_ok hf sm, ← hq] at this;exact this
   clear hQ
   go_enter Tryz.func13, Tryz.ntmps13
   go_upto_region 1 with (fail)
   have hat1 := (HouseAt.new w h 25).carry (below_new (w.alloc (LHo h)) (.cells #[.string m.name, .int .i64 m.to, .int .i64 m.spd, .int .i64 m.rise, .int .i64 m.fall] 27));have mat1 := MvAt.new (w.alloc (LHo h)) m 27;have hW0 := (below_new w (LHo h)).alloc (by simp) (.cells #[.string m.name, .int .i64 m.to, .int .i64 m.spd, .int .i64 m.rise, .int .i64 m.fall] 27);have hm1 : (w.alloc (LHo h)).heap.size = w.heap.size + 1 := by simp
   rw [hm1] at mat1;generalize ((w.alloc (LHo h)).alloc (.cells #[.string m.name, .int .i64 m.to, .int .i64 m.spd, .int .i64 m.rise, .int .i64 m.fall] 27)) = W0 at *;have HAT := lh hat1;have MAT := lh mat1;clear hat1 mat1 hm1;obtain ⟨k0, k1, k2, k3⟩ := HAT.out;obtain ⟨m0, m1, m2, m3, m4⟩ := MAT.out
   go_wp2_with (first
    | (go_at_call 43; (with_reducible refine (HG.out _ hW0).mono ?_); rintro e w1 ⟨rfl, hb1⟩; clear k0 k1 k2 k3 m0 m1 m2 m3 m4; obtain ⟨m0, m1, m2, m3, m4⟩ := MAT.out.carry hb1)
    | (go_at_call 44; (with_reducible refine (HC.out _).mono ?_); rintro e w2 ⟨hv, hb2⟩; obtain ⟨v, rfl, hrow⟩ := hv.out; rw [HGP.out]; have hr1 := hrow.1 HGP.out; rw [HLL.out] at hr1; obtain ⟨pa, pcap, rfl, _, _, _, hP⟩ := pc_of_row hr1; have HP := lh hP; clear hP hr1 hrow hv; have hb12 := hb1.trans (hb2.mono hb1.size); clear m0 m1 m2 m3 m4; obtain ⟨m0, m1, m2, m3, m4⟩ := MAT.out.carry hb12))
   clear m0 m1 m2 m3 m4 hu;have hB2 := hW0.trans (hb12.mono hW0.size);have hR0 := Rowz.new w2 L.length 81;have hbn := below_new w2 (.cells (madeCells #[.int .i64 0, .int .i64 0, .int .i64 0, .int .i64 0, .int .i64 0, .int .i64 0, .int .i64 0, .int .i64 0] (L.length * 8)) 81);clear hmk hb1 hb2 hb12 hW0;obtain ⟨Bo, hBo⟩ := nm (w2.heap.size);have HBo := lh hBo;simp only [hBo] at hR0 ⊢;clear hBo
   go_loopw [50] (fun i wr => ∃ k : Nat, k ≤ L.length ∧ i = .int .i64 k ∧ Below w2.heap.size w2 wr ∧ Rowz wr Bo (mixL Q k)) (fun i _ => L.length - (intOf i).toNat)
   case atStart => exact ⟨0, Nat.zero_le _, rfl, hbn, by rw [mix_zero, hql]; exact hR0⟩
   case round =>
    obtain ⟨k, hk, rfl, hB, hR⟩ := hrel
    by_cases hlt : k < L.length
    ·have HR := lh hR
     have HB := lh hB;obtain ⟨b, off, rfl, hb, hc⟩ := HP.out (by omega);obtain ⟨c0, c1, c2, c3, c4, c5, c6, c7⟩ := hc k hlt;replace c0 := (hB.cell (p := ⟨b, _, none⟩) hb).trans c0;replace c1 := (hB.cell (p := ⟨b, _, none⟩) hb).trans c1;replace c2 := (hB.cell (p := ⟨b, _, none⟩) hb).trans c2;replace c3 := (hB.cell (p := ⟨b, _, none⟩) hb).trans c3;replace c4 := (hB.cell (p := ⟨b, _, none⟩) hb).trans c4;replace c5 := (hB.cell (p := ⟨b, _, none⟩) hb).trans c5;replace c6 := (hB.cell (p := ⟨b, _, none⟩) hb).trans c6;replace c7 := (hB.cell (p := ⟨b, _, none⟩) hb).trans c7;have i0 : 0 ≤ (k : Int) := by omega
     have i1 : (k : Int) < (L.length : Int) := by omega
     have s1 : IntKind.i64.wrap ((k : Int) + 1) = (k : Int) + 1 := IntWalk.i64_in _ (by omega);have hkq : k < Q.length := by omega
     have HSK := lh (HST.out k hlt);have HNX : Hid ((mixL Q k).set k (pcg Q k) = mixL Q (k + 1)) := lh (mix_next hkq);have hmz : pcg (mixL Q k) k = ⟨0, 0, 0, 0, 0, 0, 0, 0⟩ := by rw [mix_at hkq, if_neg (Nat.lt_irrefl _)]
     have HMZ := lh hmz;have hkm : k < (mixL Q k).length := by rw [mix_len]; exact hkq
     generalize pcg Q k = q at *;clear hc hB hR hmz
     go_upto_region 16 with (go_at_call 46; (with_reducible refine (HSK.out _).mono ?_); rintro e w3 ⟨rfl, hb3⟩)
     clear c0 c1 c2 c3 c4 c5 c6 c7;have hR4 := (HR.out.carry hb3).carry (below_new w3 (.cells #[.int .i64 q.f0, .int .i64 q.f1, .int .i64 q.a0, .int .i64 q.a1, .int .i64 q.b0, .int .i64 q.b1, .int .i64 q.c0, .int .i64 q.c1] 81));have hB4 := (HB.out.trans (hb3.mono HB.out.size)).alloc (by have := HB.out.size; have := hb3.size; omega) (.cells #[.int .i64 q.f0, .int .i64 q.f1, .int .i64 q.a0, .int .i64 q.a1, .int .i64 q.b0, .int .i64 q.b1, .int .i64 q.c0, .int .i64 q.c1] 81);have hp4 := PB.new w3 q 81;obtain ⟨Bx, hBx⟩ := nm (w3.heap.size);simp only [hBx] at hp4 ⊢;generalize w3.alloc (.cells #[.int .i64 q.f0, .int .i64 q.f1, .int .i64 q.a0, .int .i64 q.a1, .int .i64 q.b0, .int .i64 q.b1, .int .i64 q.c0, .int .i64 q.c1] 81) = W4 at *;clear hBx hb3;have HR4 := lh hR4;obtain ⟨d0, d1, d2, d3, d4, d5, d6, d7⟩ := hR4.cells k hkm;simp only [HMZ.out] at d0 d1 d2 d3 d4 d5 d6 d7;have zf := hR4.free;obtain ⟨p0, p1, p2, p3, p4, p5, p6, p7, pf⟩ := hp4;clear hR4
     go_wp2_with fail
     go_roundw
     case rel =>
      have hS := HR4.out.set hkm q;rw [HNX.out] at hS;refine ⟨k + 1, by omega, by go_num, ?_, hS⟩;exact below_from (m := w2.heap.size) (b := Bo) (W := w2) [.int .i64 q.f0, .int .i64 q.f1, .int .i64 q.a0, .int .i64 q.a1, .int .i64 q.b0, .int .i64 q.b1, .int .i64 q.c0, .int .i64 q.c1] W4 (k * 8) hB4 (by rw [HBo.out]; exact Nat.le_refl _)
     case measure => simp [intOf]; omega
    ·obtain rfl : k = L.length := by omega
     go_wp2_with fail
     go_ret2
     have hpc := hR.pcs;rw [← hql, mix_all] at hpc;refine ⟨lh ⟨.slice (some ⟨Bo, 0, none⟩) L.length L.length, rfl, fun _ => ⟨Bo, by rw [HQ.out, hql], by rw [HQ.out]; exact hpc⟩, fun n => absurd HE.out n⟩, hB2.trans (hB.mono hB2.size)⟩
 ·have z1 : (e != 0) = true := by simpa using z
  have HN : Hid (¬ mgE h f m = 0) := lh (by rw [he]; exact z);clear z he hd ht
  go_enter Tryz.func13, Tryz.ntmps13
  go_upto_region 1 with (fail)
  have hat1 := (HouseAt.new w h 25).carry (below_new (w.alloc (LHo h)) (.cells #[.string m.name, .int .i64 m.to, .int .i64 m.spd, .int .i64 m.rise, .int .i64 m.fall] 27));have mat1 := MvAt.new (w.alloc (LHo h)) m 27;have hW0 := (below_new w (LHo h)).alloc (by simp) (.cells #[.string m.name, .int .i64 m.to, .int .i64 m.spd, .int .i64 m.rise, .int .i64 m.fall] 27);have hm1 : (w.alloc (LHo h)).heap.size = w.heap.size + 1 := by simp
  rw [hm1] at mat1;generalize ((w.alloc (LHo h)).alloc (.cells #[.string m.name, .int .i64 m.to, .int .i64 m.spd, .int .i64 m.rise, .int .i64 m.fall] 27)) = W0 at *;have HAT := lh hat1;have MAT := lh mat1;clear hat1 mat1 hm1;obtain ⟨k0, k1, k2, k3⟩ := HAT.out;obtain ⟨m0, m1, m2, m3, m4⟩ := MAT.out
  go_wp2_with (go_at_call 43; (with_reducible refine (HG.out _ hW0).mono ?_); rintro e w1 ⟨rfl, hb1⟩; clear k0 k1 k2 k3 m0 m1 m2 m3 m4; obtain ⟨m0, m1, m2, m3, m4⟩ := MAT.out.carry hb1)
  go_ret2
  exact ⟨lh ⟨.slice none 0 0, rfl, fun q => absurd q HN.out, fun _ => rfl⟩, hW0.trans (hb1.mono hW0.size)⟩
end
section
open Go.RowKit Go.Shelf
attribute [local go_sem] Oper.semAt_some
open Classical in
noncomputable def mtE (h : HouseR) (f : Int) (m : Mv) (T : Int × Int) : Int := if houseB h = true ∧ validM m = true ∧ vF T = true then (if mgE h f m = 0 then (if T.1 < 0 then 2 else 0) else mgE h f m) else 1
def TimedV (w' : World) (h : HouseR) (f : Int) (m : Mv) (t : Int) (T : Int × Int) (v : Value) : Prop :=
 (mtE h f m T = 0 → ∃ b, v = .slice (some ⟨b, 0, none⟩) (mpL f m t).length (mpL f m t).length ∧ Pcs w'.heap.size w' (some ⟨b, 0, none⟩) (mpL f m t)) ∧ (¬ mtE h f m T = 0 → v = .slice none 0 0)
theorem mt_ok {h : HouseR} {f : Int} {m : Mv} {T : Int × Int} (e : mtE h f m T = 0) : mgE h f m = 0 ∧ vF T = true ∧ 0 ≤ T.1 := by
 unfold mtE at e
 by_cases c : houseB h = true ∧ validM m = true ∧ vF T = true
 ·rw [if_pos c] at e
  by_cases g : mgE h f m = 0
  ·rw [if_pos g] at e
   by_cases n : T.1 < 0
   ·rw [if_pos n] at e; cases e
   ·exact ⟨g, c.2.2, by omega⟩
  ·rw [if_neg g] at e; exact absurd e g
 ·rw [if_neg c] at e; cases e
theorem mtimed_any (h : HouseR) (f : Int) (m : Mv) (T : Int × Int) (t : Int) (ht : mgE h f m = 0 → IsTop (mgD f m) m.spd m.rise m.fall t) (w : World) (hh : HouseIn w h) :
  Calls Tryz.prog 25 #[.agg #[.string h.name, .int .i64 h.height, .slice h.sa h.sets.length h.sc, .slice h.ra h.roofs.length h.rc], .int .i64 f, .agg #[.string m.name, .int .i64 m.to, .int .i64 m.spd, .int .i64 m.rise, .int .i64 m.fall], .agg #[.int .i64 T.1, .int .i64 T.2]] w fun e w' => Hid (∃ v, e = .returned (.tuple #[v, .int .i64 (mtE h f m T)]) ∧ TimedV w' h f m t T v) ∧ Below w.heap.size w w' := by
 have HHV : Hid (∀ w' : World, Below w.heap.size w w' → Calls Tryz.prog 58 #[.agg #[.string h.name, .int .i64 h.height, .slice h.sa h.sets.length h.sc, .slice h.ra h.roofs.length h.rc]] w' fun e w2 => e = .returned (.bool (houseB h)) ∧ Below w'.heap.size w' w2) := lh fun w' hb => housevalid_any h w' (hh.grow hb);have HPA : Hid (∀ w' : World, Below w.heap.size w w' → Calls Tryz.prog 13 #[.agg #[.string h.name, .int .i64 h.height, .slice h.sa h.sets.length h.sc, .slice h.ra h.roofs.length h.rc], .int .i64 f, .agg #[.string m.name, .int .i64 m.to, .int .i64 m.spd, .int .i64 m.rise, .int .i64 m.fall]] w' fun e w2 => Hid (∃ v, e = .returned (.tuple #[v, .int .i64 (mgE h f m)]) ∧ PathV w2 h f m t v) ∧ Below w'.heap.size w' w2) := lh fun w' hb => mpath_any h f m t ht w' (hh.grow hb);clear hh ht
 cases h1 : houseB h
 case false =>
  have H1 := lh h1;have HO : Hid (mtE h f m T = 1) := lh (by unfold mtE; rw [if_neg (fun q => by rw [h1] at q; exact absurd q.1 (by decide))]);clear h1
  go_enter Tryz.func25, Tryz.ntmps25
  go_upto_region 1 with (fail)
  have hat1 := ((HouseAt.new w h 25).carry (below_new (w.alloc (LHo h)) (.cells #[.string m.name, .int .i64 m.to, .int .i64 m.spd, .int .i64 m.rise, .int .i64 m.fall] 27))).carry (below_new ((w.alloc (LHo h)).alloc (.cells #[.string m.name, .int .i64 m.to, .int .i64 m.spd, .int .i64 m.rise, .int .i64 m.fall] 27)) (.cells #[.int .i64 T.1, .int .i64 T.2] 29));have mat1 := (MvAt.new (w.alloc (LHo h)) m 27).carry (below_new ((w.alloc (LHo h)).alloc (.cells #[.string m.name, .int .i64 m.to, .int .i64 m.spd, .int .i64 m.rise, .int .i64 m.fall] 27)) (.cells #[.int .i64 T.1, .int .i64 T.2] 29));have tat1 := FI.put ((w.alloc (LHo h)).alloc (.cells #[.string m.name, .int .i64 m.to, .int .i64 m.spd, .int .i64 m.rise, .int .i64 m.fall] 27)) T.1 T.2 29;have hW0 := ((below_new w (LHo h)).alloc (by simp) (.cells #[.string m.name, .int .i64 m.to, .int .i64 m.spd, .int .i64 m.rise, .int .i64 m.fall] 27)).alloc (by simp <;> omega) (.cells #[.int .i64 T.1, .int .i64 T.2] 29);have hm1 : (w.alloc (LHo h)).heap.size = w.heap.size + 1 := by simp
  have hm2 : ((w.alloc (LHo h)).alloc (.cells #[.string m.name, .int .i64 m.to, .int .i64 m.spd, .int .i64 m.rise, .int .i64 m.fall] 27)).heap.size = w.heap.size + 1 + 1 := by simp
  rw [hm1] at mat1;rw [hm2] at tat1;generalize (((w.alloc (LHo h)).alloc (.cells #[.string m.name, .int .i64 m.to, .int .i64 m.spd, .int .i64 m.rise, .int .i64 m.fall] 27)).alloc (.cells #[.int .i64 T.1, .int .i64 T.2] 29)) = W0 at *;have HAT := lh hat1;have MAT := lh mat1;have TAT := lh tat1;clear hat1 mat1 tat1 hm1 hm2;obtain ⟨k0, k1, k2, k3⟩ := HAT.out;obtain ⟨m0, m1, m2, m3, m4⟩ := MAT.out;obtain ⟨t0, t1, _⟩ := TAT.out
  go_wp2_with (first
    | (go_at_call 58; (with_reducible refine (HHV.out _ hW0).mono ?_); rintro e w1 ⟨rfl, hb1⟩; rw [H1.out]; clear k0 k1 k2 k3 m0 m1 m2 m3 m4 t0 t1; obtain ⟨k0, k1, k2, k3⟩ := HAT.out.carry hb1; obtain ⟨m0, m1, m2, m3, m4⟩ := MAT.out.carry hb1; obtain ⟨t0, t1, _⟩ := TAT.out.carry hb1))
  go_ret2
  exact ⟨lh ⟨.slice none 0 0, by rw [HO.out]; rfl, fun q => absurd (HO.out.symm.trans q) (by decide), fun _ => rfl⟩, hW0.trans (hb1.mono hW0.size)⟩
 have H1 := lh h1
 cases h2 : validM m
 case false =>
  have H2 := lh h2;have HO : Hid (mtE h f m T = 1) := lh (by unfold mtE; rw [if_neg (fun q => by rw [h2] at q; exact absurd q.2.1 (by decide))]);clear h1 h2
  go_enter Tryz.func25, Tryz.ntmps25
  go_upto_region 1 with (fail)
  have hat1 := ((HouseAt.new w h 25).carry (below_new (w.alloc (LHo h)) (.cells #[.string m.name, .int .i64 m.to, .int .i64 m.spd, .int .i64 m.rise, .int .i64 m.fall] 27))).carry (below_new ((w.alloc (LHo h)).alloc (.cells #[.string m.name, .int .i64 m.to, .int .i64 m.spd, .int .i64 m.rise, .int .i64 m.fall] 27)) (.cells #[.int .i64 T.1, .int .i64 T.2] 29));have mat1 := (MvAt.new (w.alloc (LHo h)) m 27).carry (below_new ((w.alloc (LHo h)).alloc (.cells #[.string m.name, .int .i64 m.to, .int .i64 m.spd, .int .i64 m.rise, .int .i64 m.fall] 27)) (.cells #[.int .i64 T.1, .int .i64 T.2] 29));have tat1 := FI.put ((w.alloc (LHo h)).alloc (.cells #[.string m.name, .int .i64 m.to, .int .i64 m.spd, .int .i64 m.rise, .int .i64 m.fall] 27)) T.1 T.2 29;have hW0 := ((below_new w (LHo h)).alloc (by simp) (.cells #[.string m.name, .int .i64 m.to, .int .i64 m.spd, .int .i64 m.rise, .int .i64 m.fall] 27)).alloc (by simp <;> omega) (.cells #[.int .i64 T.1, .int .i64 T.2] 29);have hm1 : (w.alloc (LHo h)).heap.size = w.heap.size + 1 := by simp
  have hm2 : ((w.alloc (LHo h)).alloc (.cells #[.string m.name, .int .i64 m.to, .int .i64 m.spd, .int .i64 m.rise, .int .i64 m.fall] 27)).heap.size = w.heap.size + 1 + 1 := by simp
  rw [hm1] at mat1;rw [hm2] at tat1;generalize (((w.alloc (LHo h)).alloc (.cells #[.string m.name, .int .i64 m.to, .int .i64 m.spd, .int .i64 m.rise, .int .i64 m.fall] 27)).alloc (.cells #[.int .i64 T.1, .int .i64 T.2] 29)) = W0 at *;have HAT := lh hat1;have MAT := lh mat1;have TAT := lh tat1;clear hat1 mat1 tat1 hm1 hm2;obtain ⟨k0, k1, k2, k3⟩ := HAT.out;obtain ⟨m0, m1, m2, m3, m4⟩ := MAT.out;obtain ⟨t0, t1, _⟩ := TAT.out
  go_wp2_with (first
    | (go_at_call 58; (with_reducible refine (HHV.out _ hW0).mono ?_); rintro e w1 ⟨rfl, hb1⟩; rw [H1.out]; clear k0 k1 k2 k3 m0 m1 m2 m3 m4 t0 t1; obtain ⟨k0, k1, k2, k3⟩ := HAT.out.carry hb1; obtain ⟨m0, m1, m2, m3, m4⟩ := MAT.out.carry hb1; obtain ⟨t0, t1, _⟩ := TAT.out.carry hb1)
    | (go_at_call 59; (with_reducible refine (valid_anyM m _).mono ?_); rintro e w2 ⟨rfl, hb2⟩; rw [H2.out]; have hb12 := hb1.trans (hb2.mono hb1.size); clear k0 k1 k2 k3 m0 m1 m2 m3 m4 t0 t1; obtain ⟨k0, k1, k2, k3⟩ := HAT.out.carry hb12; obtain ⟨m0, m1, m2, m3, m4⟩ := MAT.out.carry hb12; obtain ⟨t0, t1, _⟩ := TAT.out.carry hb12))
  go_ret2
  exact ⟨lh ⟨.slice none 0 0, by rw [HO.out]; rfl, fun q => absurd (HO.out.symm.trans q) (by decide), fun _ => rfl⟩, hW0.trans (hb12.mono hW0.size)⟩
 have H2 := lh h2
 cases h3 : validF T.1 T.2
 case false =>
  have H3 := lh h3
  have HO : Hid (mtE h f m T = 1) := lh (by
   unfold mtE
   rw [if_neg (fun q => by
    have q3 : validF T.1 T.2 = true := q.2.2;rw [h3] at q3
    cases q3)])
  clear h1 h2 h3
  go_enter Tryz.func25, Tryz.ntmps25
  go_upto_region 1 with (fail)
  have hat1 := ((HouseAt.new w h 25).carry (below_new (w.alloc (LHo h)) (.cells #[.string m.name, .int .i64 m.to, .int .i64 m.spd, .int .i64 m.rise, .int .i64 m.fall] 27))).carry (below_new ((w.alloc (LHo h)).alloc (.cells #[.string m.name, .int .i64 m.to, .int .i64 m.spd, .int .i64 m.rise, .int .i64 m.fall] 27)) (.cells #[.int .i64 T.1, .int .i64 T.2] 29));have mat1 := (MvAt.new (w.alloc (LHo h)) m 27).carry (below_new ((w.alloc (LHo h)).alloc (.cells #[.string m.name, .int .i64 m.to, .int .i64 m.spd, .int .i64 m.rise, .int .i64 m.fall] 27)) (.cells #[.int .i64 T.1, .int .i64 T.2] 29));have tat1 := FI.put ((w.alloc (LHo h)).alloc (.cells #[.string m.name, .int .i64 m.to, .int .i64 m.spd, .int .i64 m.rise, .int .i64 m.fall] 27)) T.1 T.2 29;have hW0 := ((below_new w (LHo h)).alloc (by simp) (.cells #[.string m.name, .int .i64 m.to, .int .i64 m.spd, .int .i64 m.rise, .int .i64 m.fall] 27)).alloc (by simp <;> omega) (.cells #[.int .i64 T.1, .int .i64 T.2] 29);have hm1 : (w.alloc (LHo h)).heap.size = w.heap.size + 1 := by simp
  have hm2 : ((w.alloc (LHo h)).alloc (.cells #[.string m.name, .int .i64 m.to, .int .i64 m.spd, .int .i64 m.rise, .int .i64 m.fall] 27)).heap.size = w.heap.size + 1 + 1 := by simp
  rw [hm1] at mat1;rw [hm2] at tat1;generalize (((w.alloc (LHo h)).alloc (.cells #[.string m.name, .int .i64 m.to, .int .i64 m.spd, .int .i64 m.rise, .int .i64 m.fall] 27)).alloc (.cells #[.int .i64 T.1, .int .i64 T.2] 29)) = W0 at *;have HAT := lh hat1;have MAT := lh mat1;have TAT := lh tat1;clear hat1 mat1 tat1 hm1 hm2;obtain ⟨k0, k1, k2, k3⟩ := HAT.out;obtain ⟨m0, m1, m2, m3, m4⟩ := MAT.out;obtain ⟨t0, t1, _⟩ := TAT.out
  go_wp2_with (first
    | (go_at_call 58; (with_reducible refine (HHV.out _ hW0).mono ?_); rintro e w1 ⟨rfl, hb1⟩; rw [H1.out]; clear k0 k1 k2 k3 m0 m1 m2 m3 m4 t0 t1; obtain ⟨k0, k1, k2, k3⟩ := HAT.out.carry hb1; obtain ⟨m0, m1, m2, m3, m4⟩ := MAT.out.carry hb1; obtain ⟨t0, t1, _⟩ := TAT.out.carry hb1)
    | (go_at_call 59; (with_reducible refine (valid_anyM m _).mono ?_); rintro e w2 ⟨rfl, hb2⟩; rw [H2.out]; have hb12 := hb1.trans (hb2.mono hb1.size); clear k0 k1 k2 k3 m0 m1 m2 m3 m4 t0 t1; obtain ⟨k0, k1, k2, k3⟩ := HAT.out.carry hb12; obtain ⟨m0, m1, m2, m3, m4⟩ := MAT.out.carry hb12; obtain ⟨t0, t1, _⟩ := TAT.out.carry hb12)
    | (go_at_call 60; (with_reducible refine (valid_any T.1 T.2 _).mono ?_); rintro e w3 ⟨rfl, hb3⟩; rw [H3.out]; have hb13 := hb12.trans (hb3.mono hb12.size); clear k0 k1 k2 k3 m0 m1 m2 m3 m4 t0 t1; obtain ⟨k0, k1, k2, k3⟩ := HAT.out.carry hb13; obtain ⟨m0, m1, m2, m3, m4⟩ := MAT.out.carry hb13; obtain ⟨t0, t1, _⟩ := TAT.out.carry hb13))
  go_ret2
  exact ⟨lh ⟨.slice none 0 0, by rw [HO.out]; rfl, fun q => absurd (HO.out.symm.trans q) (by decide), fun _ => rfl⟩, hW0.trans (hb13.mono hW0.size)⟩
 have H3 := lh h3;have HOO : Hid (mtE h f m T = if mgE h f m = 0 then (if T.1 < 0 then 2 else 0) else mgE h f m) := lh (by unfold mtE; rw [if_pos ⟨h1, h2, h3⟩]);clear h1 h2 h3;obtain ⟨e, he⟩ := nm (mgE h f m);have HGE := lh he
 by_cases z : e = 0
 ·subst z
  by_cases n : T.1 < 0
  ·have g := decide_eq_true n
   have HO : Hid (mtE h f m T = 2) := lh (by rw [HOO.out, if_pos he, if_pos n]);clear n he
   go_enter Tryz.func25, Tryz.ntmps25
   go_upto_region 1 with (fail)
   have hat1 := ((HouseAt.new w h 25).carry (below_new (w.alloc (LHo h)) (.cells #[.string m.name, .int .i64 m.to, .int .i64 m.spd, .int .i64 m.rise, .int .i64 m.fall] 27))).carry (below_new ((w.alloc (LHo h)).alloc (.cells #[.string m.name, .int .i64 m.to, .int .i64 m.spd, .int .i64 m.rise, .int .i64 m.fall] 27)) (.cells #[.int .i64 T.1, .int .i64 T.2] 29));have mat1 := (MvAt.new (w.alloc (LHo h)) m 27).carry (below_new ((w.alloc (LHo h)).alloc (.cells #[.string m.name, .int .i64 m.to, .int .i64 m.spd, .int .i64 m.rise, .int .i64 m.fall] 27)) (.cells #[.int .i64 T.1, .int .i64 T.2] 29));have tat1 := FI.put ((w.alloc (LHo h)).alloc (.cells #[.string m.name, .int .i64 m.to, .int .i64 m.spd, .int .i64 m.rise, .int .i64 m.fall] 27)) T.1 T.2 29;have hW0 := ((below_new w (LHo h)).alloc (by simp) (.cells #[.string m.name, .int .i64 m.to, .int .i64 m.spd, .int .i64 m.rise, .int .i64 m.fall] 27)).alloc (by simp <;> omega) (.cells #[.int .i64 T.1, .int .i64 T.2] 29);have hm1 : (w.alloc (LHo h)).heap.size = w.heap.size + 1 := by simp
   have hm2 : ((w.alloc (LHo h)).alloc (.cells #[.string m.name, .int .i64 m.to, .int .i64 m.spd, .int .i64 m.rise, .int .i64 m.fall] 27)).heap.size = w.heap.size + 1 + 1 := by simp
   rw [hm1] at mat1;rw [hm2] at tat1;generalize (((w.alloc (LHo h)).alloc (.cells #[.string m.name, .int .i64 m.to, .int .i64 m.spd, .int .i64 m.rise, .int .i64 m.fall] 27)).alloc (.cells #[.int .i64 T.1, .int .i64 T.2] 29)) = W0 at *;have HAT := lh hat1;have MAT := lh mat1;have TAT := lh tat1;clear hat1 mat1 tat1 hm1 hm2;obtain ⟨k0, k1, k2, k3⟩ := HAT.out;obtain ⟨m0, m1, m2, m3, m4⟩ := MAT.out;obtain ⟨t0, t1, _⟩ := TAT.out
   go_wp2_with (first
    | (go_at_call 58; (with_reducible refine (HHV.out _ hW0).mono ?_); rintro e w1 ⟨rfl, hb1⟩; rw [H1.out]; clear k0 k1 k2 k3 m0 m1 m2 m3 m4 t0 t1; obtain ⟨k0, k1, k2, k3⟩ := HAT.out.carry hb1; obtain ⟨m0, m1, m2, m3, m4⟩ := MAT.out.carry hb1; obtain ⟨t0, t1, _⟩ := TAT.out.carry hb1)
    | (go_at_call 59; (with_reducible refine (valid_anyM m _).mono ?_); rintro e w2 ⟨rfl, hb2⟩; rw [H2.out]; have hb12 := hb1.trans (hb2.mono hb1.size); clear k0 k1 k2 k3 m0 m1 m2 m3 m4 t0 t1; obtain ⟨k0, k1, k2, k3⟩ := HAT.out.carry hb12; obtain ⟨m0, m1, m2, m3, m4⟩ := MAT.out.carry hb12; obtain ⟨t0, t1, _⟩ := TAT.out.carry hb12)
    | (go_at_call 60; (with_reducible refine (valid_any T.1 T.2 _).mono ?_); rintro e w3 ⟨rfl, hb3⟩; rw [H3.out]; have hb13 := hb12.trans (hb3.mono hb12.size); clear k0 k1 k2 k3 m0 m1 m2 m3 m4 t0 t1; obtain ⟨k0, k1, k2, k3⟩ := HAT.out.carry hb13; obtain ⟨m0, m1, m2, m3, m4⟩ := MAT.out.carry hb13; obtain ⟨t0, t1, _⟩ := TAT.out.carry hb13)
    | (go_at_call 13; (with_reducible refine (HPA.out _ (hW0.trans (hb13.mono hW0.size))).mono ?_); rintro e w4 ⟨hv, hb4⟩; obtain ⟨v, rfl, hpv⟩ := hv.out; rw [HGE.out]; have hb14 := hb13.trans (hb4.mono hb13.size); clear k0 k1 k2 k3 m0 m1 m2 m3 m4 t0 t1; obtain ⟨k0, k1, k2, k3⟩ := HAT.out.carry hb14; obtain ⟨m0, m1, m2, m3, m4⟩ := MAT.out.carry hb14; obtain ⟨t0, t1, _⟩ := TAT.out.carry hb14))
   go_ret2
   exact ⟨lh ⟨.slice none 0 0, by rw [HO.out]; rfl, fun q => absurd (HO.out.symm.trans q) (by decide), fun _ => rfl⟩, hW0.trans (hb14.mono hW0.size)⟩
  ·have g := decide_eq_false n
   have HO : Hid (mtE h f m T = 0) := lh (by rw [HOO.out, if_pos he, if_neg n]);clear n he
   go_enter Tryz.func25, Tryz.ntmps25
   go_upto_region 1 with (fail)
   have hat1 := ((HouseAt.new w h 25).carry (below_new (w.alloc (LHo h)) (.cells #[.string m.name, .int .i64 m.to, .int .i64 m.spd, .int .i64 m.rise, .int .i64 m.fall] 27))).carry (below_new ((w.alloc (LHo h)).alloc (.cells #[.string m.name, .int .i64 m.to, .int .i64 m.spd, .int .i64 m.rise, .int .i64 m.fall] 27)) (.cells #[.int .i64 T.1, .int .i64 T.2] 29));have mat1 := (MvAt.new (w.alloc (LHo h)) m 27).carry (below_new ((w.alloc (LHo h)).alloc (.cells #[.string m.name, .int .i64 m.to, .int .i64 m.spd, .int .i64 m.rise, .int .i64 m.fall] 27)) (.cells #[.int .i64 T.1, .int .i64 T.2] 29));have tat1 := FI.put ((w.alloc (LHo h)).alloc (.cells #[.string m.name, .int .i64 m.to, .int .i64 m.spd, .int .i64 m.rise, .int .i64 m.fall] 27)) T.1 T.2 29;have hW0 := ((below_new w (LHo h)).alloc (by simp) (.cells #[.string m.name, .int .i64 m.to, .int .i64 m.spd, .int .i64 m.rise, .int .i64 m.fall] 27)).alloc (by simp <;> omega) (.cells #[.int .i64 T.1, .int .i64 T.2] 29);have hm1 : (w.alloc (LHo h)).heap.size = w.heap.size + 1 := by simp
   have hm2 : ((w.alloc (LHo h)).alloc (.cells #[.string m.name, .int .i64 m.to, .int .i64 m.spd, .int .i64 m.rise, .int .i64 m.fall] 27)).heap.size = w.heap.size + 1 + 1 := by simp
   rw [hm1] at mat1;rw [hm2] at tat1;generalize (((w.alloc (LHo h)).alloc (.cells #[.string m.name, .int .i64 m.to, .int .i64 m.spd, .int .i64 m.rise, .int .i64 m.fall] 27)).alloc (.cells #[.int .i64 T.1, .int .i64 T.2] 29)) = W0 at *;have HAT := lh hat1;have MAT := lh mat1;have TAT := lh tat1;clear hat1 mat1 tat1 hm1 hm2;obtain ⟨k0, k1, k2, k3⟩ := HAT.out;obtain ⟨m0, m1, m2, m3, m4⟩ := MAT.out;obtain ⟨t0, t1, _⟩ := TAT.out
   go_wp2_with (first
    | (go_at_call 58; (with_reducible refine (HHV.out _ hW0).mono ?_); rintro e w1 ⟨rfl, hb1⟩; rw [H1.out]; clear k0 k1 k2 k3 m0 m1 m2 m3 m4 t0 t1; obtain ⟨k0, k1, k2, k3⟩ := HAT.out.carry hb1; obtain ⟨m0, m1, m2, m3, m4⟩ := MAT.out.carry hb1; obtain ⟨t0, t1, _⟩ := TAT.out.carry hb1)
    | (go_at_call 59; (with_reducible refine (valid_anyM m _).mono ?_); rintro e w2 ⟨rfl, hb2⟩; rw [H2.out]; have hb12 := hb1.trans (hb2.mono hb1.size); clear k0 k1 k2 k3 m0 m1 m2 m3 m4 t0 t1; obtain ⟨k0, k1, k2, k3⟩ := HAT.out.carry hb12; obtain ⟨m0, m1, m2, m3, m4⟩ := MAT.out.carry hb12; obtain ⟨t0, t1, _⟩ := TAT.out.carry hb12)
    | (go_at_call 60; (with_reducible refine (valid_any T.1 T.2 _).mono ?_); rintro e w3 ⟨rfl, hb3⟩; rw [H3.out]; have hb13 := hb12.trans (hb3.mono hb12.size); clear k0 k1 k2 k3 m0 m1 m2 m3 m4 t0 t1; obtain ⟨k0, k1, k2, k3⟩ := HAT.out.carry hb13; obtain ⟨m0, m1, m2, m3, m4⟩ := MAT.out.carry hb13; obtain ⟨t0, t1, _⟩ := TAT.out.carry hb13)
    | (go_at_call 13; (with_reducible refine (HPA.out _ (hW0.trans (hb13.mono hW0.size))).mono ?_); rintro e w4 ⟨hv, hb4⟩; obtain ⟨v, rfl, hpv⟩ := hv.out; rw [HGE.out]; have hb14 := hb13.trans (hb4.mono hb13.size); clear k0 k1 k2 k3 m0 m1 m2 m3 m4 t0 t1; obtain ⟨k0, k1, k2, k3⟩ := HAT.out.carry hb14; obtain ⟨m0, m1, m2, m3, m4⟩ := MAT.out.carry hb14; obtain ⟨t0, t1, _⟩ := TAT.out.carry hb14))
   go_ret2
   exact ⟨lh ⟨v, by rw [HO.out]; rfl, fun _ => hpv.1 HGE.out, fun q => absurd HO.out q⟩, hW0.trans (hb14.mono hW0.size)⟩
 ·have z1 : (e != 0) = true := by simpa using z
  have HN : Hid (¬ mgE h f m = 0) := lh (by rw [he]; exact z);have HO : Hid (mtE h f m T = e) := lh (by rw [HOO.out, if_neg HN.out, he]);have HZ := lh z;clear z he
  go_enter Tryz.func25, Tryz.ntmps25
  go_upto_region 1 with (fail)
  have hat1 := ((HouseAt.new w h 25).carry (below_new (w.alloc (LHo h)) (.cells #[.string m.name, .int .i64 m.to, .int .i64 m.spd, .int .i64 m.rise, .int .i64 m.fall] 27))).carry (below_new ((w.alloc (LHo h)).alloc (.cells #[.string m.name, .int .i64 m.to, .int .i64 m.spd, .int .i64 m.rise, .int .i64 m.fall] 27)) (.cells #[.int .i64 T.1, .int .i64 T.2] 29));have mat1 := (MvAt.new (w.alloc (LHo h)) m 27).carry (below_new ((w.alloc (LHo h)).alloc (.cells #[.string m.name, .int .i64 m.to, .int .i64 m.spd, .int .i64 m.rise, .int .i64 m.fall] 27)) (.cells #[.int .i64 T.1, .int .i64 T.2] 29));have tat1 := FI.put ((w.alloc (LHo h)).alloc (.cells #[.string m.name, .int .i64 m.to, .int .i64 m.spd, .int .i64 m.rise, .int .i64 m.fall] 27)) T.1 T.2 29;have hW0 := ((below_new w (LHo h)).alloc (by simp) (.cells #[.string m.name, .int .i64 m.to, .int .i64 m.spd, .int .i64 m.rise, .int .i64 m.fall] 27)).alloc (by simp <;> omega) (.cells #[.int .i64 T.1, .int .i64 T.2] 29);have hm1 : (w.alloc (LHo h)).heap.size = w.heap.size + 1 := by simp
  have hm2 : ((w.alloc (LHo h)).alloc (.cells #[.string m.name, .int .i64 m.to, .int .i64 m.spd, .int .i64 m.rise, .int .i64 m.fall] 27)).heap.size = w.heap.size + 1 + 1 := by simp
  rw [hm1] at mat1;rw [hm2] at tat1;generalize (((w.alloc (LHo h)).alloc (.cells #[.string m.name, .int .i64 m.to, .int .i64 m.spd, .int .i64 m.rise, .int .i64 m.fall] 27)).alloc (.cells #[.int .i64 T.1, .int .i64 T.2] 29)) = W0 at *;have HAT := lh hat1;have MAT := lh mat1;have TAT := lh tat1;clear hat1 mat1 tat1 hm1 hm2;obtain ⟨k0, k1, k2, k3⟩ := HAT.out;obtain ⟨m0, m1, m2, m3, m4⟩ := MAT.out;obtain ⟨t0, t1, _⟩ := TAT.out
  go_wp2_with (first
    | (go_at_call 58; (with_reducible refine (HHV.out _ hW0).mono ?_); rintro e w1 ⟨rfl, hb1⟩; rw [H1.out]; clear k0 k1 k2 k3 m0 m1 m2 m3 m4 t0 t1; obtain ⟨k0, k1, k2, k3⟩ := HAT.out.carry hb1; obtain ⟨m0, m1, m2, m3, m4⟩ := MAT.out.carry hb1; obtain ⟨t0, t1, _⟩ := TAT.out.carry hb1)
    | (go_at_call 59; (with_reducible refine (valid_anyM m _).mono ?_); rintro e w2 ⟨rfl, hb2⟩; rw [H2.out]; have hb12 := hb1.trans (hb2.mono hb1.size); clear k0 k1 k2 k3 m0 m1 m2 m3 m4 t0 t1; obtain ⟨k0, k1, k2, k3⟩ := HAT.out.carry hb12; obtain ⟨m0, m1, m2, m3, m4⟩ := MAT.out.carry hb12; obtain ⟨t0, t1, _⟩ := TAT.out.carry hb12)
    | (go_at_call 60; (with_reducible refine (valid_any T.1 T.2 _).mono ?_); rintro e w3 ⟨rfl, hb3⟩; rw [H3.out]; have hb13 := hb12.trans (hb3.mono hb12.size); clear k0 k1 k2 k3 m0 m1 m2 m3 m4 t0 t1; obtain ⟨k0, k1, k2, k3⟩ := HAT.out.carry hb13; obtain ⟨m0, m1, m2, m3, m4⟩ := MAT.out.carry hb13; obtain ⟨t0, t1, _⟩ := TAT.out.carry hb13)
    | (go_at_call 13; (with_reducible refine (HPA.out _ (hW0.trans (hb13.mono hW0.size))).mono ?_); rintro e w4 ⟨hv, hb4⟩; obtain ⟨v, rfl, hpv⟩ := hv.out; rw [HGE.out]; have hb14 := hb13.trans (hb4.mono hb13.size); clear k0 k1 k2 k3 m0 m1 m2 m3 m4 t0 t1; obtain ⟨k0, k1, k2, k3⟩ := HAT.out.carry hb14; obtain ⟨m0, m1, m2, m3, m4⟩ := MAT.out.carry hb14; obtain ⟨t0, t1, _⟩ := TAT.out.carry hb14))
  go_ret2
  exact ⟨lh ⟨.slice none 0 0, by rw [HO.out]; rfl, fun q => absurd (HO.out.symm.trans q) HZ.out, fun _ => rfl⟩, hW0.trans (hb14.mono hW0.size)⟩
end
section
open Go.RowKit Go.Shelf
attribute [local go_sem] Oper.semAt_some
theorem mp_ok {h : HouseR} {f : Int} {m : Mv} {t : Int} (e : mgE h f m = 0) (ht : IsTop (mgD f m) m.spd m.rise m.fall t) : CurveOK (mpL f m t) := by
 obtain ⟨_, _, f0, f1, _, _, gd, _⟩ := mg_ok e;exact path_ok ⟨by omega, by omega⟩ (move_c gd ht).ok (curve_small gd ht)
open Classical in
noncomputable def matP (h : HouseR) (f : Int) (m : Mv) (T : Int × Int) (t : Int) : Int × Int × Int := if mtE h f m T = 0 then atP (mpL f m t) T else (0, 0, mtE h f m T)
theorem mat_any (h : HouseR) (f : Int) (m : Mv) (T : Int × Int) (t : Int) (ht : mgE h f m = 0 → IsTop (mgD f m) m.spd m.rise m.fall t) (w : World) (hh : HouseIn w h) :
  Calls Tryz.prog 7 #[.agg #[.string h.name, .int .i64 h.height, .slice h.sa h.sets.length h.sc, .slice h.ra h.roofs.length h.rc], .int .i64 f, .agg #[.string m.name, .int .i64 m.to, .int .i64 m.spd, .int .i64 m.rise, .int .i64 m.fall], .agg #[.int .i64 T.1, .int .i64 T.2]] w fun e w' => e = .returned (.tuple #[.agg #[.int .i64 (matP h f m T t).1, .int .i64 (matP h f m T t).2.1], .int .i64 (matP h f m T t).2.2]) ∧ Below w.heap.size w w' := by
 have HTI : Hid (∀ w' : World, Below w.heap.size w w' → Calls Tryz.prog 25 #[.agg #[.string h.name, .int .i64 h.height, .slice h.sa h.sets.length h.sc, .slice h.ra h.roofs.length h.rc], .int .i64 f, .agg #[.string m.name, .int .i64 m.to, .int .i64 m.spd, .int .i64 m.rise, .int .i64 m.fall], .agg #[.int .i64 T.1, .int .i64 T.2]] w' fun e w2 => Hid (∃ v, e = .returned (.tuple #[v, .int .i64 (mtE h f m T)]) ∧ TimedV w2 h f m t T v) ∧ Below w'.heap.size w' w2) := lh fun w' hb => mtimed_any h f m T t ht w' (hh.grow hb);have HHT := lh ht;clear hh ht;obtain ⟨e, he⟩ := nm (mtE h f m T);have HE := lh he
 by_cases z : e = 0
 ·subst z
  obtain ⟨g0, vT, _⟩ := mt_ok he;have hok := mp_ok g0 (HHT.out g0);have hpos := hok.pos;obtain ⟨A, hA⟩ := nm (atP (mpL f m t) T);have HR : Hid (matP h f m T t = A) := lh (by unfold matP; rw [if_pos he, hA]);rw [HR.out]
  have HQ : Hid (∀ (b : Nat) (w : World), Pcs w.heap.size w (some ⟨b, 0, none⟩) (mpL f m t) → Calls Tryz.prog 26 #[.slice (some ⟨b, 0, none⟩) (mpL f m t).length (mpL f m t).length, .agg #[.int .i64 T.1, .int .i64 T.2]] w fun e w' => e = .returned (.tuple #[.agg #[.int .i64 A.1, .int .i64 A.2.1], .int .i64 A.2.2]) ∧ Below w.heap.size w w') := lh fun b w hp => by
   have := qat_any (mpL f m t) hok T (some ⟨b, 0, none⟩) (mpL f m t).length w hp
   rwa [hA] at this
  clear he g0 vT hok hA
  go_enter Tryz.func7, Tryz.ntmps7
  go_upto_region 1 with (fail)
  have hat1 := (((HouseAt.new w h 25).carry (below_new (w.alloc (LHo h)) (.cells #[.string m.name, .int .i64 m.to, .int .i64 m.spd, .int .i64 m.rise, .int .i64 m.fall] 27))).carry (below_new ((w.alloc (LHo h)).alloc (.cells #[.string m.name, .int .i64 m.to, .int .i64 m.spd, .int .i64 m.rise, .int .i64 m.fall] 27)) (.cells #[.int .i64 T.1, .int .i64 T.2] 29))).carry (below_new (((w.alloc (LHo h)).alloc (.cells #[.string m.name, .int .i64 m.to, .int .i64 m.spd, .int .i64 m.rise, .int .i64 m.fall] 27)).alloc (.cells #[.int .i64 T.1, .int .i64 T.2] 29)) (.cells #[.int .i64 0, .int .i64 0] 29));have mat1 := ((MvAt.new (w.alloc (LHo h)) m 27).carry (below_new ((w.alloc (LHo h)).alloc (.cells #[.string m.name, .int .i64 m.to, .int .i64 m.spd, .int .i64 m.rise, .int .i64 m.fall] 27)) (.cells #[.int .i64 T.1, .int .i64 T.2] 29))).carry (below_new (((w.alloc (LHo h)).alloc (.cells #[.string m.name, .int .i64 m.to, .int .i64 m.spd, .int .i64 m.rise, .int .i64 m.fall] 27)).alloc (.cells #[.int .i64 T.1, .int .i64 T.2] 29)) (.cells #[.int .i64 0, .int .i64 0] 29));have tat1 := (FI.put ((w.alloc (LHo h)).alloc (.cells #[.string m.name, .int .i64 m.to, .int .i64 m.spd, .int .i64 m.rise, .int .i64 m.fall] 27)) T.1 T.2 29).carry (below_new (((w.alloc (LHo h)).alloc (.cells #[.string m.name, .int .i64 m.to, .int .i64 m.spd, .int .i64 m.rise, .int .i64 m.fall] 27)).alloc (.cells #[.int .i64 T.1, .int .i64 T.2] 29)) (.cells #[.int .i64 0, .int .i64 0] 29));have zat1 := FI.new (((w.alloc (LHo h)).alloc (.cells #[.string m.name, .int .i64 m.to, .int .i64 m.spd, .int .i64 m.rise, .int .i64 m.fall] 27)).alloc (.cells #[.int .i64 T.1, .int .i64 T.2] 29)) 29;have hW0 := (((below_new w (LHo h)).alloc (by simp) (.cells #[.string m.name, .int .i64 m.to, .int .i64 m.spd, .int .i64 m.rise, .int .i64 m.fall] 27)).alloc (by simp <;> omega) (.cells #[.int .i64 T.1, .int .i64 T.2] 29)).alloc (by simp <;> omega) (.cells #[.int .i64 0, .int .i64 0] 29);have hm1 : (w.alloc (LHo h)).heap.size = w.heap.size + 1 := by simp
  have hm2 : ((w.alloc (LHo h)).alloc (.cells #[.string m.name, .int .i64 m.to, .int .i64 m.spd, .int .i64 m.rise, .int .i64 m.fall] 27)).heap.size = w.heap.size + 1 + 1 := by simp
  have hm3 : (((w.alloc (LHo h)).alloc (.cells #[.string m.name, .int .i64 m.to, .int .i64 m.spd, .int .i64 m.rise, .int .i64 m.fall] 27)).alloc (.cells #[.int .i64 T.1, .int .i64 T.2] 29)).heap.size = w.heap.size + 1 + 1 + 1 := by simp
  rw [hm1] at mat1;rw [hm2] at tat1;rw [hm3] at zat1;generalize ((((w.alloc (LHo h)).alloc (.cells #[.string m.name, .int .i64 m.to, .int .i64 m.spd, .int .i64 m.rise, .int .i64 m.fall] 27)).alloc (.cells #[.int .i64 T.1, .int .i64 T.2] 29)).alloc (.cells #[.int .i64 0, .int .i64 0] 29)) = W0 at *;have HAT := lh hat1;have MAT := lh mat1;have TAT := lh tat1;have ZAT := lh zat1;clear hat1 mat1 tat1 zat1 hm1 hm2 hm3;obtain ⟨k0, k1, k2, k3⟩ := HAT.out;obtain ⟨m0, m1, m2, m3, m4⟩ := MAT.out;obtain ⟨t0, t1, _⟩ := TAT.out
  go_wp2_with (first
   | (go_at_call 25; (with_reducible refine (HTI.out _ hW0).mono ?_); rintro e w1 ⟨hv, hb1⟩; obtain ⟨v, rfl, htv⟩ := hv.out; rw [HE.out]; clear k0 k1 k2 k3 m0 m1 m2 m3 m4 t0 t1; obtain ⟨t0, t1, _⟩ := TAT.out.carry hb1; obtain ⟨q0, q1, q2, q3, q4⟩ := ZAT.out.carry hb1; obtain ⟨Bp, rfl, hpc⟩ := htv.1 HE.out; have HP := lh hpc; clear hpc htv hv)
   | (go_at_call 26; (with_reducible refine (HQ.out _ _ HP.out).mono ?_); rintro e w2 ⟨rfl, hb2⟩; clear q0 q1 q2 q3 q4; obtain ⟨q0, q1, q2, q3, q4⟩ := (ZAT.out.carry hb1).carry hb2))
  have l0 := (two_cells (v0 := .int .i64 A.1) (v1 := .int .i64 A.2.1) q0 q1).1;have l1 := (two_cells (v0 := .int .i64 A.1) (v1 := .int .i64 A.2.1) q0 q1).2;refine bodyPost_ret (v := .tuple #[.agg #[.int .i64 A.1, .int .i64 A.2.1], .int .i64 A.2.2]) (by simp [results, Tryz.results7, go_sem, l0, l1]) rfl ⟨rfl, ?_⟩;exact below_s _ _ (below_s _ _ (hW0.trans ((hb1.trans (hb2.mono hb1.size)).mono hW0.size)) (show w.heap.size ≤ w.heap.size + 1 + 1 + 1 by omega)) (show w.heap.size ≤ w.heap.size + 1 + 1 + 1 by omega)
 ·have HR : Hid (matP h f m T t = (0, 0, e)) := lh (by unfold matP; rw [if_neg (by rw [he]; exact z), he])
  rw [HR.out];have z1 : (e != 0) = true := by simpa using z
  have HN : Hid (¬ mtE h f m T = 0) := lh (by rw [he]; exact z);clear he z
  go_enter Tryz.func7, Tryz.ntmps7
  go_upto_region 1 with (fail)
  have hat1 := (((HouseAt.new w h 25).carry (below_new (w.alloc (LHo h)) (.cells #[.string m.name, .int .i64 m.to, .int .i64 m.spd, .int .i64 m.rise, .int .i64 m.fall] 27))).carry (below_new ((w.alloc (LHo h)).alloc (.cells #[.string m.name, .int .i64 m.to, .int .i64 m.spd, .int .i64 m.rise, .int .i64 m.fall] 27)) (.cells #[.int .i64 T.1, .int .i64 T.2] 29))).carry (below_new (((w.alloc (LHo h)).alloc (.cells #[.string m.name, .int .i64 m.to, .int .i64 m.spd, .int .i64 m.rise, .int .i64 m.fall] 27)).alloc (.cells #[.int .i64 T.1, .int .i64 T.2] 29)) (.cells #[.int .i64 0, .int .i64 0] 29));have mat1 := ((MvAt.new (w.alloc (LHo h)) m 27).carry (below_new ((w.alloc (LHo h)).alloc (.cells #[.string m.name, .int .i64 m.to, .int .i64 m.spd, .int .i64 m.rise, .int .i64 m.fall] 27)) (.cells #[.int .i64 T.1, .int .i64 T.2] 29))).carry (below_new (((w.alloc (LHo h)).alloc (.cells #[.string m.name, .int .i64 m.to, .int .i64 m.spd, .int .i64 m.rise, .int .i64 m.fall] 27)).alloc (.cells #[.int .i64 T.1, .int .i64 T.2] 29)) (.cells #[.int .i64 0, .int .i64 0] 29));have tat1 := (FI.put ((w.alloc (LHo h)).alloc (.cells #[.string m.name, .int .i64 m.to, .int .i64 m.spd, .int .i64 m.rise, .int .i64 m.fall] 27)) T.1 T.2 29).carry (below_new (((w.alloc (LHo h)).alloc (.cells #[.string m.name, .int .i64 m.to, .int .i64 m.spd, .int .i64 m.rise, .int .i64 m.fall] 27)).alloc (.cells #[.int .i64 T.1, .int .i64 T.2] 29)) (.cells #[.int .i64 0, .int .i64 0] 29));have zat1 := FI.new (((w.alloc (LHo h)).alloc (.cells #[.string m.name, .int .i64 m.to, .int .i64 m.spd, .int .i64 m.rise, .int .i64 m.fall] 27)).alloc (.cells #[.int .i64 T.1, .int .i64 T.2] 29)) 29;have hW0 := (((below_new w (LHo h)).alloc (by simp) (.cells #[.string m.name, .int .i64 m.to, .int .i64 m.spd, .int .i64 m.rise, .int .i64 m.fall] 27)).alloc (by simp <;> omega) (.cells #[.int .i64 T.1, .int .i64 T.2] 29)).alloc (by simp <;> omega) (.cells #[.int .i64 0, .int .i64 0] 29);have hm1 : (w.alloc (LHo h)).heap.size = w.heap.size + 1 := by simp
  have hm2 : ((w.alloc (LHo h)).alloc (.cells #[.string m.name, .int .i64 m.to, .int .i64 m.spd, .int .i64 m.rise, .int .i64 m.fall] 27)).heap.size = w.heap.size + 1 + 1 := by simp
  have hm3 : (((w.alloc (LHo h)).alloc (.cells #[.string m.name, .int .i64 m.to, .int .i64 m.spd, .int .i64 m.rise, .int .i64 m.fall] 27)).alloc (.cells #[.int .i64 T.1, .int .i64 T.2] 29)).heap.size = w.heap.size + 1 + 1 + 1 := by simp
  rw [hm1] at mat1;rw [hm2] at tat1;rw [hm3] at zat1;generalize ((((w.alloc (LHo h)).alloc (.cells #[.string m.name, .int .i64 m.to, .int .i64 m.spd, .int .i64 m.rise, .int .i64 m.fall] 27)).alloc (.cells #[.int .i64 T.1, .int .i64 T.2] 29)).alloc (.cells #[.int .i64 0, .int .i64 0] 29)) = W0 at *;have HAT := lh hat1;have MAT := lh mat1;have TAT := lh tat1;have ZAT := lh zat1;clear hat1 mat1 tat1 zat1 hm1 hm2 hm3;obtain ⟨k0, k1, k2, k3⟩ := HAT.out;obtain ⟨m0, m1, m2, m3, m4⟩ := MAT.out;obtain ⟨t0, t1, _⟩ := TAT.out
  go_wp2_with (go_at_call 25; (with_reducible refine (HTI.out _ hW0).mono ?_); rintro e w1 ⟨hv, hb1⟩; obtain ⟨v, rfl, htv⟩ := hv.out; rw [HE.out]; clear k0 k1 k2 k3 m0 m1 m2 m3 m4 t0 t1; obtain ⟨t0, t1, _⟩ := TAT.out.carry hb1; obtain ⟨q0, q1, q2, q3, q4⟩ := ZAT.out.carry hb1; obtain rfl := htv.2 HN.out; clear htv hv)
  have l0 := (two_cells (v0 := .int .i64 0) (v1 := .int .i64 0) q0 q1).1;have l1 := (two_cells (v0 := .int .i64 0) (v1 := .int .i64 0) q0 q1).2;refine bodyPost_ret (v := .tuple #[.agg #[.int .i64 0, .int .i64 0], .int .i64 e]) (by simp [results, Tryz.results7, go_sem, l0, l1]) rfl ⟨rfl, ?_⟩;exact below_s _ _ (below_s _ _ (hW0.trans (hb1.mono hW0.size)) (show w.heap.size ≤ w.heap.size + 1 + 1 + 1 by omega)) (show w.heap.size ≤ w.heap.size + 1 + 1 + 1 by omega)
def haltX (v : Int × Int × Int) : Int × Int × Int := mulP v.1 v.2.1 v.1 v.2.1
def haltY (x : Int × Int × Int) (F : Int) : Int × Int × Int := mulP x.1 x.2.1 1 (2 * F)
def haltZ (up : Bool) (p y : Int × Int × Int) : Int × Int × Int := if up then addP p.1 p.2.1 y.1 y.2.1 else addP p.1 p.2.1 (-y.1) y.2.1
def haltQ (p v : Int × Int × Int) (F : Int) (up : Bool) : Int × Int × Int :=
 if p.2.2 = 0 then (if v.2.2 = 0 then (if (haltX v).2.2 = 0 then (if (haltY (haltX v) F).2.2 = 0 then haltZ up p (haltY (haltX v) F) else (0, 0, (haltY (haltX v) F).2.2)) else (0, 0, (haltX v).2.2)) else (0, 0, v.2.2)) else (0, 0, p.2.2)
theorem halt_keep {w W y : World} {Bx Bp Bz Bm : Nat} {x1 x2 p1 p2 y1 y2 : Int} {u : Value} (hB : Below w.heap.size w W) (hy : Below W.heap.size W y) (fx : FI W Bx x1 x2) (fp : FI W Bp p1 p2) (fz : FI W Bz 0 0) (hm : W.cell? ⟨Bm, 1, none⟩ = some u) (hl : Bm < W.heap.size) (n : w.heap.size ≤ Bx ∧ Bp ≠ Bx ∧ Bz ≠ Bx ∧ Bm ≠ Bx) :
  Below w.heap.size w ((y.setCell ⟨Bx, 0, none⟩ (.int .i64 y1)).setCell ⟨Bx, 1, none⟩ (.int .i64 y2)) ∧ FI ((y.setCell ⟨Bx, 0, none⟩ (.int .i64 y1)).setCell ⟨Bx, 1, none⟩ (.int .i64 y2)) Bx y1 y2 ∧ FI ((y.setCell ⟨Bx, 0, none⟩ (.int .i64 y1)).setCell ⟨Bx, 1, none⟩ (.int .i64 y2)) Bp p1 p2 ∧ FI ((y.setCell ⟨Bx, 0, none⟩ (.int .i64 y1)).setCell ⟨Bx, 1, none⟩ (.int .i64 y2)) Bz 0 0 ∧ ((y.setCell ⟨Bx, 0, none⟩ (.int .i64 y1)).setCell ⟨Bx, 1, none⟩ (.int .i64 y2)).cell? ⟨Bm, 1, none⟩ = some u :=
 ⟨below_s _ _ (below_s _ _ (hB.trans (hy.mono hB.size)) n.1) n.1, (fx.carry hy).set _ _, (fp.carry hy).other n.2.1 _ _, (fz.carry hy).other n.2.2.1 _ _, (two_other n.2.2.2 _ _ _).trans ((hy.cell (p := ⟨Bm, 1, none⟩) hl).trans hm)⟩
open Classical in
noncomputable def haltP (h : HouseR) (f : Int) (m : Mv) (T : Int × Int) (t : Int) : Int × Int × Int := if mtE h f m T = 0 then haltQ (atP (mpL f m t) T) (slopeP (mpL f m t) T) m.fall (decide (f < m.to)) else (0, 0, mtE h f m T)
theorem mhalt_any (h : HouseR) (f : Int) (m : Mv) (T : Int × Int) (t : Int) (ht : mgE h f m = 0 → IsTop (mgD f m) m.spd m.rise m.fall t) (w : World) (hh : HouseIn w h) :
  Calls Tryz.prog 8 #[.agg #[.string h.name, .int .i64 h.height, .slice h.sa h.sets.length h.sc, .slice h.ra h.roofs.length h.rc], .int .i64 f, .agg #[.string m.name, .int .i64 m.to, .int .i64 m.spd, .int .i64 m.rise, .int .i64 m.fall], .agg #[.int .i64 T.1, .int .i64 T.2]] w fun e w' => e = .returned (.tuple #[.agg #[.int .i64 (haltP h f m T t).1, .int .i64 (haltP h f m T t).2.1], .int .i64 (haltP h f m T t).2.2]) ∧ Below w.heap.size w w' := by
 have HTI : Hid (∀ w' : World, Below w.heap.size w w' → Calls Tryz.prog 25 #[.agg #[.string h.name, .int .i64 h.height, .slice h.sa h.sets.length h.sc, .slice h.ra h.roofs.length h.rc], .int .i64 f, .agg #[.string m.name, .int .i64 m.to, .int .i64 m.spd, .int .i64 m.rise, .int .i64 m.fall], .agg #[.int .i64 T.1, .int .i64 T.2]] w' fun e w2 => Hid (∃ v, e = .returned (.tuple #[v, .int .i64 (mtE h f m T)]) ∧ TimedV w2 h f m t T v) ∧ Below w'.heap.size w' w2) := lh fun w' hb => mtimed_any h f m T t ht w' (hh.grow hb);have HHT := lh ht;clear hh ht;obtain ⟨e, he⟩ := nm (mtE h f m T);have HE := lh he;obtain ⟨Z, hZ⟩ := nm (haltP h f m T t);have HZ := lh hZ;rw [hZ];have HD : Hid (haltP h f m T t = if e = 0 then haltQ (atP (mpL f m t) T) (slopeP (mpL f m t) T) m.fall (decide (f < m.to)) else (0, 0, e)) := lh (by unfold haltP; rw [he]);clear he hZ
 go_enter Tryz.func8, Tryz.ntmps8
 go_upto_region 1 with (fail)
 have hat1 := (((HouseAt.new w h 25).carry (below_new (w.alloc (LHo h)) (.cells #[.string m.name, .int .i64 m.to, .int .i64 m.spd, .int .i64 m.rise, .int .i64 m.fall] 27))).carry (below_new ((w.alloc (LHo h)).alloc (.cells #[.string m.name, .int .i64 m.to, .int .i64 m.spd, .int .i64 m.rise, .int .i64 m.fall] 27)) (.cells #[.int .i64 T.1, .int .i64 T.2] 29))).carry (below_new (((w.alloc (LHo h)).alloc (.cells #[.string m.name, .int .i64 m.to, .int .i64 m.spd, .int .i64 m.rise, .int .i64 m.fall] 27)).alloc (.cells #[.int .i64 T.1, .int .i64 T.2] 29)) (.cells #[.int .i64 0, .int .i64 0] 29));have mat1 := ((MvAt.new (w.alloc (LHo h)) m 27).carry (below_new ((w.alloc (LHo h)).alloc (.cells #[.string m.name, .int .i64 m.to, .int .i64 m.spd, .int .i64 m.rise, .int .i64 m.fall] 27)) (.cells #[.int .i64 T.1, .int .i64 T.2] 29))).carry (below_new (((w.alloc (LHo h)).alloc (.cells #[.string m.name, .int .i64 m.to, .int .i64 m.spd, .int .i64 m.rise, .int .i64 m.fall] 27)).alloc (.cells #[.int .i64 T.1, .int .i64 T.2] 29)) (.cells #[.int .i64 0, .int .i64 0] 29));have tat1 := (FI.put ((w.alloc (LHo h)).alloc (.cells #[.string m.name, .int .i64 m.to, .int .i64 m.spd, .int .i64 m.rise, .int .i64 m.fall] 27)) T.1 T.2 29).carry (below_new (((w.alloc (LHo h)).alloc (.cells #[.string m.name, .int .i64 m.to, .int .i64 m.spd, .int .i64 m.rise, .int .i64 m.fall] 27)).alloc (.cells #[.int .i64 T.1, .int .i64 T.2] 29)) (.cells #[.int .i64 0, .int .i64 0] 29));have zat1 := FI.new (((w.alloc (LHo h)).alloc (.cells #[.string m.name, .int .i64 m.to, .int .i64 m.spd, .int .i64 m.rise, .int .i64 m.fall] 27)).alloc (.cells #[.int .i64 T.1, .int .i64 T.2] 29)) 29;have hW0 := (((below_new w (LHo h)).alloc (by simp) (.cells #[.string m.name, .int .i64 m.to, .int .i64 m.spd, .int .i64 m.rise, .int .i64 m.fall] 27)).alloc (by simp <;> omega) (.cells #[.int .i64 T.1, .int .i64 T.2] 29)).alloc (by simp <;> omega) (.cells #[.int .i64 0, .int .i64 0] 29);have hm1 : (w.alloc (LHo h)).heap.size = w.heap.size + 1 := by simp
 have hm2 : ((w.alloc (LHo h)).alloc (.cells #[.string m.name, .int .i64 m.to, .int .i64 m.spd, .int .i64 m.rise, .int .i64 m.fall] 27)).heap.size = w.heap.size + 1 + 1 := by simp
 have hm3 : (((w.alloc (LHo h)).alloc (.cells #[.string m.name, .int .i64 m.to, .int .i64 m.spd, .int .i64 m.rise, .int .i64 m.fall] 27)).alloc (.cells #[.int .i64 T.1, .int .i64 T.2] 29)).heap.size = w.heap.size + 1 + 1 + 1 := by simp
 rw [hm1] at mat1;rw [hm2] at tat1;rw [hm3] at zat1;generalize ((((w.alloc (LHo h)).alloc (.cells #[.string m.name, .int .i64 m.to, .int .i64 m.spd, .int .i64 m.rise, .int .i64 m.fall] 27)).alloc (.cells #[.int .i64 T.1, .int .i64 T.2] 29)).alloc (.cells #[.int .i64 0, .int .i64 0] 29)) = W0 at *;have HAT := lh hat1;have MAT := lh mat1;have TAT := lh tat1;have ZAT := lh zat1;clear hat1 mat1 tat1 zat1 hm1 hm2 hm3;obtain ⟨k0, k1, k2, k3⟩ := HAT.out;obtain ⟨m0, m1, m2, m3, m4⟩ := MAT.out;obtain ⟨t0, t1, _⟩ := TAT.out
 go_upto_region 2 with (go_at_call 25; (with_reducible refine (HTI.out _ hW0).mono ?_); rintro e w1 ⟨hv, hb1⟩; obtain ⟨v, rfl, htv⟩ := hv.out; rw [HE.out])
 have HTV := lh htv;clear k0 k1 k2 k3 m0 m1 m2 m3 m4 t0 t1 htv hv;have FZ := ZAT.out.carry hb1;have FT := TAT.out.carry hb1;have FM := MAT.out.carry hb1;have hB := hW0.trans (hb1.mono hW0.size)
 by_cases z : e = 0
 ·subst z
  obtain ⟨Bc, rfl, hpc⟩ := HTV.out.1 HE.out;obtain ⟨g0, vT, _⟩ := mt_ok HE.out;have hok := mp_ok g0 (HHT.out g0)
  obtain ⟨f0, f1, tf⟩ : 0 ≤ f ∧ f ≤ 1048576 ∧ (1 ≤ m.fall ∧ m.fall ≤ 16384) := by
   obtain ⟨_, vm, f0, f1, _⟩ := mg_ok g0;have := valid_bds vm;exact ⟨f0, f1, by omega, by omega⟩
  obtain ⟨L, hL⟩ := nm (mpL f m t);rw [hL] at hpc hok HD ⊢;have HP := lh hpc;obtain ⟨P, hP⟩ := nm (atP L T);obtain ⟨V, hV⟩ := nm (slopeP L T);have HPV : Hid (P.2.2 = 0 → vF (P.1, P.2.1) = true) := lh (by rw [← hP]; exact fun q => atP_valid hok vT q);have HVV : Hid (V.2.2 = 0 → vF (V.1, V.2.1) = true) := lh (by rw [← hV]; exact fun q => slopeP_valid hok vT q)
  have HQ : Hid (∀ w : World, Pcs w.heap.size w (some ⟨Bc, 0, none⟩) L → Calls Tryz.prog 26 #[.slice (some ⟨Bc, 0, none⟩) L.length L.length, .agg #[.int .i64 T.1, .int .i64 T.2]] w fun e w' => e = .returned (.tuple #[.agg #[.int .i64 P.1, .int .i64 P.2.1], .int .i64 P.2.2]) ∧ Below w.heap.size w w') := lh fun w hp => by
   have := qat_any L hok T (some ⟨Bc, 0, none⟩) L.length w hp
   rwa [hP] at this
  have HS : Hid (∀ w : World, Pcs w.heap.size w (some ⟨Bc, 0, none⟩) L → Calls Tryz.prog 27 #[.slice (some ⟨Bc, 0, none⟩) L.length L.length, .agg #[.int .i64 T.1, .int .i64 T.2]] w fun e w' => e = .returned (.tuple #[.agg #[.int .i64 V.1, .int .i64 V.2.1], .int .i64 V.2.2]) ∧ Below w.heap.size w w') := lh fun w hp => by
   have := qslopeAt_any L hok T (some ⟨Bc, 0, none⟩) L.length w hp
   rwa [hV] at this
  rw [hP, hV, if_pos rfl] at HD;clear hpc g0 vT hok hL hP hV HTV HTI;obtain ⟨t0, t1, _⟩ := FT
  go_upto_region 5 with (go_at_call 26; (with_reducible refine (HQ.out _ HP.out).mono ?_); rintro e w2 ⟨rfl, hbs⟩)
  clear t0 t1;have FT := TAT.out.carry hb1;replace FZ := FZ.carry hbs;replace FT := FT.carry hbs;replace FM := FM.carry hbs;replace hB := hB.trans (hbs.mono hB.size);replace HP := lh (HP.out.grow hbs);clear hbs;replace HP := lh (HP.out.grow (below_new w2 (.cells #[.int .i64 (P.1), .int .i64 (P.2.1)] 29)));have FBp := FI.put w2 (P.1) (P.2.1) 29;have hbn := below_new w2 (.cells #[.int .i64 (P.1), .int .i64 (P.2.1)] 29);replace FZ := FZ.carry hbn;replace FT := FT.carry hbn;replace FM := FM.carry hbn;replace hB := hB.trans (hbn.mono hB.size);clear hbn;obtain ⟨Bp, hBp⟩ := nm (w2.heap.size);simp only [hBp] at FBp ⊢;generalize w2.alloc (.cells #[.int .i64 (P.1), .int .i64 (P.2.1)] 29) = W2 at *;clear hBp
  by_cases zp : P.2.2 = 0
  ·have p1 : (P.2.2 != 0) = false := by simpa using zp
   have t0 := FT.1;have t1 := FT.2.1
   go_upto_region 8 with (go_at_call 27; (with_reducible refine (HS.out _ HP.out).mono ?_); rintro e w3 ⟨rfl, hbs⟩)
   clear t0 t1 p1;replace FZ := FZ.carry hbs;replace FBp := FBp.carry hbs;replace FM := FM.carry hbs;replace hB := hB.trans (hbs.mono hB.size);clear hbs FT HP;have FBv := FI.put w3 (V.1) (V.2.1) 29;have hbn := below_new w3 (.cells #[.int .i64 (V.1), .int .i64 (V.2.1)] 29);replace FZ := FZ.carry hbn;replace FBp := FBp.carry hbn;replace FM := FM.carry hbn;replace hB := hB.trans (hbn.mono hB.size);clear hbn;obtain ⟨Bv, hBv⟩ := nm (w3.heap.size);simp only [hBv] at FBv ⊢;generalize w3.alloc (.cells #[.int .i64 (V.1), .int .i64 (V.2.1)] 29) = W3 at *;clear hBv
   by_cases zv : V.2.2 = 0
   ·have p1 : (V.2.2 != 0) = false := by simpa using zv
    have vV := HVV.out zv;have hX := mul_any V.1 V.2.1 V.1 V.2.1 vV vV;obtain ⟨X, hXe⟩ := nm (haltX V);rw [show mulP V.1 V.2.1 V.1 V.2.1 = X from hXe] at hX;have HX := lh hX;have HXV : Hid (X.2.2 = 0 → vF (X.1, X.2.1) = true) := lh (by rw [← hXe]; exact fun q => (mulP_ok (a := (V.1, V.2.1)) (b := (V.1, V.2.1)) (den_pos vV) (den_pos vV) q).1);have HXE := lh hXe;clear hX vV hXe;have t0 := FBv.1;have t1 := FBv.2.1
    go_upto_region 11 with (go_at_call 28; (with_reducible refine (HX.out _).mono ?_); rintro e w4 ⟨rfl, hbs⟩)
    clear t0 t1 p1;replace FZ := FZ.carry hbs;replace FBp := FBp.carry hbs;replace FM := FM.carry hbs;replace hB := hB.trans (hbs.mono hB.size);clear hbs FBv;have HBNE : w.heap.size ≤ w4.heap.size ∧ Bp ≠ w4.heap.size ∧ w.heap.size + 1 + 1 + 1 ≠ w4.heap.size ∧ w.heap.size + 1 ≠ w4.heap.size := ⟨hB.size, Nat.ne_of_lt FBp.2.2.2.2, Nat.ne_of_lt FZ.2.2.2.2, by have := FZ.2.2.2.2; omega⟩;have FBx := FI.put w4 (X.1) (X.2.1) 29;have hbn := below_new w4 (.cells #[.int .i64 (X.1), .int .i64 (X.2.1)] 29);replace FZ := FZ.carry hbn;replace FBp := FBp.carry hbn;replace FM := FM.carry hbn;replace hB := hB.trans (hbn.mono hB.size);clear hbn;obtain ⟨Bx, hBx⟩ := nm (w4.heap.size);simp only [hBx] at FBx HBNE ⊢;generalize w4.alloc (.cells #[.int .i64 (X.1), .int .i64 (X.2.1)] 29) = W4 at *;clear hBx
    by_cases zx : X.2.2 = 0
    ·have p1 : (X.2.2 != 0) = false := by simpa using zx
     have vX := HXV.out zx;have v2 : validF (2 * m.fall) 1 = true := (validF_iff _ _).2 ⟨by decide, by decide, by omega, by omega, by simp⟩;have hY := divP_any X.1 X.2.1 (2 * m.fall) 1 vX v2 (by omega);obtain ⟨Y, hYe⟩ := nm (haltY X m.fall);rw [show mulP X.1 X.2.1 1 (2 * m.fall) = Y from hYe] at hY;have HY := lh hY;have v3 : validF 1 (2 * m.fall) = true := (validF_iff _ _).2 ⟨by omega, by omega, by decide, by decide, by simp⟩;have HYV : Hid (Y.2.2 = 0 → vF (Y.1, Y.2.1) = true) := lh (by rw [← hYe]; exact fun q => (mulP_ok (a := (X.1, X.2.1)) (b := (1, 2 * m.fall)) (den_pos vX) (den_pos (a := (1, 2 * m.fall)) v3) q).1);have HYE := lh hYe;have w2 : IntKind.i64.wrap (2 * m.fall) = 2 * m.fall := IntWalk.i64_in _ (by omega);clear hY vX v2 v3 hYe
     go_upto_region 13 with (fail)
     have hbr : Below W4.heap.size W4 W4 := br;have HFX := lh FBx;have HFM := lh FM;have HFP := lh FBp;have HFZ := lh FZ;have HBN : Hid (w.heap.size + 1 < W4.heap.size ∧ w.heap.size ≤ Bx ∧ Bp ≠ Bx ∧ w.heap.size + 1 + 1 + 1 ≠ Bx ∧ w.heap.size + 1 ≠ Bx) := lh ⟨by have := FZ.2.2.2.2; omega, HBNE⟩;have HBB := lh hB;have HW4 := lh hB.size;clear FZ FBp hB;obtain ⟨x0, x1, x2, x3, x4⟩ := FBx;obtain ⟨n0, n1, n2, n3, n4⟩ := FM
     go_region_with (first
      | (go_at_call 30; go_split_ands; (try rw [w2]); (with_reducible refine (mof_any (2 * m.fall) _).mono ?_); rintro e y1 ⟨rfl, hy1⟩; have hx1 : Below W4.heap.size W4 y1 := (by first | exact hbr.drew.trans hy1 | exact hbr.trans hy1); obtain ⟨x0, x1, x2, x3, x4⟩ := HFX.out.carry hx1)
      | (go_at_call 29; go_split_ands; (with_reducible refine (HY.out _).mono ?_); rintro e y2 ⟨rfl, hy2⟩; have hx2 : Below W4.heap.size W4 y2 := (by first | exact held_next hx1 hy2 | exact hx1.trans (hy2.mono hx1.size)); obtain ⟨x0, x1, x2, x3, x4⟩ := HFX.out.carry hx2))
     all_goals simp only [Act.put, List.setIfInBounds_toArray, List.set_cons_zero, List.set_cons_succ, List.getElem_toArray, List.getElem_cons_succ, List.getElem_cons_zero]
     all_goals
      obtain ⟨hB, FBx, FBp, FZ, MT⟩ := halt_keep (y1 := Y.1) (y2 := Y.2.1) HBB.out hx2 HFX.out HFP.out HFZ.out HFM.out.2.1 HBN.out.1 HBN.out.2;clear x0 x1 x2 x3 x4;generalize (y2.setCell ⟨Bx, 0, none⟩ (.int .i64 Y.1)).setCell ⟨Bx, 1, none⟩ (.int .i64 Y.2.1) = wx at *
      by_cases zy : Y.2.2 = 0
      ·have p1 : (Y.2.2 != 0) = false := by simpa using zy
       have vY := HYV.out zy;have vP := HPV.out zp;clear HFX HFM HFP HFZ HBN HBB HW4 hbr
       by_cases n : f < m.to
       ·have g := decide_eq_true n
        obtain ⟨R, hR⟩ := nm (addP P.1 P.2.1 Y.1 Y.2.1);have hA := add_all P.1 P.2.1 Y.1 Y.2.1 vP vY;rw [hR] at hA;have HA := lh hA;have HR : Hid (Z = R) := lh (by rw [← HZ.out, HD.out]; unfold haltQ; rw [if_pos zp, if_pos zv, HXE.out, if_pos zx, HYE.out, if_pos zy, g]; exact hR);have HFZ2 := lh FZ;clear hA hR vP vY n;obtain ⟨x0, x1, _⟩ := FBx;obtain ⟨b0, b1, _⟩ := FBp;clear FZ
        go_wp2_with (go_at_call 31; (with_reducible refine (HA.out _).mono ?_); rintro e w6 ⟨rfl, hb6⟩; obtain ⟨q0, q1, q2, q3, q4⟩ := HFZ2.out.carry hb6)
        have l0 := (two_cells (v0 := .int .i64 R.1) (v1 := .int .i64 R.2.1) q0 q1).1;have l1 := (two_cells (v0 := .int .i64 R.1) (v1 := .int .i64 R.2.1) q0 q1).2;refine bodyPost_ret (v := .tuple #[.agg #[.int .i64 R.1, .int .i64 R.2.1], .int .i64 R.2.2]) (by simp [results, Tryz.results8, go_sem, l0, l1]) rfl ⟨by rw [HR.out], ?_⟩;exact below_s _ _ (below_s _ _ (hB.trans (hb6.mono hB.size)) (show w.heap.size ≤ w.heap.size + 1 + 1 + 1 by omega)) (show w.heap.size ≤ w.heap.size + 1 + 1 + 1 by omega)
       ·have g := decide_eq_false n
        obtain ⟨R, hR⟩ := nm (addP P.1 P.2.1 (-Y.1) Y.2.1);have hA := sub_all P.1 P.2.1 Y.1 Y.2.1 vP vY;rw [hR] at hA;have HA := lh hA;have HR : Hid (Z = R) := lh (by rw [← HZ.out, HD.out]; unfold haltQ; rw [if_pos zp, if_pos zv, HXE.out, if_pos zx, HYE.out, if_pos zy, g]; exact hR);have HFZ2 := lh FZ;clear hA hR vP vY n;obtain ⟨x0, x1, _⟩ := FBx;obtain ⟨b0, b1, _⟩ := FBp;clear FZ
        go_wp2_with (go_at_call 32; (with_reducible refine (HA.out _).mono ?_); rintro e w6 ⟨rfl, hb6⟩; obtain ⟨q0, q1, q2, q3, q4⟩ := HFZ2.out.carry hb6)
        have l0 := (two_cells (v0 := .int .i64 R.1) (v1 := .int .i64 R.2.1) q0 q1).1;have l1 := (two_cells (v0 := .int .i64 R.1) (v1 := .int .i64 R.2.1) q0 q1).2;refine bodyPost_ret (v := .tuple #[.agg #[.int .i64 R.1, .int .i64 R.2.1], .int .i64 R.2.2]) (by simp [results, Tryz.results8, go_sem, l0, l1]) rfl ⟨by rw [HR.out], ?_⟩;exact below_s _ _ (below_s _ _ (hB.trans (hb6.mono hB.size)) (show w.heap.size ≤ w.heap.size + 1 + 1 + 1 by omega)) (show w.heap.size ≤ w.heap.size + 1 + 1 + 1 by omega)
      ·have p1 : (Y.2.2 != 0) = true := by simpa using zy
       have HR : Hid (Z = (0, 0, Y.2.2)) := lh (by rw [← HZ.out, HD.out]; unfold haltQ; rw [if_pos zp, if_pos zv, HXE.out, if_pos zx, HYE.out, if_neg zy]);clear zy;obtain ⟨q0, q1, q2, q3, q4⟩ := FZ
       go_wp2_with fail
       have l0 := (two_cells (v0 := .int .i64 0) (v1 := .int .i64 0) q0 q1).1;have l1 := (two_cells (v0 := .int .i64 0) (v1 := .int .i64 0) q0 q1).2;refine bodyPost_ret (v := .tuple #[.agg #[.int .i64 0, .int .i64 0], .int .i64 Y.2.2]) (by simp [results, Tryz.results8, go_sem, l0, l1]) rfl ⟨by rw [HR.out], ?_⟩;exact below_s _ _ (below_s _ _ hB (show w.heap.size ≤ w.heap.size + 1 + 1 + 1 by omega)) (show w.heap.size ≤ w.heap.size + 1 + 1 + 1 by omega)
    ·have p1 : (X.2.2 != 0) = true := by simpa using zx
     have HR : Hid (Z = (0, 0, X.2.2)) := lh (by rw [← HZ.out, HD.out]; unfold haltQ; rw [if_pos zp, if_pos zv, HXE.out, if_neg zx]);clear zx;obtain ⟨q0, q1, q2, q3, q4⟩ := FZ
     go_wp2_with fail
     have l0 := (two_cells (v0 := .int .i64 0) (v1 := .int .i64 0) q0 q1).1;have l1 := (two_cells (v0 := .int .i64 0) (v1 := .int .i64 0) q0 q1).2;refine bodyPost_ret (v := .tuple #[.agg #[.int .i64 0, .int .i64 0], .int .i64 X.2.2]) (by simp [results, Tryz.results8, go_sem, l0, l1]) rfl ⟨by rw [HR.out], ?_⟩;exact below_s _ _ (below_s _ _ hB (show w.heap.size ≤ w.heap.size + 1 + 1 + 1 by omega)) (show w.heap.size ≤ w.heap.size + 1 + 1 + 1 by omega)
   ·have p1 : (V.2.2 != 0) = true := by simpa using zv
    have HR : Hid (Z = (0, 0, V.2.2)) := lh (by rw [← HZ.out, HD.out]; unfold haltQ; rw [if_pos zp, if_neg zv]);clear zv;obtain ⟨q0, q1, q2, q3, q4⟩ := FZ
    go_wp2_with fail
    have l0 := (two_cells (v0 := .int .i64 0) (v1 := .int .i64 0) q0 q1).1;have l1 := (two_cells (v0 := .int .i64 0) (v1 := .int .i64 0) q0 q1).2;refine bodyPost_ret (v := .tuple #[.agg #[.int .i64 0, .int .i64 0], .int .i64 V.2.2]) (by simp [results, Tryz.results8, go_sem, l0, l1]) rfl ⟨by rw [HR.out], ?_⟩;exact below_s _ _ (below_s _ _ hB (show w.heap.size ≤ w.heap.size + 1 + 1 + 1 by omega)) (show w.heap.size ≤ w.heap.size + 1 + 1 + 1 by omega)
  ·have p1 : (P.2.2 != 0) = true := by simpa using zp
   have HR : Hid (Z = (0, 0, P.2.2)) := lh (by rw [← HZ.out, HD.out]; unfold haltQ; rw [if_neg zp]);clear zp;obtain ⟨q0, q1, q2, q3, q4⟩ := FZ
   go_wp2_with fail
   have l0 := (two_cells (v0 := .int .i64 0) (v1 := .int .i64 0) q0 q1).1;have l1 := (two_cells (v0 := .int .i64 0) (v1 := .int .i64 0) q0 q1).2;refine bodyPost_ret (v := .tuple #[.agg #[.int .i64 0, .int .i64 0], .int .i64 P.2.2]) (by simp [results, Tryz.results8, go_sem, l0, l1]) rfl ⟨by rw [HR.out], ?_⟩;exact below_s _ _ (below_s _ _ hB (show w.heap.size ≤ w.heap.size + 1 + 1 + 1 by omega)) (show w.heap.size ≤ w.heap.size + 1 + 1 + 1 by omega)
 ·have z1 : (e != 0) = true := by simpa using z
  have HR : Hid (Z = (0, 0, e)) := lh (by rw [← HZ.out, HD.out, if_neg z]);obtain rfl := HTV.out.2 (by rw [HE.out]; exact z);clear z;obtain ⟨q0, q1, q2, q3, q4⟩ := FZ
  go_wp2_with fail
  have l0 := (two_cells (v0 := .int .i64 0) (v1 := .int .i64 0) q0 q1).1;have l1 := (two_cells (v0 := .int .i64 0) (v1 := .int .i64 0) q0 q1).2;refine bodyPost_ret (v := .tuple #[.agg #[.int .i64 0, .int .i64 0], .int .i64 e]) (by simp [results, Tryz.results8, go_sem, l0, l1]) rfl ⟨by rw [HR.out], ?_⟩;exact below_s _ _ (below_s _ _ hB (show w.heap.size ≤ w.heap.size + 1 + 1 + 1 by omega)) (show w.heap.size ≤ w.heap.size + 1 + 1 + 1 by omega)
end
section
def timeL (L : List Pc) : Int × Int := ((pcg L (L.length - 1)).f0, (pcg L (L.length - 1)).f1)
theorem MoveC.vT {L : List Pc} {d t : Int} (mc : MoveC L d t) : vF (timeL L) = true := (mc.ok.val (L.length - 1) (by have := mc.ok.pos; omega)).vf
section
variable {h : HouseR} {f : Int} {m : Mv} {t : Int}
end
end
section
open Go.RowKit Go.Shelf
attribute [local go_sem] Oper.semAt_some
theorem ex_set (a s : Option Addr) : setE (exH a s) exV = 0 ∧ setO (exH a s) exV = exS a := by
 have hI : setI (exH a s) exV = 0 := by rfl
 have hE : setE (exH a s) exV = 0 := by unfold setE; rw [if_pos ⟨exH_ok a s, by rfl⟩, hI, if_neg (by decide)]
 refine ⟨hE, ?_⟩;unfold setO;rw [if_pos hE, hI]
 rfl
theorem ex_e (a s : Option Addr) : mgE (exH a s) 0 exV = 0 := by
 unfold mgE;rw [if_pos (ex_set a s).1, (ex_set a s).2, if_pos ⟨by rfl, by rfl⟩]
theorem ex_top : IsTop (mgD 0 exV) exV.spd exV.rise exV.fall 100 := ⟨by decide, by decide, by unfold Room; decide, .inl rfl⟩
theorem ex_end (a s : Option Addr) : endP (exH a s) 0 exV 100 = (23, 2) := by
 unfold endP;rw [if_pos (ex_e a s)]
 decide +kernel
theorem ex_t (a s : Option Addr) : mtE (exH a s) 0 exV (2, 1) = 0 := by
 unfold mtE;rw [if_pos ⟨exH_ok a s, by rfl, by decide⟩, if_pos (ex_e a s), if_neg (by decide)]
theorem ex_at (a s : Option Addr) : matP (exH a s) 0 exV (2, 1) 100 = (100, 1, 0) := by
 unfold matP;rw [if_pos (ex_t a s)]
 decide +kernel
theorem ex_halt (a s : Option Addr) : haltP (exH a s) 0 exV (2, 1) 100 = (150, 1, 0) := by
 unfold haltP;rw [if_pos (ex_t a s)]
 decide +kernel
noncomputable def awCode (n : Nat) : Code := ((Tryz.f5.body.bind (regionIn n)).getD .skip)
theorem awR3 {h : HouseR} {m : Mv} {A : Int × Int × Int} {Bh Bm : Nat} {W0 : World} {u3 u4 u5 u6 u7 u8 u9 u10 u11 u12 u13 u14 u15 u16 u17 u18 u19 u20 u21 u22 u23 u24 u25 u26 u27 u28 u29 u30 u31 u32 u33 u34 u35 u36 u37 u38 u39 u40 u41 u42 u43 u44 u45 u46 u47 u48 u49 u50 u51 u52 u53 u54 u55 u56 u57 : Value} {R : List Value} {K : Act → World → Prop} {Q0 : Exit → Act → World → Prop}
  (HC : Hid (∀ w : World, HouseIn w h → Calls Tryz.prog 7 #[.agg #[.string h.name, .int .i64 h.height, .slice h.sa h.sets.length h.sc, .slice h.ra h.roofs.length h.rc], .int .i64 0, .agg #[.string m.name, .int .i64 m.to, .int .i64 m.spd, .int .i64 m.rise, .int .i64 m.fall], .agg #[.int .i64 2, .int .i64 1]] w fun e w' => e = .returned (.tuple #[.agg #[.int .i64 A.1, .int .i64 A.2.1], .int .i64 A.2.2]) ∧ Below w.heap.size w w')) (HH : Hid (HouseIn W0 h)) (HX : Hid (∀ w', Below W0.heap.size W0 w' → (fun w' => w'.cell? ⟨Bh, 0, none⟩ = some (.string h.name) ∧ w'.cell? ⟨Bh, 1, none⟩ = some (.int .i64 h.height) ∧ w'.cell? ⟨Bh, 2, none⟩ = some (.slice h.sa h.sets.length h.sc) ∧ w'.cell? ⟨Bh, 3, none⟩ = some (.slice h.ra h.roofs.length h.rc) ∧ w'.cell? ⟨Bm, 0, none⟩ = some (.string m.name) ∧ w'.cell? ⟨Bm, 1, none⟩ = some (.int .i64 m.to) ∧ w'.cell? ⟨Bm, 2, none⟩ = some (.int .i64 m.spd) ∧ w'.cell? ⟨Bm, 3, none⟩ = some (.int .i64 m.rise) ∧ w'.cell? ⟨Bm, 4, none⟩ = some (.int .i64 m.fall)) w'))
  (hK : ∀ (v5 v6 v19 v20 v21 v22 v23 v24 v25 : Value) (wx : World), (∃ Bx : Nat, v5 = .pointer (some ⟨Bx, 0, none⟩) ∧ v6 = .int .i64 A.2.2 ∧ W0.heap.size ≤ Bx ∧ Below W0.heap.size W0 wx ∧ FI wx Bx A.1 A.2.1) → K ⟨List.toArray (.bool false :: .pointer (some ⟨Bh, 0, none⟩) :: .pointer (some ⟨Bm, 0, none⟩) :: u3 :: u4 :: v5 :: v6 :: u7 :: u8 :: u9 :: u10 :: u11 :: u12 :: u13 :: u14 :: u15 :: u16 :: u17 :: u18 :: v19 :: v20 :: v21 :: v22 :: v23 :: v24 :: v25 :: u26 :: u27 :: u28 :: u29 :: u30 :: u31 :: u32 :: u33 :: u34 :: u35 :: u36 :: u37 :: u38 :: u39 :: u40 :: u41 :: u42 :: u43 :: u44 :: u45 :: u46 :: u47 :: u48 :: u49 :: u50 :: u51 :: u52 :: u53 :: u54 :: u55 :: u56 :: u57 :: R), []⟩ wx) :
  Code.wp Tryz.prog (awCode 3) (Exit.then K Q0) ⟨List.toArray (.bool false :: .pointer (some ⟨Bh, 0, none⟩) :: .pointer (some ⟨Bm, 0, none⟩) :: u3 :: u4 :: u5 :: u6 :: u7 :: u8 :: u9 :: u10 :: u11 :: u12 :: u13 :: u14 :: u15 :: u16 :: u17 :: u18 :: u19 :: u20 :: u21 :: u22 :: u23 :: u24 :: u25 :: u26 :: u27 :: u28 :: u29 :: u30 :: u31 :: u32 :: u33 :: u34 :: u35 :: u36 :: u37 :: u38 :: u39 :: u40 :: u41 :: u42 :: u43 :: u44 :: u45 :: u46 :: u47 :: u48 :: u49 :: u50 :: u51 :: u52 :: u53 :: u54 :: u55 :: u56 :: u57 :: R), []⟩ W0 := by
 conv => arg 2; whnf
 refine wp_region_noPanic ?_;refine wp_region_held_drew (S := fun w' => w'.cell? ⟨Bh, 0, none⟩ = some (.string h.name) ∧ w'.cell? ⟨Bh, 1, none⟩ = some (.int .i64 h.height) ∧ w'.cell? ⟨Bh, 2, none⟩ = some (.slice h.sa h.sets.length h.sc) ∧ w'.cell? ⟨Bh, 3, none⟩ = some (.slice h.ra h.roofs.length h.rc) ∧ w'.cell? ⟨Bm, 0, none⟩ = some (.string m.name) ∧ w'.cell? ⟨Bm, 1, none⟩ = some (.int .i64 m.to) ∧ w'.cell? ⟨Bm, 2, none⟩ = some (.int .i64 m.spd) ∧ w'.cell? ⟨Bm, 3, none⟩ = some (.int .i64 m.rise) ∧ w'.cell? ⟨Bm, 4, none⟩ = some (.int .i64 m.fall)) (by kernel_rfl) (HX.out _ (br).drew) (fun hHeld => ?_);have hB0 := (Below.refl W0.heap.size W0).drew;obtain ⟨w0, hw0⟩ := nm (W0.drew);simp only [hw0] at hB0 hHeld ⊢;clear hw0;refine tkA 0 ?_;simp only [Act.put, s_1, s_2, s_3];refine tkA 1 ?_;simp only [Act.put, s_1, s_2, s_3];refine rq [2, 7] ?_;refine tkC (fun K hK => ?_) (tkC (fun K hK => ?_) (AllReadyH.nil))
 ·go_simp
  (go_at_call 23; go_split_ands; (with_reducible refine (lwhole_any 2 _).mono ?_); rintro e w1 ⟨rfl, hb1⟩)
  go_wp2_with fail
  have hB1 := hB0.trans (hb1.mono hB0.size);refine hK.out _ _ (HX.out _ hB1) (fun hHeld => ?_);clear hK K
  try simp only [Act.put, s_1, s_2, s_3]
  refine rq [3, 7] ?_;refine tkC (fun K hK => ?_) (tkC (fun K hK => ?_) (AllReadyH.nil))
  focus
   go_simp
   (go_at_call 7; go_split_ands; (with_reducible refine (HC.out _ (HH.out.grow (by with_reducible assumption))).mono ?_); rintro e w2 ⟨rfl, hb2⟩)
   go_wp2_with fail
   have hB2 := hB1.trans (hb2.mono hB1.size);refine hK.out _ _ (HX.out _ hB2) (fun hHeld => ?_);clear hK K
   try simp only [Act.put, s_1, s_2, s_3]
   refine tkA 4 ?_;simp only [Act.put, s_1, s_2, s_3];refine tkA 5 ?_;simp only [Act.put, s_1, s_2, s_3];refine tkA 6 ?_;simp only [Act.put, s_1, s_2, s_3];refine rq [7] ?_;refine tkC (fun K hK => ?_) (AllReadyH.nil);rw [if_pos (by rfl)];go_split_ands
   go_wp2_with fail
   have hB3 := below_a (.cells #[.int .i64 0, .int .i64 0] 29) hB2;have FBx := FI.new w2 29;obtain ⟨Bx, hBx⟩ := nm (w2.heap.size);have hloBx : W0.heap.size ≤ Bx := by have := hB2.size; omega
   simp only [hBx] at FBx ⊢;generalize w2.alloc (.cells #[.int .i64 0, .int .i64 0] 29) = w3 at *;refine hK.out _ _ (HX.out _ hB3) (fun hHeld => ?_);clear hK K
   try simp only [Act.put, s_1, s_2, s_3]
   have bltBx := FBx.2.2.2.2
  rotate_left
  focus
   rw [if_pos (by rfl)];go_split_ands
   go_wp2_with fail
   have hB2 := below_a (.cells #[.int .i64 0, .int .i64 0] 29) hB1;have FBx := FI.new w1 29;obtain ⟨Bx, hBx⟩ := nm (w1.heap.size);have hloBx : W0.heap.size ≤ Bx := by have := hB1.size; omega
   simp only [hBx] at FBx ⊢;generalize w1.alloc (.cells #[.int .i64 0, .int .i64 0] 29) = w2 at *;refine hK.out _ _ (HX.out _ hB2) (fun hHeld => ?_);clear hK K
   try simp only [Act.put, s_1, s_2, s_3]
   have bltBx := FBx.2.2.2.2;refine rq [3] ?_;refine tkC (fun K hK => ?_) (AllReadyH.nil)
   go_simp
   (go_at_call 7; go_split_ands; (with_reducible refine (HC.out _ (HH.out.grow (by with_reducible assumption))).mono ?_); rintro e w3 ⟨rfl, hb3⟩)
   go_wp2_with fail
   have hB3 := hB2.trans (hb3.mono hB2.size);have FBx := FBx.carry hb3;refine hK.out _ _ (HX.out _ hB3) (fun hHeld => ?_);clear hK K
   try simp only [Act.put, s_1, s_2, s_3]
   have bltBx := FBx.2.2.2.2;refine tkA 4 ?_;simp only [Act.put, s_1, s_2, s_3];refine tkA 5 ?_;simp only [Act.put, s_1, s_2, s_3];refine tkA 6 ?_;simp only [Act.put, s_1, s_2, s_3]
  rotate_left
  all_goals
   refine rq [8] ?_;refine tkC (fun K hK => ?_) (AllReadyH.nil);rw [if_pos (by rfl)];go_split_ands;obtain ⟨fa, fb, fc, fd, fe⟩ := FBx
   go_wp2_with fail
   have hB4 := below_s ⟨Bx, 1, none⟩ (.int .i64 (A.2.1)) (below_s ⟨Bx, 0, none⟩ (.int .i64 (A.1)) hB3 hloBx) hloBx;have FBx := FI.set ⟨fa, fb, fc, fd, fe⟩ (A.1) (A.2.1);clear fa fb fc fd fe;generalize ((w3.setCell ⟨Bx, 0, none⟩ (.int .i64 (A.1))).setCell ⟨Bx, 1, none⟩ (.int .i64 (A.2.1))) = w4 at *;refine hK.out _ _ (HX.out _ hB4) (fun hHeld => ?_);clear hK K
   try simp only [Act.put, s_1, s_2, s_3]
   have bltBx := FBx.2.2.2.2;refine tkA 9 ?_;simp only [Act.put, s_1, s_2, s_3];refine wpAnyH_done (by kernel_rfl) ?_ _;have hB := hB4;exact hK _ _ _ _ _ _ _ _ _ _ ⟨Bx, rfl, rfl, hloBx, hB, FBx⟩
 ·rw [if_pos (by rfl)]
  go_split_ands
  go_wp2_with fail
  have hB1 := below_a (.cells #[.int .i64 0, .int .i64 0] 29) hB0;have FBx := FI.new w0 29;obtain ⟨Bx, hBx⟩ := nm (w0.heap.size);have hloBx : W0.heap.size ≤ Bx := by have := hB0.size; omega
  simp only [hBx] at FBx ⊢;generalize w0.alloc (.cells #[.int .i64 0, .int .i64 0] 29) = w1 at *;refine hK.out _ _ (HX.out _ hB1) (fun hHeld => ?_);clear hK K
  try simp only [Act.put, s_1, s_2, s_3]
  have bltBx := FBx.2.2.2.2;refine rq [2] ?_;refine tkC (fun K hK => ?_) (AllReadyH.nil)
  go_simp
  (go_at_call 23; go_split_ands; (with_reducible refine (lwhole_any 2 _).mono ?_); rintro e w2 ⟨rfl, hb2⟩)
  go_wp2_with fail
  have hB2 := hB1.trans (hb2.mono hB1.size);have FBx := FBx.carry hb2;refine hK.out _ _ (HX.out _ hB2) (fun hHeld => ?_);clear hK K
  try simp only [Act.put, s_1, s_2, s_3]
  have bltBx := FBx.2.2.2.2;refine rq [3] ?_;refine tkC (fun K hK => ?_) (AllReadyH.nil)
  go_simp
  (go_at_call 7; go_split_ands; (with_reducible refine (HC.out _ (HH.out.grow (by with_reducible assumption))).mono ?_); rintro e w3 ⟨rfl, hb3⟩)
  go_wp2_with fail
  have hB3 := hB2.trans (hb3.mono hB2.size);have FBx := FBx.carry hb3;refine hK.out _ _ (HX.out _ hB3) (fun hHeld => ?_);clear hK K
  try simp only [Act.put, s_1, s_2, s_3]
  have bltBx := FBx.2.2.2.2;refine tkA 4 ?_;simp only [Act.put, s_1, s_2, s_3];refine tkA 5 ?_;simp only [Act.put, s_1, s_2, s_3];refine tkA 6 ?_;simp only [Act.put, s_1, s_2, s_3];refine rq [8] ?_;refine tkC (fun K hK => ?_) (AllReadyH.nil);rw [if_pos (by rfl)];go_split_ands;obtain ⟨fa, fb, fc, fd, fe⟩ := FBx
  go_wp2_with fail
  have hB4 := below_s ⟨Bx, 1, none⟩ (.int .i64 (A.2.1)) (below_s ⟨Bx, 0, none⟩ (.int .i64 (A.1)) hB3 hloBx) hloBx;have FBx := FI.set ⟨fa, fb, fc, fd, fe⟩ (A.1) (A.2.1);clear fa fb fc fd fe;generalize ((w3.setCell ⟨Bx, 0, none⟩ (.int .i64 (A.1))).setCell ⟨Bx, 1, none⟩ (.int .i64 (A.2.1))) = w4 at *;refine hK.out _ _ (HX.out _ hB4) (fun hHeld => ?_);clear hK K
  try simp only [Act.put, s_1, s_2, s_3]
  have bltBx := FBx.2.2.2.2;refine tkA 9 ?_;simp only [Act.put, s_1, s_2, s_3];refine wpAnyH_done (by kernel_rfl) ?_ _;have hB := hB4;exact hK _ _ _ _ _ _ _ _ _ _ ⟨Bx, rfl, rfl, hloBx, hB, FBx⟩
theorem awR4 {h : HouseR} {m : Mv} {A : Int × Int × Int} {Bh Bm : Nat} {W0 : World} {u3 u4 u5 u6 u7 u8 u9 u10 u11 u12 u13 u14 u15 u16 u17 u18 u19 u20 u21 u22 u23 u24 u25 u26 u27 u28 u29 u30 u31 u32 u33 u34 u35 u36 u37 u38 u39 u40 u41 u42 u43 u44 u45 u46 u47 u48 u49 u50 u51 u52 u53 u54 u55 u56 u57 : Value} {R : List Value} {K : Act → World → Prop} {Q0 : Exit → Act → World → Prop}
  (HC : Hid (∀ w : World, HouseIn w h → Calls Tryz.prog 8 #[.agg #[.string h.name, .int .i64 h.height, .slice h.sa h.sets.length h.sc, .slice h.ra h.roofs.length h.rc], .int .i64 0, .agg #[.string m.name, .int .i64 m.to, .int .i64 m.spd, .int .i64 m.rise, .int .i64 m.fall], .agg #[.int .i64 2, .int .i64 1]] w fun e w' => e = .returned (.tuple #[.agg #[.int .i64 A.1, .int .i64 A.2.1], .int .i64 A.2.2]) ∧ Below w.heap.size w w')) (HH : Hid (HouseIn W0 h)) (HX : Hid (∀ w', Below W0.heap.size W0 w' → (fun w' => w'.cell? ⟨Bh, 0, none⟩ = some (.string h.name) ∧ w'.cell? ⟨Bh, 1, none⟩ = some (.int .i64 h.height) ∧ w'.cell? ⟨Bh, 2, none⟩ = some (.slice h.sa h.sets.length h.sc) ∧ w'.cell? ⟨Bh, 3, none⟩ = some (.slice h.ra h.roofs.length h.rc) ∧ w'.cell? ⟨Bm, 0, none⟩ = some (.string m.name) ∧ w'.cell? ⟨Bm, 1, none⟩ = some (.int .i64 m.to) ∧ w'.cell? ⟨Bm, 2, none⟩ = some (.int .i64 m.spd) ∧ w'.cell? ⟨Bm, 3, none⟩ = some (.int .i64 m.rise) ∧ w'.cell? ⟨Bm, 4, none⟩ = some (.int .i64 m.fall)) w'))
  (hK : ∀ (v7 v8 v26 v27 v28 v29 v30 v31 v32 : Value) (wx : World), (∃ Bx : Nat, v7 = .pointer (some ⟨Bx, 0, none⟩) ∧ v8 = .int .i64 A.2.2 ∧ W0.heap.size ≤ Bx ∧ Below W0.heap.size W0 wx ∧ FI wx Bx A.1 A.2.1) → K ⟨List.toArray (.bool false :: .pointer (some ⟨Bh, 0, none⟩) :: .pointer (some ⟨Bm, 0, none⟩) :: u3 :: u4 :: u5 :: u6 :: v7 :: v8 :: u9 :: u10 :: u11 :: u12 :: u13 :: u14 :: u15 :: u16 :: u17 :: u18 :: u19 :: u20 :: u21 :: u22 :: u23 :: u24 :: u25 :: v26 :: v27 :: v28 :: v29 :: v30 :: v31 :: v32 :: u33 :: u34 :: u35 :: u36 :: u37 :: u38 :: u39 :: u40 :: u41 :: u42 :: u43 :: u44 :: u45 :: u46 :: u47 :: u48 :: u49 :: u50 :: u51 :: u52 :: u53 :: u54 :: u55 :: u56 :: u57 :: R), []⟩ wx) :
  Code.wp Tryz.prog (awCode 4) (Exit.then K Q0) ⟨List.toArray (.bool false :: .pointer (some ⟨Bh, 0, none⟩) :: .pointer (some ⟨Bm, 0, none⟩) :: u3 :: u4 :: u5 :: u6 :: u7 :: u8 :: u9 :: u10 :: u11 :: u12 :: u13 :: u14 :: u15 :: u16 :: u17 :: u18 :: u19 :: u20 :: u21 :: u22 :: u23 :: u24 :: u25 :: u26 :: u27 :: u28 :: u29 :: u30 :: u31 :: u32 :: u33 :: u34 :: u35 :: u36 :: u37 :: u38 :: u39 :: u40 :: u41 :: u42 :: u43 :: u44 :: u45 :: u46 :: u47 :: u48 :: u49 :: u50 :: u51 :: u52 :: u53 :: u54 :: u55 :: u56 :: u57 :: R), []⟩ W0 := by
 conv => arg 2; whnf
 refine wp_region_noPanic ?_;refine wp_region_held_drew (S := fun w' => w'.cell? ⟨Bh, 0, none⟩ = some (.string h.name) ∧ w'.cell? ⟨Bh, 1, none⟩ = some (.int .i64 h.height) ∧ w'.cell? ⟨Bh, 2, none⟩ = some (.slice h.sa h.sets.length h.sc) ∧ w'.cell? ⟨Bh, 3, none⟩ = some (.slice h.ra h.roofs.length h.rc) ∧ w'.cell? ⟨Bm, 0, none⟩ = some (.string m.name) ∧ w'.cell? ⟨Bm, 1, none⟩ = some (.int .i64 m.to) ∧ w'.cell? ⟨Bm, 2, none⟩ = some (.int .i64 m.spd) ∧ w'.cell? ⟨Bm, 3, none⟩ = some (.int .i64 m.rise) ∧ w'.cell? ⟨Bm, 4, none⟩ = some (.int .i64 m.fall)) (by kernel_rfl) (HX.out _ (br).drew) (fun hHeld => ?_);have hB0 := (Below.refl W0.heap.size W0).drew;obtain ⟨w0, hw0⟩ := nm (W0.drew);simp only [hw0] at hB0 hHeld ⊢;clear hw0;refine tkA 0 ?_;simp only [Act.put, s_1, s_2, s_3];refine tkA 1 ?_;simp only [Act.put, s_1, s_2, s_3];refine rq [2, 7] ?_;refine tkC (fun K hK => ?_) (tkC (fun K hK => ?_) (AllReadyH.nil))
 ·go_simp
  (go_at_call 23; go_split_ands; (with_reducible refine (lwhole_any 2 _).mono ?_); rintro e w1 ⟨rfl, hb1⟩)
  go_wp2_with fail
  have hB1 := hB0.trans (hb1.mono hB0.size);refine hK.out _ _ (HX.out _ hB1) (fun hHeld => ?_);clear hK K
  try simp only [Act.put, s_1, s_2, s_3]
  refine rq [3, 7] ?_;refine tkC (fun K hK => ?_) (tkC (fun K hK => ?_) (AllReadyH.nil))
  focus
   go_simp
   (go_at_call 8; go_split_ands; (with_reducible refine (HC.out _ (HH.out.grow (by with_reducible assumption))).mono ?_); rintro e w2 ⟨rfl, hb2⟩)
   go_wp2_with fail
   have hB2 := hB1.trans (hb2.mono hB1.size);refine hK.out _ _ (HX.out _ hB2) (fun hHeld => ?_);clear hK K
   try simp only [Act.put, s_1, s_2, s_3]
   refine tkA 4 ?_;simp only [Act.put, s_1, s_2, s_3];refine tkA 5 ?_;simp only [Act.put, s_1, s_2, s_3];refine tkA 6 ?_;simp only [Act.put, s_1, s_2, s_3];refine rq [7] ?_;refine tkC (fun K hK => ?_) (AllReadyH.nil);rw [if_pos (by rfl)];go_split_ands
   go_wp2_with fail
   have hB3 := below_a (.cells #[.int .i64 0, .int .i64 0] 29) hB2;have FBx := FI.new w2 29;obtain ⟨Bx, hBx⟩ := nm (w2.heap.size);have hloBx : W0.heap.size ≤ Bx := by have := hB2.size; omega
   simp only [hBx] at FBx ⊢;generalize w2.alloc (.cells #[.int .i64 0, .int .i64 0] 29) = w3 at *;refine hK.out _ _ (HX.out _ hB3) (fun hHeld => ?_);clear hK K
   try simp only [Act.put, s_1, s_2, s_3]
   have bltBx := FBx.2.2.2.2
  rotate_left
  focus
   rw [if_pos (by rfl)];go_split_ands
   go_wp2_with fail
   have hB2 := below_a (.cells #[.int .i64 0, .int .i64 0] 29) hB1;have FBx := FI.new w1 29;obtain ⟨Bx, hBx⟩ := nm (w1.heap.size);have hloBx : W0.heap.size ≤ Bx := by have := hB1.size; omega
   simp only [hBx] at FBx ⊢;generalize w1.alloc (.cells #[.int .i64 0, .int .i64 0] 29) = w2 at *;refine hK.out _ _ (HX.out _ hB2) (fun hHeld => ?_);clear hK K
   try simp only [Act.put, s_1, s_2, s_3]
   have bltBx := FBx.2.2.2.2;refine rq [3] ?_;refine tkC (fun K hK => ?_) (AllReadyH.nil)
   go_simp
   (go_at_call 8; go_split_ands; (with_reducible refine (HC.out _ (HH.out.grow (by with_reducible assumption))).mono ?_); rintro e w3 ⟨rfl, hb3⟩)
   go_wp2_with fail
   have hB3 := hB2.trans (hb3.mono hB2.size);have FBx := FBx.carry hb3;refine hK.out _ _ (HX.out _ hB3) (fun hHeld => ?_);clear hK K
   try simp only [Act.put, s_1, s_2, s_3]
   have bltBx := FBx.2.2.2.2;refine tkA 4 ?_;simp only [Act.put, s_1, s_2, s_3];refine tkA 5 ?_;simp only [Act.put, s_1, s_2, s_3];refine tkA 6 ?_;simp only [Act.put, s_1, s_2, s_3]
  rotate_left
  all_goals
   refine rq [8] ?_;refine tkC (fun K hK => ?_) (AllReadyH.nil);rw [if_pos (by rfl)];go_split_ands;obtain ⟨fa, fb, fc, fd, fe⟩ := FBx
   go_wp2_with fail
   have hB4 := below_s ⟨Bx, 1, none⟩ (.int .i64 (A.2.1)) (below_s ⟨Bx, 0, none⟩ (.int .i64 (A.1)) hB3 hloBx) hloBx;have FBx := FI.set ⟨fa, fb, fc, fd, fe⟩ (A.1) (A.2.1);clear fa fb fc fd fe;generalize ((w3.setCell ⟨Bx, 0, none⟩ (.int .i64 (A.1))).setCell ⟨Bx, 1, none⟩ (.int .i64 (A.2.1))) = w4 at *;refine hK.out _ _ (HX.out _ hB4) (fun hHeld => ?_);clear hK K
   try simp only [Act.put, s_1, s_2, s_3]
   have bltBx := FBx.2.2.2.2;refine tkA 9 ?_;simp only [Act.put, s_1, s_2, s_3];refine wpAnyH_done (by kernel_rfl) ?_ _;have hB := hB4;exact hK _ _ _ _ _ _ _ _ _ _ ⟨Bx, rfl, rfl, hloBx, hB, FBx⟩
 ·rw [if_pos (by rfl)]
  go_split_ands
  go_wp2_with fail
  have hB1 := below_a (.cells #[.int .i64 0, .int .i64 0] 29) hB0;have FBx := FI.new w0 29;obtain ⟨Bx, hBx⟩ := nm (w0.heap.size);have hloBx : W0.heap.size ≤ Bx := by have := hB0.size; omega
  simp only [hBx] at FBx ⊢;generalize w0.alloc (.cells #[.int .i64 0, .int .i64 0] 29) = w1 at *;refine hK.out _ _ (HX.out _ hB1) (fun hHeld => ?_);clear hK K
  try simp only [Act.put, s_1, s_2, s_3]
  have bltBx := FBx.2.2.2.2;refine rq [2] ?_;refine tkC (fun K hK => ?_) (AllReadyH.nil)
  go_simp
  (go_at_call 23; go_split_ands; (with_reducible refine (lwhole_any 2 _).mono ?_); rintro e w2 ⟨rfl, hb2⟩)
  go_wp2_with fail
  have hB2 := hB1.trans (hb2.mono hB1.size);have FBx := FBx.carry hb2;refine hK.out _ _ (HX.out _ hB2) (fun hHeld => ?_);clear hK K
  try simp only [Act.put, s_1, s_2, s_3]
  have bltBx := FBx.2.2.2.2;refine rq [3] ?_;refine tkC (fun K hK => ?_) (AllReadyH.nil)
  go_simp
  (go_at_call 8; go_split_ands; (with_reducible refine (HC.out _ (HH.out.grow (by with_reducible assumption))).mono ?_); rintro e w3 ⟨rfl, hb3⟩)
  go_wp2_with fail
  have hB3 := hB2.trans (hb3.mono hB2.size);have FBx := FBx.carry hb3;refine hK.out _ _ (HX.out _ hB3) (fun hHeld => ?_);clear hK K
  try simp only [Act.put, s_1, s_2, s_3]
  have bltBx := FBx.2.2.2.2;refine tkA 4 ?_;simp only [Act.put, s_1, s_2, s_3];refine tkA 5 ?_;simp only [Act.put, s_1, s_2, s_3];refine tkA 6 ?_;simp only [Act.put, s_1, s_2, s_3];refine rq [8] ?_;refine tkC (fun K hK => ?_) (AllReadyH.nil);rw [if_pos (by rfl)];go_split_ands;obtain ⟨fa, fb, fc, fd, fe⟩ := FBx
  go_wp2_with fail
  have hB4 := below_s ⟨Bx, 1, none⟩ (.int .i64 (A.2.1)) (below_s ⟨Bx, 0, none⟩ (.int .i64 (A.1)) hB3 hloBx) hloBx;have FBx := FI.set ⟨fa, fb, fc, fd, fe⟩ (A.1) (A.2.1);clear fa fb fc fd fe;generalize ((w3.setCell ⟨Bx, 0, none⟩ (.int .i64 (A.1))).setCell ⟨Bx, 1, none⟩ (.int .i64 (A.2.1))) = w4 at *;refine hK.out _ _ (HX.out _ hB4) (fun hHeld => ?_);clear hK K
  try simp only [Act.put, s_1, s_2, s_3]
  have bltBx := FBx.2.2.2.2;refine tkA 9 ?_;simp only [Act.put, s_1, s_2, s_3];refine wpAnyH_done (by kernel_rfl) ?_ _;have hB := hB4;exact hK _ _ _ _ _ _ _ _ _ _ ⟨Bx, rfl, rfl, hloBx, hB, FBx⟩
theorem awake_any (w : World) : Calls Tryz.prog 5 #[] w fun e w' => e = .returned (.bool true) ∧ Below w.heap.size w w' := by
 go_enter Tryz.func5, Tryz.ntmps5
 go_upto_region 2 with (go_at_call 22; (with_reducible refine (example_any _).mono ?_); rintro e w1 ⟨hx, hb1⟩; obtain ⟨a, s, rfl, hin⟩ := hx.out)
 clear hx
 have HEND : ∀ w : World, HouseIn w (exH a s) → Calls Tryz.prog 14 #[.agg #[.string (exH a s).name, .int .i64 (exH a s).height, .slice (exH a s).sa (exH a s).sets.length (exH a s).sc, .slice (exH a s).ra (exH a s).roofs.length (exH a s).rc], .int .i64 0, .agg #[.string exV.name, .int .i64 exV.to, .int .i64 exV.spd, .int .i64 exV.rise, .int .i64 exV.fall]] w fun e w' => e = .returned (.tuple #[.agg #[.int .i64 23, .int .i64 2], .int .i64 0]) ∧ Below w.heap.size w w' := fun w hh => by
  have := mend_any (exH a s) 0 exV 100 (fun _ => ex_top) w hh
  rwa [ex_end, ex_e] at this
 have HAT3 : ∀ w : World, HouseIn w (exH a s) → Calls Tryz.prog 7 #[.agg #[.string (exH a s).name, .int .i64 (exH a s).height, .slice (exH a s).sa (exH a s).sets.length (exH a s).sc, .slice (exH a s).ra (exH a s).roofs.length (exH a s).rc], .int .i64 0, .agg #[.string exV.name, .int .i64 exV.to, .int .i64 exV.spd, .int .i64 exV.rise, .int .i64 exV.fall], .agg #[.int .i64 2, .int .i64 1]] w fun e w' => e = .returned (.tuple #[.agg #[.int .i64 ((100, 1, 0) : Int × Int × Int).1, .int .i64 ((100, 1, 0) : Int × Int × Int).2.1], .int .i64 ((100, 1, 0) : Int × Int × Int).2.2]) ∧ Below w.heap.size w w' := fun w hh => by
  have := mat_any (exH a s) 0 exV (2, 1) 100 (fun _ => ex_top) w hh
  rwa [ex_at] at this
 have HHA3 : ∀ w : World, HouseIn w (exH a s) → Calls Tryz.prog 8 #[.agg #[.string (exH a s).name, .int .i64 (exH a s).height, .slice (exH a s).sa (exH a s).sets.length (exH a s).sc, .slice (exH a s).ra (exH a s).roofs.length (exH a s).rc], .int .i64 0, .agg #[.string exV.name, .int .i64 exV.to, .int .i64 exV.spd, .int .i64 exV.rise, .int .i64 exV.fall], .agg #[.int .i64 2, .int .i64 1]] w fun e w' => e = .returned (.tuple #[.agg #[.int .i64 ((150, 1, 0) : Int × Int × Int).1, .int .i64 ((150, 1, 0) : Int × Int × Int).2.1], .int .i64 ((150, 1, 0) : Int × Int × Int).2.2]) ∧ Below w.heap.size w w' := fun w hh => by
  have := mhalt_any (exH a s) 0 exV (2, 1) 100 (fun _ => ex_top) w hh
  rwa [ex_halt] at this
 have hat := (HouseAt.new w1 (exH a s) 25).carry (below_new _ (.cells #[.string exV.name, .int .i64 exV.to, .int .i64 exV.spd, .int .i64 exV.rise, .int .i64 exV.fall] 27));have mat := MvAt.new (w1.alloc (.cells #[.string (exH a s).name, .int .i64 (exH a s).height, .slice (exH a s).sa (exH a s).sets.length (exH a s).sc, .slice (exH a s).ra (exH a s).roofs.length (exH a s).rc] 25)) exV 27;have hbn := (below_new w1 (.cells #[.string (exH a s).name, .int .i64 (exH a s).height, .slice (exH a s).sa (exH a s).sets.length (exH a s).sc, .slice (exH a s).ra (exH a s).roofs.length (exH a s).rc] 25)).alloc (by simp) (.cells #[.string exV.name, .int .i64 exV.to, .int .i64 exV.spd, .int .i64 exV.rise, .int .i64 exV.fall] 27);have hm1 : (w1.alloc (.cells #[.string (exH a s).name, .int .i64 (exH a s).height, .slice (exH a s).sa (exH a s).sets.length (exH a s).sc, .slice (exH a s).ra (exH a s).roofs.length (exH a s).rc] 25)).heap.size = w1.heap.size + 1 := by simp
 rw [hm1] at mat;have HH := lh (hin.grow hbn);have hB := hb1.trans (hbn.mono hb1.size);clear hin hb1 hm1 hbn;obtain ⟨Bh, hBh⟩ := nm (w1.heap.size);simp only [hBh] at hat mat ⊢;obtain ⟨Bm, hBm⟩ := nm (Bh + 1);simp only [hBm] at mat ⊢;have HW : ∃ W : World, W = ((w1.alloc (.cells #[.string (exH a s).name, .int .i64 (exH a s).height, .slice (exH a s).sa (exH a s).sets.length (exH a s).sc, .slice (exH a s).ra (exH a s).roofs.length (exH a s).rc] 25)).alloc (.cells #[.string exV.name, .int .i64 exV.to, .int .i64 exV.spd, .int .i64 exV.rise, .int .i64 exV.fall] 27)) := ⟨_, rfl⟩;obtain ⟨W0, hW0⟩ := HW;rw [← hW0] at hat mat HH hB;have hgoal := hW0.symm;simp only [exH, exV, List.length_cons, List.length_nil] at hgoal;rw [hgoal];clear hgoal hW0 hBh hBm;obtain ⟨h, hh⟩ := nm (exH a s);obtain ⟨m, hm⟩ := nm (exV);rw [hh] at HEND HAT3 HHA3 hat HH;rw [hm] at HEND HAT3 HHA3 mat;clear hh hm;have HE := lh HEND;have HAT := lh hat;have MAT := lh mat;have HA3 := lh HAT3;have HA4 := lh HHA3;clear HEND HAT3 HHA3 hat mat;obtain ⟨k0, k1, k2, k3⟩ := HAT.out;obtain ⟨m0, m1, m2, m3, m4⟩ := MAT.out
 go_upto_region 3 with (go_at_call 14; (with_reducible refine (HE.out _ HH.out).mono ?_); rintro e w2 ⟨rfl, hbs⟩)
 clear k0 k1 k2 k3 m0 m1 m2 m3 m4;replace HAT := lh (HAT.out.carry hbs);replace MAT := lh (MAT.out.carry hbs);replace HH := lh (HH.out.grow hbs);replace hB := hB.trans (hbs.mono hB.size);clear hbs;have hbn := below_new w2 (.cells #[.int .i64 (23), .int .i64 (2)] 29);have hF := FI.put w2 (23) (2) 29;replace HAT := lh (HAT.out.carry hbn);replace MAT := lh (MAT.out.carry hbn);replace HH := lh (HH.out.grow hbn);replace hB := hB.trans (hbn.mono hB.size);clear hbn;obtain ⟨Be, hBq⟩ := nm (w2.heap.size);simp only [hBq] at hF ⊢;have FE := lh hF;clear hF;generalize w2.alloc (.cells #[.int .i64 (23), .int .i64 (2)] 29) = W3 at *;clear hBq
 have HX : Hid (∀ w', Below W3.heap.size W3 w' → w'.cell? ⟨Bh, 0, none⟩ = some (.string h.name) ∧ w'.cell? ⟨Bh, 1, none⟩ = some (.int .i64 h.height) ∧ w'.cell? ⟨Bh, 2, none⟩ = some (.slice h.sa h.sets.length h.sc) ∧ w'.cell? ⟨Bh, 3, none⟩ = some (.slice h.ra h.roofs.length h.rc) ∧ w'.cell? ⟨Bm, 0, none⟩ = some (.string m.name) ∧ w'.cell? ⟨Bm, 1, none⟩ = some (.int .i64 m.to) ∧ w'.cell? ⟨Bm, 2, none⟩ = some (.int .i64 m.spd) ∧ w'.cell? ⟨Bm, 3, none⟩ = some (.int .i64 m.rise) ∧ w'.cell? ⟨Bm, 4, none⟩ = some (.int .i64 m.fall)) := lh fun w' hb => by
  obtain ⟨k0, k1, k2, k3⟩ := HAT.out.carry hb;obtain ⟨m0, m1, m2, m3, m4⟩ := MAT.out.carry hb;exact ⟨k0, k1, k2, k3, m0, m1, m2, m3, m4⟩
 refine awR3 (A := (100, 1, 0)) HA3 HH HX ?_;intro v5 v6 v19 v20 v21 v22 v23 v24 v25 W4 hcut;obtain ⟨Bx, rfl, rfl, _, hbs, FX⟩ := hcut;clear HX HA3;replace HAT := lh (HAT.out.carry hbs);replace MAT := lh (MAT.out.carry hbs);replace HH := lh (HH.out.grow hbs);replace FE := lh (FE.out.carry hbs);replace hB := hB.trans (hbs.mono hB.size);clear hbs;have HFX := lh (show FI W4 Bx 100 1 from FX);clear FX
 go_upto_region 4 with (fail)
 have HX : Hid (∀ w', Below W4.heap.size W4 w' → w'.cell? ⟨Bh, 0, none⟩ = some (.string h.name) ∧ w'.cell? ⟨Bh, 1, none⟩ = some (.int .i64 h.height) ∧ w'.cell? ⟨Bh, 2, none⟩ = some (.slice h.sa h.sets.length h.sc) ∧ w'.cell? ⟨Bh, 3, none⟩ = some (.slice h.ra h.roofs.length h.rc) ∧ w'.cell? ⟨Bm, 0, none⟩ = some (.string m.name) ∧ w'.cell? ⟨Bm, 1, none⟩ = some (.int .i64 m.to) ∧ w'.cell? ⟨Bm, 2, none⟩ = some (.int .i64 m.spd) ∧ w'.cell? ⟨Bm, 3, none⟩ = some (.int .i64 m.rise) ∧ w'.cell? ⟨Bm, 4, none⟩ = some (.int .i64 m.fall)) := lh fun w' hb => by
  obtain ⟨k0, k1, k2, k3⟩ := HAT.out.carry hb;obtain ⟨m0, m1, m2, m3, m4⟩ := MAT.out.carry hb;exact ⟨k0, k1, k2, k3, m0, m1, m2, m3, m4⟩
 refine awR4 (A := (150, 1, 0)) HA4 HH HX ?_;intro v7 v8 v26 v27 v28 v29 v30 v31 v32 W5 hcut;obtain ⟨By, rfl, rfl, _, hbs, FY⟩ := hcut;clear HX HA4;replace HAT := lh (HAT.out.carry hbs);replace MAT := lh (MAT.out.carry hbs);replace HH := lh (HH.out.grow hbs);replace FE := lh (FE.out.carry hbs);replace HFX := lh (HFX.out.carry hbs);replace hB := hB.trans (hbs.mono hB.size);clear hbs;have HFY := lh (show FI W5 By 150 1 from FY);clear FY
 go_upto_region 5 with (fail)
 have HS : Hid (∀ w', Below W5.heap.size W5 w' → (fun w' => Below W5.heap.size W5 w' ∧ w'.cell? ⟨Be, 0, none⟩ = some (.int .i64 23) ∧ w'.cell? ⟨Be, 1, none⟩ = some (.int .i64 2) ∧ w'.cell? ⟨Bx, 0, none⟩ = some (.int .i64 100) ∧ w'.cell? ⟨Bx, 1, none⟩ = some (.int .i64 1) ∧ w'.cell? ⟨By, 0, none⟩ = some (.int .i64 150) ∧ w'.cell? ⟨By, 1, none⟩ = some (.int .i64 1)) w') := lh fun w' hb => by
  obtain ⟨e0, e1, _⟩ := FE.out.carry hb;obtain ⟨x0, x1, _⟩ := HFX.out.carry hb;obtain ⟨y0, y1, _⟩ := HFY.out.carry hb;exact ⟨hb, e0, e1, x0, x1, y0, y1⟩
 have hb0 := (Below.refl W5.heap.size W5).drew;refine wp_region_held_drew (S := (fun w' => Below W5.heap.size W5 w' ∧ w'.cell? ⟨Be, 0, none⟩ = some (.int .i64 23) ∧ w'.cell? ⟨Be, 1, none⟩ = some (.int .i64 2) ∧ w'.cell? ⟨Bx, 0, none⟩ = some (.int .i64 100) ∧ w'.cell? ⟨Bx, 1, none⟩ = some (.int .i64 1) ∧ w'.cell? ⟨By, 0, none⟩ = some (.int .i64 150) ∧ w'.cell? ⟨By, 1, none⟩ = some (.int .i64 1))) (by kernel_rfl) (HS.out _ hb0) (fun hHeld => ?_);refine tkB 0 ?_;simp only [Act.put, s_1, s_2, s_3, s_4, s_6];refine tkB 1 ?_;simp only [Act.put, s_1, s_2, s_3, s_4, s_5, s_6];refine tkB 2 ?_;simp only [Act.put, s_1, s_2, s_3, s_4, s_5, s_6];refine tkB 3 ?_;simp only [Act.put, s_1, s_2, s_3, s_4, s_5, s_6];refine tkB 4 ?_;simp only [Act.put, s_1, s_2, s_3, s_4, s_5, s_6];refine tkB 5 ?_;simp only [Act.put, s_1, s_2, s_3, s_4, s_5, s_6];refine tkB 6 ?_;simp only [Act.put, s_1, s_2, s_3, s_4, s_5, s_6];refine tkB 7 ?_;simp only [Act.put, s_1, s_2, s_3, s_4, s_5, s_6];refine tkB 8 ?_;simp only [Act.put, s_1, s_2, s_3, s_4, s_5, s_6];refine tkB 9 ?_;simp only [Act.put, s_1, s_2, s_3, s_4, s_5, s_6];refine tkB 10 ?_;simp only [Act.put, s_1, s_2, s_3, s_4, s_5, s_6];refine tkB 11 ?_;simp only [Act.put, s_1, s_2, s_3, s_4, s_5, s_6];refine tkB 12 ?_;simp only [Act.put, s_1, s_2, s_3, s_4, s_5, s_6];refine r1 13 (fun K hK => ?_)
 try simp only [s_4, s_5, s_6]
 go_simp
 (go_at_call 23; go_split_ands; (with_reducible refine (lwhole_any 100 _).mono ?_); rintro e x1 ⟨rfl, hx1⟩; have hb1 := hb0.trans (hx1.mono hb0.size))
 go_wp2_with fail
 refine hK.out _ _ (HS.out _ hb1) (fun hHeld => ?_);clear hK K
 try simp only [Act.put, s_1, s_2, s_3, s_4, s_5, s_6]
 refine tkB 14 ?_;simp only [Act.put, s_1, s_2, s_3, s_4, s_5, s_6];refine tkB 15 ?_;simp only [Act.put, s_1, s_2, s_3, s_4, s_5, s_6];refine tkB 16 ?_;simp only [Act.put, s_1, s_2, s_3, s_4, s_5, s_6];refine tkB 17 ?_;simp only [Act.put, s_1, s_2, s_3, s_4, s_5, s_6];refine tkB 18 ?_;simp only [Act.put, s_1, s_2, s_3, s_4, s_5, s_6];refine tkB 19 ?_;simp only [Act.put, s_1, s_2, s_3, s_4, s_5, s_6];refine tkB 20 ?_;simp only [Act.put, s_1, s_2, s_3, s_4, s_5, s_6];refine tkB 21 ?_;simp only [Act.put, s_1, s_2, s_3, s_4, s_5, s_6];refine r1 22 (fun K hK => ?_)
 try simp only [s_4, s_5, s_6]
 go_simp
 (go_at_call 23; go_split_ands; (with_reducible refine (lwhole_any 150 _).mono ?_); rintro e x2 ⟨rfl, hx2⟩; have hb2 := hb1.trans (hx2.mono hb1.size))
 go_wp2_with fail
 refine hK.out _ _ (HS.out _ hb2) (fun hHeld => ?_);clear hK K
 try simp only [Act.put, s_1, s_2, s_3, s_4, s_5, s_6]
 refine tkB 23 ?_;simp only [Act.put, s_1, s_2, s_3, s_4, s_5, s_6];refine tkB 24 ?_;simp only [Act.put, s_1, s_2, s_3, s_4, s_5, s_6];refine tkB 25 ?_;simp only [Act.put, List.setIfInBounds_toArray, List.set_cons_zero, s_4, s_5, s_6];refine wpAnyH_done (by kernel_rfl) ?_ _
 go_wp2_with fail
 go_ret;exact ⟨rfl, hB.trans (hb2.mono hB.size)⟩
end
end Go.Proofs.YtbgkgahmicepdaaGreat
