/-
  PLAIN LAWS over any program: the steps of a region that draws its order, one word each: a quiet call taken first (tq), a call (rc), a new block (al), any operation at the world at hand (vl), a call that alone may come up (cl).
-/
import Derived.Test.YtebofaenlhhkaaaGreatF28
namespace Go.Proofs.YtebofaenlhhkaaaGreat
set_option maxRecDepth 100000
set_option maxHeartbeats 80000000
set_option linter.unusedSimpArgs false
section
section
variable {P : Program} {ops : Array Oper} {Q : Exit → Act → World → Prop} {md : Region.Mode} {S : World → Prop}
theorem ry (rs : List Nat) {fuel : Nat} {listed : Array Bool} {a : Act} {w : World} (h : AllReadyH P md ops Q S fuel listed a w rs) (hr : Region.ready md ops listed = rs := by kernel_rfl) (hne : rs ≠ [] := by simp) : wpAnyH P md ops Q S (fuel + 1) listed a w := wpAnyH_ready hr hne h
theorem nl {fuel : Nat} {listed : Array Bool} {a : Act} {w : World} : AllReadyH P md ops Q S fuel listed a w [] := AllReadyH.nil
theorem dn {fuel : Nat} {listed : Array Bool} {a : Act} {w : World} (h : Q .normal a w) (hr : Region.ready md ops listed = [] := by kernel_rfl) : wpAnyH P md ops Q S fuel listed a w := wpAnyH_done hr h fuel
theorem vl_core {i : Nat} {oi : Oper} {n : Next} {v : Value} {fuel : Nat} {listed : Array Bool} {a a' : Act} {w w1 : World} {rs : List Nat} (hS : S w1)
  (h : S w1 → wpAnyH P md ops Q S fuel (listed.setIfInBounds i true) a' w1) (hs : AllReadyH P md ops Q S fuel listed a w rs)
  (hi : ops[i]? = some oi) (hg : Region.wanted oi (yielded ops a.tmps) = true)
  (hx : (execOp a.eval oi).run P w = .ok n w1) (hn : (n = .value v) ∨ (n = .skip ∧ v = undef)) (ha : a.put oi.dst v = a') : AllReadyH P md ops Q S fuel listed a w (i :: rs) := by
 refine AllReadyH.cons (o := oi) hi (fun K hK => ?_) hs;rw [if_pos hg];unfold Oper.wp;rw [hx];rcases hn with rfl | ⟨rfl, rfl⟩
 ·rw [Oper.upon_value]; exact hK.out _ _ hS (fun hS => by rw [ha]; exact h hS)
 ·rw [Oper.upon_skip]; exact hK.out _ _ hS (fun hS => by rw [ha]; exact h hS)
theorem rc_core {i : Nat} {oi : Oper} {f : FuncId} {args : Array Value} {V : Value} {X : World → Prop} {fuel : Nat} {listed : Array Bool} {a a' : Act} {w : World} {rs : List Nat}
  (hc : Calls P f args w fun e w' => e = .returned V ∧ X w') (hn : ∀ w', X w' → S w')
  (h : ∀ w', X w' → S w' → wpAnyH P md ops Q S fuel (listed.setIfInBounds i true) a' w') (hs : AllReadyH P md ops Q S fuel listed a w rs)
  (hi : ops[i]? = some oi) (hg : Region.wanted oi (yielded ops a.tmps) = true)
  (hx : (execOp a.eval oi).run P w = .ok (.enter f args) w) (ha : a.put oi.dst V = a') : AllReadyH P md ops Q S fuel listed a w (i :: rs) := by
 refine AllReadyH.cons (o := oi) hi (fun K hK => ?_) hs;rw [if_pos hg];unfold Oper.wp;rw [hx, Oper.upon_enter];refine hc.mono ?_;rintro e w' ⟨rfl, hX⟩;exact hK.out _ _ (hn w' hX) (fun hS => by rw [ha]; exact h w' hX hS)
theorem rc (i : Nat) {oi : Oper} {f : FuncId} {args : Array Value} {V : Value} {X : World → Prop} {fuel : Nat} {listed : Array Bool} {a a' : Act} {w : World} {rs : List Nat}
  (hc : Calls P f args w fun e w' => e = .returned V ∧ X w') (hn : ∀ w', X w' → S w')
  (h : ∀ w', X w' → S w' → wpAnyH P md ops Q S fuel (listed.setIfInBounds i true) a' w') (hs : AllReadyH P md ops Q S fuel listed a w rs)
  (hi : ops[i]? = some oi := by first | (simp only [List.getElem?_toArray, List.getElem?_cons_zero]; rfl) | (simp only [List.getElem?_toArray, List.getElem?_cons_succ, List.getElem?_cons_zero]; rfl))
  (hg : Region.wanted oi (yielded ops a.tmps) = true := by rfl)
  (hx : (execOp a.eval oi).run P w = .ok (.enter f args) w := by (try simp only [s_4, s_5, s_6]); go_simp)
  (ha : a.put oi.dst V = a' := by simp only [Act.put, List.setIfInBounds_toArray, List.set_cons_zero, List.set_cons_succ, List.getElem_toArray, List.getElem_cons_succ, List.getElem_cons_zero]; rfl) : AllReadyH P md ops Q S fuel listed a w (i :: rs) :=
 rc_core hc hn h hs hi hg hx ha
theorem cl (i : Nat) {oi : Oper} {f : FuncId} {args : Array Value} {V : Value} {X : World → Prop} {fuel : Nat} {listed : Array Bool} {a a' : Act} {w : World}
  (hc : Calls P f args w fun e w' => e = .returned V ∧ X w') (hn : ∀ w', X w' → S w')
  (h : ∀ w', X w' → S w' → wpAnyH P md ops Q S fuel (listed.setIfInBounds i true) a' w')
  (hi : ops[i]? = some oi := by first | (simp only [List.getElem?_toArray, List.getElem?_cons_zero]; rfl) | (simp only [List.getElem?_toArray, List.getElem?_cons_succ, List.getElem?_cons_zero]; rfl))
  (hr : Region.ready md ops listed = [i] := by kernel_rfl) (hg : Region.wanted oi (yielded ops a.tmps) = true := by rfl)
  (hx : (execOp a.eval oi).run P w = .ok (.enter f args) w := by (try simp only [s_4, s_5, s_6]); go_simp)
  (ha : a.put oi.dst V = a' := by simp only [Act.put, List.setIfInBounds_toArray, List.set_cons_zero, List.set_cons_succ, List.getElem_toArray, List.getElem_cons_succ, List.getElem_cons_zero]; rfl) : wpAnyH P md ops Q S (fuel + 1) listed a w :=
 wpAnyH_ready hr (by simp) (rc_core hc hn h AllReadyH.nil hi hg hx ha)
theorem al (i : Nat) (o : Obj) {oi : Oper} {fuel : Nat} {listed : Array Bool} {a : Act} {a' : Nat → Act} {w : World} {rs : List Nat} (hS : S (w.alloc o))
  (h : ∀ B w1, w.heap.size = B → w.alloc o = w1 → S w1 → wpAnyH P md ops Q S fuel (listed.setIfInBounds i true) (a' B) w1) (hs : AllReadyH P md ops Q S fuel listed a w rs)
  (hi : ops[i]? = some oi := by first | (simp only [List.getElem?_toArray, List.getElem?_cons_zero]; rfl) | (simp only [List.getElem?_toArray, List.getElem?_cons_succ, List.getElem?_cons_zero]; rfl))
  (hg : Region.wanted oi (yielded ops a.tmps) = true := by rfl)
  (hx : (execOp a.eval oi).run P w = .ok (.value (.pointer (some ⟨w.heap.size, 0, none⟩))) (w.alloc o) := by (try simp only [s_4, s_5, s_6]); go_simp)
  (ha : ∀ B, a.put oi.dst (.pointer (some ⟨B, 0, none⟩)) = a' B := by intro B; simp only [Act.put, s_1, s_2, s_3, s_4, s_5, s_6]; rfl) : AllReadyH P md ops Q S fuel listed a w (i :: rs) :=
 vl_core hS (fun z => h _ _ rfl rfl z) hs hi hg hx (.inl rfl) (ha _)
theorem vl (i : Nat) {oi : Oper} {n : Next} {v : Value} {fuel : Nat} {listed : Array Bool} {a a' : Act} {w w1 : World} {rs : List Nat} (hS : S w1)
  (h : S w1 → wpAnyH P md ops Q S fuel (listed.setIfInBounds i true) a' w1) (hs : AllReadyH P md ops Q S fuel listed a w rs)
  (hi : ops[i]? = some oi := by first | (simp only [List.getElem?_toArray, List.getElem?_cons_zero]; rfl) | (simp only [List.getElem?_toArray, List.getElem?_cons_succ, List.getElem?_cons_zero]; rfl))
  (hg : Region.wanted oi (yielded ops a.tmps) = true := by rfl)
  (hx : (execOp a.eval oi).run P w = .ok n w1 := by (try simp only [s_4, s_5, s_6]); go_simp; (try with_reducible rfl); (try exact ⟨rfl, rfl⟩))
  (hn : (n = .value v) ∨ (n = .skip ∧ v = undef) := by first | exact .inr ⟨rfl, rfl⟩ | exact .inl rfl)
  (ha : a.put oi.dst v = a' := by simp only [Act.put, List.setIfInBounds_toArray, List.set_cons_zero, List.set_cons_succ, List.getElem_toArray, List.getElem_cons_succ, List.getElem_cons_zero]; rfl) : AllReadyH P md ops Q S fuel listed a w (i :: rs) :=
 vl_core hS h hs hi hg hx hn ha
end
end
section
open Go.RowKit Go.Shelf
attribute [local go_sem] Oper.semAt_some
theorem tsec_any (s : Int) (s0 : 0 ≤ s) (s1 : s ≤ 1099511627776) (w : World) : Calls Tryz.prog 53 #[.int .i64 s, .int .i64 1000] w fun e w' => e = .returned (.tuple #[.agg #[.int .i64 (lowN s 1000), .int .i64 (lowD s 1000)], .int .i64 0]) ∧ Below w.heap.size w w' := by
 by_cases c : s = 0
 ·subst c
  have := make_zero 1000 (by decide) (by decide) w
  rwa [← (low_zero (d := 1000) (by decide)).1, ← (low_zero (d := 1000) (by decide)).2] at this
 ·have := make_any s 1000 c (by omega) (by omega) (by decide) (by decide) w
  rwa [make_low (by decide), fit_low (by decide) (by omega) (by omega) (by decide)] at this
theorem sec_valid {s : Int} (s0 : 0 ≤ s) (s1 : s ≤ 1099511627776) : validF (lowN s 1000) (lowD s 1000) = true := by
 have a := lowN_le s 1000;have b := lowD_le (n := s) (d := 1000) (by decide);have c := lowD_pos (n := s) (d := 1000) (by decide);exact (validF_iff _ _).2 ⟨by omega, by omega, by omega, by omega, low_cop (by decide)⟩
theorem tpiece_any (x : Pc) (s z : Int) (up : Bool) (s0 : 0 ≤ s) (s1 : s ≤ 1099511627776) (z0 : 0 ≤ z) (z1 : z ≤ 1048576) (vf : validF x.f0 x.f1 = true) (va : validF x.a0 x.a1 = true) (vb : -1152921504606846976 ≤ x.b0 ∧ x.b0 ≤ 1152921504606846976) (vc : -1152921504606846976 ≤ x.c0 ∧ x.c0 ≤ 1152921504606846976) (w : World) :
  Calls Tryz.prog 81 #[.agg #[.int .i64 x.f0, .int .i64 x.f1, .int .i64 x.a0, .int .i64 x.a1, .int .i64 x.b0, .int .i64 x.b1, .int .i64 x.c0, .int .i64 x.c1], .int .i64 s, .int .i64 z, .bool up] w fun e w' => e = .returned (.tuple #[.agg #[.int .i64 (pieceP x s z up).1.f0, .int .i64 (pieceP x s z up).1.f1, .int .i64 (pieceP x s z up).1.a0, .int .i64 (pieceP x s z up).1.a1, .int .i64 (pieceP x s z up).1.b0, .int .i64 (pieceP x s z up).1.b1, .int .i64 (pieceP x s z up).1.c0, .int .i64 (pieceP x s z up).1.c1], .int .i64 (pieceP x s z up).2]) ∧ Below w.heap.size w w' := by
 have HMK := lh fun w' => tsec_any s s0 s1 w';have HAF := lh fun w' => add_all (lowN s 1000) (lowD s 1000) x.f0 x.f1 (sec_valid s0 s1) vf w';have vz : validF z 1 = true := (validF_iff _ _).2 ⟨by decide, by decide, by omega, by omega, by simp⟩;have HAU := lh fun w' => add_all z 1 x.a0 x.a1 vz va w';have HAD := lh fun w' => sub_all z 1 x.a0 x.a1 vz va w';have HP0 : Hid (pieceP x s z up = if (addP (lowN s 1000) (lowD s 1000) x.f0 x.f1).2.2 = 0 then (⟨(addP (lowN s 1000) (lowD s 1000) x.f0 x.f1).1, (addP (lowN s 1000) (lowD s 1000) x.f0 x.f1).2.1, (addP z 1 (if up then x.a0 else -x.a0) x.a1).1, (addP z 1 (if up then x.a0 else -x.a0) x.a1).2.1, if up then x.b0 else -x.b0, x.b1, if up then x.c0 else -x.c0, x.c1⟩, (addP z 1 (if up then x.a0 else -x.a0) x.a1).2.2) else (zPc, (addP (lowN s 1000) (lowD s 1000) x.f0 x.f1).2.2)) := lh (by unfold pieceP; split <;> rfl);generalize lowN s 1000 = sn at *;generalize lowD s 1000 = sd at *;obtain ⟨Y, hY⟩ := nm (addP sn sd x.f0 x.f1);rw [hY] at HAF HP0;obtain ⟨R, hR⟩ := nm (pieceP x s z up);rw [hR] at HP0 ⊢;clear hY hR;have hb : Below w.heap.size w ((w.alloc (.cells #[.int .i64 x.f0, .int .i64 x.f1, .int .i64 x.a0, .int .i64 x.a1, .int .i64 x.b0, .int .i64 x.b1, .int .i64 x.c0, .int .i64 x.c1] 122)).alloc (.cells #[.int .i64 0, .int .i64 0, .int .i64 0, .int .i64 0, .int .i64 0, .int .i64 0, .int .i64 0, .int .i64 0] 122)) := (below_new w _).alloc (by simp) _;have hx := (PB.new w x 122).carry (below_new _ (.cells #[.int .i64 0, .int .i64 0, .int .i64 0, .int .i64 0, .int .i64 0, .int .i64 0, .int .i64 0, .int .i64 0] 122));have hr := PB.new (w.alloc (.cells #[.int .i64 x.f0, .int .i64 x.f1, .int .i64 x.a0, .int .i64 x.a1, .int .i64 x.b0, .int .i64 x.b1, .int .i64 x.c0, .int .i64 x.c1] 122)) zPc 122;rw [show (w.alloc (.cells #[.int .i64 x.f0, .int .i64 x.f1, .int .i64 x.a0, .int .i64 x.a1, .int .i64 x.b0, .int .i64 x.b1, .int .i64 x.c0, .int .i64 x.c1] 122)).heap.size = w.heap.size + 1 by simp] at hr
 change PB ((w.alloc (.cells #[.int .i64 x.f0, .int .i64 x.f1, .int .i64 x.a0, .int .i64 x.a1, .int .i64 x.b0, .int .i64 x.b1, .int .i64 x.c0, .int .i64 x.c1] 122)).alloc (.cells #[.int .i64 0, .int .i64 0, .int .i64 0, .int .i64 0, .int .i64 0, .int .i64 0, .int .i64 0, .int .i64 0] 122)) (w.heap.size + 1) zPc at hr
 obtain ⟨W0, hW0⟩ := nm (((w.alloc (.cells #[.int .i64 x.f0, .int .i64 x.f1, .int .i64 x.a0, .int .i64 x.a1, .int .i64 x.b0, .int .i64 x.b1, .int .i64 x.c0, .int .i64 x.c1] 122)).alloc (.cells #[.int .i64 0, .int .i64 0, .int .i64 0, .int .i64 0, .int .i64 0, .int .i64 0, .int .i64 0, .int .i64 0] 122)));rw [hW0] at hb hx hr;obtain ⟨B, hB⟩ := nm (w.heap.size);obtain ⟨C, hC⟩ := nm (B + 1);have hne : C ≠ B := by omega
 have HCB : Hid (w.heap.size ≤ C) := lh (by omega);rw [hB, hC] at hr;have HH : Hid (HP w.heap.size w B C W0) := lh ⟨⟨hb, ⟨x, by rw [← hB]; exact hx⟩, by omega⟩, ⟨zPc, hr⟩, hne⟩;rw [hB] at hx;have HBB := lh hb;have HX := lh hx;have HR := lh hr;have HB := lh hB;clear hb hx hr
 go_enter Tryz.func81, Tryz.ntmps81
 go_upto_region 1 with (fail)
 try simp only [hW0]
 clear hW0
 try simp only [hB]
 try simp only [hC]
 clear hC hB
 go_upto_region 4 with (go_at_call 53; (with_reducible refine (HMK.out _).mono ?_); rintro e w1 ⟨rfl, hb1⟩)
 have hbn := hb1.trans ((below_new w1 (.cells #[.int .i64 sn, .int .i64 sd] 49)).mono hb1.size);have hfi := FI.put w1 sn sd 49;have HH1 := lh (HH.out.next hbn);have HX1 := lh (HX.out.carry hbn);have HR1 := lh (HR.out.carry hbn);clear hbn hb1 HX HR HBB HH;obtain ⟨Bs, hBs⟩ := nm (w1.heap.size);simp only [hBs] at hfi ⊢;clear hBs;generalize w1.alloc (.cells #[.int .i64 sn, .int .i64 sd] 49) = W1 at *;obtain ⟨s0', s1', -, -, -⟩ := hfi;obtain ⟨x0, x1, x2, x3, x4, x5, x6, x7, xf⟩ := HX1.out
 go_upto_region 5 with (go_at_call 124; (with_reducible refine (HAF.out _).mono ?_); rintro e w2 ⟨rfl, hb2⟩; clear x0 x1 x2 x3 x4 x5 x6 x7 xf; obtain ⟨x0, x1, x2, x3, x4, x5, x6, x7, xf⟩ := HX1.out.carry hb2)
 have hx2 := (HX1.out.carry hb2).putF Y.1 Y.2.1;have hh2 := (HH1.out.next hb2).putAt hx2;have hr2 := ((HR1.out.carry hb2).far HH1.out.ne (j := 0) (.int .i64 Y.1)).far HH1.out.ne (j := 1) (.int .i64 Y.2.1);clear x0 x1 x2 x3 x4 x5 x6 x7 xf HX1 HR1 HH1 hb2 s0' s1';obtain ⟨W2, hW2⟩ := nm ((w2.setCell ⟨B, 0, none⟩ (.int .i64 Y.1)).setCell ⟨B, 1, none⟩ (.int .i64 Y.2.1));rw [hW2] at hx2 hh2 hr2;simp only [hW2];clear hW2
 by_cases ye : Y.2.2 = 0
 case neg =>
  have HRR : Hid (R = (zPc, Y.2.2)) := lh (by rw [HP0.out, if_neg ye]);have g : (Y.2.2 != 0) = true := by simpa using ye
  have HBW := lh hh2.h.old;have HR2 := lh hr2;obtain ⟨r0, r1, r2, r3, r4, r5, r6, r7, rf⟩ := hr2;clear ye hx2 HP0
  go_wp2_with fail
  have hlo := HCB.out;show bodyPost _ _ _ Exit.ret _ (setFrom W2 C 0 [.int .i64 0, .int .i64 0, .int .i64 0, .int .i64 0, .int .i64 0, .int .i64 0, .int .i64 0, .int .i64 0]);have hq : (setFrom W2 C 0 [.int .i64 0, .int .i64 0, .int .i64 0, .int .i64 0, .int .i64 0, .int .i64 0, .int .i64 0, .int .i64 0]).cell? ⟨C, 0, none⟩ = some (.int .i64 0) ∧ (setFrom W2 C 0 [.int .i64 0, .int .i64 0, .int .i64 0, .int .i64 0, .int .i64 0, .int .i64 0, .int .i64 0, .int .i64 0]).cell? ⟨C, 1, none⟩ = some (.int .i64 0) ∧ (setFrom W2 C 0 [.int .i64 0, .int .i64 0, .int .i64 0, .int .i64 0, .int .i64 0, .int .i64 0, .int .i64 0, .int .i64 0]).cell? ⟨C, 2, none⟩ = some (.int .i64 0) ∧ (setFrom W2 C 0 [.int .i64 0, .int .i64 0, .int .i64 0, .int .i64 0, .int .i64 0, .int .i64 0, .int .i64 0, .int .i64 0]).cell? ⟨C, 3, none⟩ = some (.int .i64 0) ∧ (setFrom W2 C 0 [.int .i64 0, .int .i64 0, .int .i64 0, .int .i64 0, .int .i64 0, .int .i64 0, .int .i64 0, .int .i64 0]).cell? ⟨C, 4, none⟩ = some (.int .i64 0) ∧ (setFrom W2 C 0 [.int .i64 0, .int .i64 0, .int .i64 0, .int .i64 0, .int .i64 0, .int .i64 0, .int .i64 0, .int .i64 0]).cell? ⟨C, 5, none⟩ = some (.int .i64 0) ∧ (setFrom W2 C 0 [.int .i64 0, .int .i64 0, .int .i64 0, .int .i64 0, .int .i64 0, .int .i64 0, .int .i64 0, .int .i64 0]).cell? ⟨C, 6, none⟩ = some (.int .i64 0) ∧ (setFrom W2 C 0 [.int .i64 0, .int .i64 0, .int .i64 0, .int .i64 0, .int .i64 0, .int .i64 0, .int .i64 0, .int .i64 0]).cell? ⟨C, 7, none⟩ = some (.int .i64 0) := pc_from zPc HR2.out;have hbb := below_from (m := w.heap.size) (b := C) (W := w) [.int .i64 0, .int .i64 0, .int .i64 0, .int .i64 0, .int .i64 0, .int .i64 0, .int .i64 0, .int .i64 0] W2 0 HBW.out (by have := hlo; omega);generalize setFrom W2 C 0 [.int .i64 0, .int .i64 0, .int .i64 0, .int .i64 0, .int .i64 0, .int .i64 0, .int .i64 0, .int .i64 0] = WF at *;obtain ⟨g0, g1, g2, g3, g4, g5, g6, g7⟩ := hq;refine bodyPost_ret (v := .tuple #[.agg #[.int .i64 0, .int .i64 0, .int .i64 0, .int .i64 0, .int .i64 0, .int .i64 0, .int .i64 0, .int .i64 0], .int .i64 Y.2.2]) (by simp [results, Tryz.results81, go_sem, g0, g1, g2, g3, g4, g5, g6, g7]) rfl ⟨by first | (rw [HRR.out]; done) | (rw [HRR.out]; rfl), hbb⟩
 have g : (Y.2.2 != 0) = false := by simp [ye]
 have HX2 := lh hx2;have HH2 := lh hh2;have HR2 := lh hr2;clear hx2 hh2 hr2
 cases up
 ·obtain ⟨X, hX⟩ := nm (addP z 1 (-x.a0) x.a1)
  rw [hX] at HAD;have HRR : Hid (R = (⟨Y.1, Y.2.1, X.1, X.2.1, -x.b0, x.b1, -x.c0, x.c1⟩, X.2.2)) := lh (by rw [HP0.out, if_pos ye, ← hX]; rfl);clear hX ye HP0;obtain ⟨x0, x1, x2, x3, x4, x5, x6, x7, xf⟩ := HX2.out;have wb : IntKind.i64.wrap (-x.b0) = -x.b0 := IntWalk.i64_in _ (by omega);have wc : IntKind.i64.wrap (-x.c0) = -x.c0 := IntWalk.i64_in _ (by omega)
  go_upto_region 11 with (fail)
  clear x0 x1 x2 x3 x4 x5 x6 x7 xf;have hx3 := (HX2.out.putB0 (-x.b0)).putC0 (-x.c0);have hh3 : HP w.heap.size w B C ((W2.setCell ⟨B, 4, none⟩ (.int .i64 (-x.b0))).setCell ⟨B, 6, none⟩ (.int .i64 (-x.c0))) := HH2.out.putAt hx3;have hr3 := (HR2.out.far HH2.out.ne (j := 4) (.int .i64 (-x.b0))).far HH2.out.ne (j := 6) (.int .i64 (-x.c0));obtain ⟨W3, hW3⟩ := nm ((W2.setCell ⟨B, 4, none⟩ (.int .i64 (-x.b0))).setCell ⟨B, 6, none⟩ (.int .i64 (-x.c0)));rw [hW3] at hx3 hh3 hr3;simp only [hW3];clear hW3 wb wc;clear HX2 HH2 HR2;have hxd := hx3.carry (below_drewR W3);have hrd := hr3.carry (below_drewR W3);have hhd := hh3.next (below_drewR W3);clear hx3 hh3 hr3;refine wp_region_held_drew (S := HP w.heap.size w B C) (by kernel_rfl) hhd (fun hHeld => ?_);refine tk 0 ?_; refine tk 2 ?_;obtain ⟨q0, q1, q2, q3, q4, q5, q6, q7, qf⟩ := id hxd;refine ry [1, 3] (rc 1 (twhole_any z _) (fun _ hb => hHeld.next hb) (fun y1 hb hH1 => ?_) (vl 3 hHeld (fun hH1 => ?_) nl))
  ·have hp1 := hxd.carry hb
   have hr1 := hrd.carry hb;clear q0 q1 q2 q3 q4 q5 q6 q7 qf hxd hrd;obtain ⟨q0, q1, q2, q3, q4, q5, q6, q7, qf⟩ := id hp1;refine ry [3] (vl 3 hH1 (fun hH2 => ?_) nl);refine cl 4 (HAD.out _) (fun _ hb => hH2.next hb) (fun y2 hb2 hH3 => ?_);have hp2 := hp1.carry hb2;have hr2 := hr1.carry hb2
   (try clear q0 q1 q2 q3 q4 q5 q6 q7 qf)
   obtain ⟨q0, q1, q2, q3, q4, q5, q6, q7, qf⟩ := id hp2;refine tk 5 ?_; refine tk 6 ?_; refine tk 7 ?_; refine tk 8 ?_;have hp3 := hp2.putA X.1 X.2.1;refine ry [9] (vl 9 (hH3.putAt hp3) (fun hH4 => ?_) nl);refine tk 10 ?_; refine dn ?_;have HR4 := lh ((hr2.far hH3.ne (j := 2) (.int .i64 X.1)).far hH3.ne (j := 3) (.int .i64 X.2.1));have HBW := lh hH4.h.old;clear q0 q1 q2 q3 q4 q5 q6 q7 qf hp2 hr2 hH3 hH2 hH1 hHeld hp1 hr1;obtain ⟨W5, hW5⟩ := nm ((y2.setCell ⟨B, 2, none⟩ (.int .i64 X.1)).setCell ⟨B, 3, none⟩ (.int .i64 X.2.1));rw [hW5] at HR4 HBW hp3;simp only [hW5];clear hW5 hH4;obtain ⟨q0, q1, q2, q3, q4, q5, q6, q7, qf⟩ := hp3;obtain ⟨r0, r1, r2, r3, r4, r5, r6, r7, rf⟩ := HR4.out
   go_wp2_with fail
   have hlo := HCB.out;show bodyPost _ _ _ Exit.ret _ (setFrom W5 C 0 [.int .i64 Y.1, .int .i64 Y.2.1, .int .i64 X.1, .int .i64 X.2.1, .int .i64 (-x.b0), .int .i64 x.b1, .int .i64 (-x.c0), .int .i64 x.c1]);have hq : (setFrom W5 C 0 [.int .i64 Y.1, .int .i64 Y.2.1, .int .i64 X.1, .int .i64 X.2.1, .int .i64 (-x.b0), .int .i64 x.b1, .int .i64 (-x.c0), .int .i64 x.c1]).cell? ⟨C, 0, none⟩ = some (.int .i64 Y.1) ∧ (setFrom W5 C 0 [.int .i64 Y.1, .int .i64 Y.2.1, .int .i64 X.1, .int .i64 X.2.1, .int .i64 (-x.b0), .int .i64 x.b1, .int .i64 (-x.c0), .int .i64 x.c1]).cell? ⟨C, 1, none⟩ = some (.int .i64 Y.2.1) ∧ (setFrom W5 C 0 [.int .i64 Y.1, .int .i64 Y.2.1, .int .i64 X.1, .int .i64 X.2.1, .int .i64 (-x.b0), .int .i64 x.b1, .int .i64 (-x.c0), .int .i64 x.c1]).cell? ⟨C, 2, none⟩ = some (.int .i64 X.1) ∧ (setFrom W5 C 0 [.int .i64 Y.1, .int .i64 Y.2.1, .int .i64 X.1, .int .i64 X.2.1, .int .i64 (-x.b0), .int .i64 x.b1, .int .i64 (-x.c0), .int .i64 x.c1]).cell? ⟨C, 3, none⟩ = some (.int .i64 X.2.1) ∧ (setFrom W5 C 0 [.int .i64 Y.1, .int .i64 Y.2.1, .int .i64 X.1, .int .i64 X.2.1, .int .i64 (-x.b0), .int .i64 x.b1, .int .i64 (-x.c0), .int .i64 x.c1]).cell? ⟨C, 4, none⟩ = some (.int .i64 (-x.b0)) ∧ (setFrom W5 C 0 [.int .i64 Y.1, .int .i64 Y.2.1, .int .i64 X.1, .int .i64 X.2.1, .int .i64 (-x.b0), .int .i64 x.b1, .int .i64 (-x.c0), .int .i64 x.c1]).cell? ⟨C, 5, none⟩ = some (.int .i64 x.b1) ∧ (setFrom W5 C 0 [.int .i64 Y.1, .int .i64 Y.2.1, .int .i64 X.1, .int .i64 X.2.1, .int .i64 (-x.b0), .int .i64 x.b1, .int .i64 (-x.c0), .int .i64 x.c1]).cell? ⟨C, 6, none⟩ = some (.int .i64 (-x.c0)) ∧ (setFrom W5 C 0 [.int .i64 Y.1, .int .i64 Y.2.1, .int .i64 X.1, .int .i64 X.2.1, .int .i64 (-x.b0), .int .i64 x.b1, .int .i64 (-x.c0), .int .i64 x.c1]).cell? ⟨C, 7, none⟩ = some (.int .i64 x.c1) := pc_from ⟨Y.1, Y.2.1, X.1, X.2.1, -x.b0, x.b1, -x.c0, x.c1⟩ HR4.out;have hbb := below_from (m := w.heap.size) (b := C) (W := w) [.int .i64 Y.1, .int .i64 Y.2.1, .int .i64 X.1, .int .i64 X.2.1, .int .i64 (-x.b0), .int .i64 x.b1, .int .i64 (-x.c0), .int .i64 x.c1] W5 0 HBW.out (by have := hlo; omega);generalize setFrom W5 C 0 [.int .i64 Y.1, .int .i64 Y.2.1, .int .i64 X.1, .int .i64 X.2.1, .int .i64 (-x.b0), .int .i64 x.b1, .int .i64 (-x.c0), .int .i64 x.c1] = WF at *;obtain ⟨g0, g1, g2, g3, g4, g5, g6, g7⟩ := hq;refine bodyPost_ret (v := .tuple #[.agg #[.int .i64 Y.1, .int .i64 Y.2.1, .int .i64 X.1, .int .i64 X.2.1, .int .i64 (-x.b0), .int .i64 x.b1, .int .i64 (-x.c0), .int .i64 x.c1], .int .i64 X.2.2]) (by simp [results, Tryz.results81, go_sem, g0, g1, g2, g3, g4, g5, g6, g7]) rfl ⟨by first | (rw [HRR.out]; done) | (rw [HRR.out]; rfl), hbb⟩
  ·clear q0 q1 q2 q3 q4 q5 q6 q7 qf
   refine ry [1] (rc 1 (twhole_any z _) (fun _ hb => hH1.next hb) (fun y1 hb hH2 => ?_) nl);have hp1 := hxd.carry hb;have hr1 := hrd.carry hb;refine cl 4 (HAD.out _) (fun _ hb => hH2.next hb) (fun y2 hb2 hH3 => ?_);have hp2 := hp1.carry hb2;have hr2 := hr1.carry hb2
   (try clear q0 q1 q2 q3 q4 q5 q6 q7 qf)
   obtain ⟨q0, q1, q2, q3, q4, q5, q6, q7, qf⟩ := id hp2;refine tk 5 ?_; refine tk 6 ?_; refine tk 7 ?_; refine tk 8 ?_;have hp3 := hp2.putA X.1 X.2.1;refine ry [9] (vl 9 (hH3.putAt hp3) (fun hH4 => ?_) nl);refine tk 10 ?_; refine dn ?_;have HR4 := lh ((hr2.far hH3.ne (j := 2) (.int .i64 X.1)).far hH3.ne (j := 3) (.int .i64 X.2.1));have HBW := lh hH4.h.old;clear q0 q1 q2 q3 q4 q5 q6 q7 qf hp2 hr2 hH3 hH2 hH1 hHeld hp1 hr1;obtain ⟨W5, hW5⟩ := nm ((y2.setCell ⟨B, 2, none⟩ (.int .i64 X.1)).setCell ⟨B, 3, none⟩ (.int .i64 X.2.1));rw [hW5] at HR4 HBW hp3;simp only [hW5];clear hW5 hH4;obtain ⟨q0, q1, q2, q3, q4, q5, q6, q7, qf⟩ := hp3;obtain ⟨r0, r1, r2, r3, r4, r5, r6, r7, rf⟩ := HR4.out
   go_wp2_with fail
   have hlo := HCB.out;show bodyPost _ _ _ Exit.ret _ (setFrom W5 C 0 [.int .i64 Y.1, .int .i64 Y.2.1, .int .i64 X.1, .int .i64 X.2.1, .int .i64 (-x.b0), .int .i64 x.b1, .int .i64 (-x.c0), .int .i64 x.c1]);have hq : (setFrom W5 C 0 [.int .i64 Y.1, .int .i64 Y.2.1, .int .i64 X.1, .int .i64 X.2.1, .int .i64 (-x.b0), .int .i64 x.b1, .int .i64 (-x.c0), .int .i64 x.c1]).cell? ⟨C, 0, none⟩ = some (.int .i64 Y.1) ∧ (setFrom W5 C 0 [.int .i64 Y.1, .int .i64 Y.2.1, .int .i64 X.1, .int .i64 X.2.1, .int .i64 (-x.b0), .int .i64 x.b1, .int .i64 (-x.c0), .int .i64 x.c1]).cell? ⟨C, 1, none⟩ = some (.int .i64 Y.2.1) ∧ (setFrom W5 C 0 [.int .i64 Y.1, .int .i64 Y.2.1, .int .i64 X.1, .int .i64 X.2.1, .int .i64 (-x.b0), .int .i64 x.b1, .int .i64 (-x.c0), .int .i64 x.c1]).cell? ⟨C, 2, none⟩ = some (.int .i64 X.1) ∧ (setFrom W5 C 0 [.int .i64 Y.1, .int .i64 Y.2.1, .int .i64 X.1, .int .i64 X.2.1, .int .i64 (-x.b0), .int .i64 x.b1, .int .i64 (-x.c0), .int .i64 x.c1]).cell? ⟨C, 3, none⟩ = some (.int .i64 X.2.1) ∧ (setFrom W5 C 0 [.int .i64 Y.1, .int .i64 Y.2.1, .int .i64 X.1, .int .i64 X.2.1, .int .i64 (-x.b0), .int .i64 x.b1, .int .i64 (-x.c0), .int .i64 x.c1]).cell? ⟨C, 4, none⟩ = some (.int .i64 (-x.b0)) ∧ (setFrom W5 C 0 [.int .i64 Y.1, .int .i64 Y.2.1, .int .i64 X.1, .int .i64 X.2.1, .int .i64 (-x.b0), .int .i64 x.b1, .int .i64 (-x.c0), .int .i64 x.c1]).cell? ⟨C, 5, none⟩ = some (.int .i64 x.b1) ∧ (setFrom W5 C 0 [.int .i64 Y.1, .int .i64 Y.2.1, .int .i64 X.1, .int .i64 X.2.1, .int .i64 (-x.b0), .int .i64 x.b1, .int .i64 (-x.c0), .int .i64 x.c1]).cell? ⟨C, 6, none⟩ = some (.int .i64 (-x.c0)) ∧ (setFrom W5 C 0 [.int .i64 Y.1, .int .i64 Y.2.1, .int .i64 X.1, .int .i64 X.2.1, .int .i64 (-x.b0), .int .i64 x.b1, .int .i64 (-x.c0), .int .i64 x.c1]).cell? ⟨C, 7, none⟩ = some (.int .i64 x.c1) := pc_from ⟨Y.1, Y.2.1, X.1, X.2.1, -x.b0, x.b1, -x.c0, x.c1⟩ HR4.out;have hbb := below_from (m := w.heap.size) (b := C) (W := w) [.int .i64 Y.1, .int .i64 Y.2.1, .int .i64 X.1, .int .i64 X.2.1, .int .i64 (-x.b0), .int .i64 x.b1, .int .i64 (-x.c0), .int .i64 x.c1] W5 0 HBW.out (by have := hlo; omega);generalize setFrom W5 C 0 [.int .i64 Y.1, .int .i64 Y.2.1, .int .i64 X.1, .int .i64 X.2.1, .int .i64 (-x.b0), .int .i64 x.b1, .int .i64 (-x.c0), .int .i64 x.c1] = WF at *;obtain ⟨g0, g1, g2, g3, g4, g5, g6, g7⟩ := hq;refine bodyPost_ret (v := .tuple #[.agg #[.int .i64 Y.1, .int .i64 Y.2.1, .int .i64 X.1, .int .i64 X.2.1, .int .i64 (-x.b0), .int .i64 x.b1, .int .i64 (-x.c0), .int .i64 x.c1], .int .i64 X.2.2]) (by simp [results, Tryz.results81, go_sem, g0, g1, g2, g3, g4, g5, g6, g7]) rfl ⟨by first | (rw [HRR.out]; done) | (rw [HRR.out]; rfl), hbb⟩
 ·obtain ⟨X, hX⟩ := nm (addP z 1 (x.a0) x.a1)
  rw [hX] at HAU;have HRR : Hid (R = (⟨Y.1, Y.2.1, X.1, X.2.1, x.b0, x.b1, x.c0, x.c1⟩, X.2.2)) := lh (by rw [HP0.out, if_pos ye, ← hX]; rfl);clear hX ye HP0;obtain ⟨x0, x1, x2, x3, x4, x5, x6, x7, xf⟩ := HX2.out
  go_upto_region 8 with (fail)
  clear x0 x1 x2 x3 x4 x5 x6 x7 xf;have hx3 := HX2.out;have hh3 := HH2.out;have hr3 := HR2.out;clear HX2 HH2 HR2;have hxd := hx3.carry (below_drewR W2);have hrd := hr3.carry (below_drewR W2);have hhd := hh3.next (below_drewR W2);clear hx3 hh3 hr3;refine wp_region_held_drew (S := HP w.heap.size w B C) (by kernel_rfl) hhd (fun hHeld => ?_);refine tk 0 ?_; refine tk 2 ?_;obtain ⟨q0, q1, q2, q3, q4, q5, q6, q7, qf⟩ := id hxd;refine ry [1, 3] (rc 1 (twhole_any z _) (fun _ hb => hHeld.next hb) (fun y1 hb hH1 => ?_) (vl 3 hHeld (fun hH1 => ?_) nl))
  ·have hp1 := hxd.carry hb
   have hr1 := hrd.carry hb;clear q0 q1 q2 q3 q4 q5 q6 q7 qf hxd hrd;obtain ⟨q0, q1, q2, q3, q4, q5, q6, q7, qf⟩ := id hp1;refine ry [3] (vl 3 hH1 (fun hH2 => ?_) nl);refine cl 4 (HAU.out _) (fun _ hb => hH2.next hb) (fun y2 hb2 hH3 => ?_);have hp2 := hp1.carry hb2;have hr2 := hr1.carry hb2
   (try clear q0 q1 q2 q3 q4 q5 q6 q7 qf)
   obtain ⟨q0, q1, q2, q3, q4, q5, q6, q7, qf⟩ := id hp2;refine tk 5 ?_; refine tk 6 ?_; refine tk 7 ?_; refine tk 8 ?_;have hp3 := hp2.putA X.1 X.2.1;refine ry [9] (vl 9 (hH3.putAt hp3) (fun hH4 => ?_) nl);refine tk 10 ?_; refine dn ?_;have HR4 := lh ((hr2.far hH3.ne (j := 2) (.int .i64 X.1)).far hH3.ne (j := 3) (.int .i64 X.2.1));have HBW := lh hH4.h.old;clear q0 q1 q2 q3 q4 q5 q6 q7 qf hp2 hr2 hH3 hH2 hH1 hHeld hp1 hr1;obtain ⟨W5, hW5⟩ := nm ((y2.setCell ⟨B, 2, none⟩ (.int .i64 X.1)).setCell ⟨B, 3, none⟩ (.int .i64 X.2.1));rw [hW5] at HR4 HBW hp3;simp only [hW5];clear hW5 hH4;obtain ⟨q0, q1, q2, q3, q4, q5, q6, q7, qf⟩ := hp3;obtain ⟨r0, r1, r2, r3, r4, r5, r6, r7, rf⟩ := HR4.out
   go_wp2_with fail
   have hlo := HCB.out;show bodyPost _ _ _ Exit.ret _ (setFrom W5 C 0 [.int .i64 Y.1, .int .i64 Y.2.1, .int .i64 X.1, .int .i64 X.2.1, .int .i64 x.b0, .int .i64 x.b1, .int .i64 x.c0, .int .i64 x.c1]);have hq : (setFrom W5 C 0 [.int .i64 Y.1, .int .i64 Y.2.1, .int .i64 X.1, .int .i64 X.2.1, .int .i64 x.b0, .int .i64 x.b1, .int .i64 x.c0, .int .i64 x.c1]).cell? ⟨C, 0, none⟩ = some (.int .i64 Y.1) ∧ (setFrom W5 C 0 [.int .i64 Y.1, .int .i64 Y.2.1, .int .i64 X.1, .int .i64 X.2.1, .int .i64 x.b0, .int .i64 x.b1, .int .i64 x.c0, .int .i64 x.c1]).cell? ⟨C, 1, none⟩ = some (.int .i64 Y.2.1) ∧ (setFrom W5 C 0 [.int .i64 Y.1, .int .i64 Y.2.1, .int .i64 X.1, .int .i64 X.2.1, .int .i64 x.b0, .int .i64 x.b1, .int .i64 x.c0, .int .i64 x.c1]).cell? ⟨C, 2, none⟩ = some (.int .i64 X.1) ∧ (setFrom W5 C 0 [.int .i64 Y.1, .int .i64 Y.2.1, .int .i64 X.1, .int .i64 X.2.1, .int .i64 x.b0, .int .i64 x.b1, .int .i64 x.c0, .int .i64 x.c1]).cell? ⟨C, 3, none⟩ = some (.int .i64 X.2.1) ∧ (setFrom W5 C 0 [.int .i64 Y.1, .int .i64 Y.2.1, .int .i64 X.1, .int .i64 X.2.1, .int .i64 x.b0, .int .i64 x.b1, .int .i64 x.c0, .int .i64 x.c1]).cell? ⟨C, 4, none⟩ = some (.int .i64 x.b0) ∧ (setFrom W5 C 0 [.int .i64 Y.1, .int .i64 Y.2.1, .int .i64 X.1, .int .i64 X.2.1, .int .i64 x.b0, .int .i64 x.b1, .int .i64 x.c0, .int .i64 x.c1]).cell? ⟨C, 5, none⟩ = some (.int .i64 x.b1) ∧ (setFrom W5 C 0 [.int .i64 Y.1, .int .i64 Y.2.1, .int .i64 X.1, .int .i64 X.2.1, .int .i64 x.b0, .int .i64 x.b1, .int .i64 x.c0, .int .i64 x.c1]).cell? ⟨C, 6, none⟩ = some (.int .i64 x.c0) ∧ (setFrom W5 C 0 [.int .i64 Y.1, .int .i64 Y.2.1, .int .i64 X.1, .int .i64 X.2.1, .int .i64 x.b0, .int .i64 x.b1, .int .i64 x.c0, .int .i64 x.c1]).cell? ⟨C, 7, none⟩ = some (.int .i64 x.c1) := pc_from ⟨Y.1, Y.2.1, X.1, X.2.1, x.b0, x.b1, x.c0, x.c1⟩ HR4.out;have hbb := below_from (m := w.heap.size) (b := C) (W := w) [.int .i64 Y.1, .int .i64 Y.2.1, .int .i64 X.1, .int .i64 X.2.1, .int .i64 x.b0, .int .i64 x.b1, .int .i64 x.c0, .int .i64 x.c1] W5 0 HBW.out (by have := hlo; omega);generalize setFrom W5 C 0 [.int .i64 Y.1, .int .i64 Y.2.1, .int .i64 X.1, .int .i64 X.2.1, .int .i64 x.b0, .int .i64 x.b1, .int .i64 x.c0, .int .i64 x.c1] = WF at *;obtain ⟨g0, g1, g2, g3, g4, g5, g6, g7⟩ := hq;refine bodyPost_ret (v := .tuple #[.agg #[.int .i64 Y.1, .int .i64 Y.2.1, .int .i64 X.1, .int .i64 X.2.1, .int .i64 x.b0, .int .i64 x.b1, .int .i64 x.c0, .int .i64 x.c1], .int .i64 X.2.2]) (by simp [results, Tryz.results81, go_sem, g0, g1, g2, g3, g4, g5, g6, g7]) rfl ⟨by first | (rw [HRR.out]; done) | (rw [HRR.out]; rfl), hbb⟩
  ·clear q0 q1 q2 q3 q4 q5 q6 q7 qf
   refine ry [1] (rc 1 (twhole_any z _) (fun _ hb => hH1.next hb) (fun y1 hb hH2 => ?_) nl);have hp1 := hxd.carry hb;have hr1 := hrd.carry hb;refine cl 4 (HAU.out _) (fun _ hb => hH2.next hb) (fun y2 hb2 hH3 => ?_);have hp2 := hp1.carry hb2;have hr2 := hr1.carry hb2
   (try clear q0 q1 q2 q3 q4 q5 q6 q7 qf)
   obtain ⟨q0, q1, q2, q3, q4, q5, q6, q7, qf⟩ := id hp2;refine tk 5 ?_; refine tk 6 ?_; refine tk 7 ?_; refine tk 8 ?_;have hp3 := hp2.putA X.1 X.2.1;refine ry [9] (vl 9 (hH3.putAt hp3) (fun hH4 => ?_) nl);refine tk 10 ?_; refine dn ?_;have HR4 := lh ((hr2.far hH3.ne (j := 2) (.int .i64 X.1)).far hH3.ne (j := 3) (.int .i64 X.2.1));have HBW := lh hH4.h.old;clear q0 q1 q2 q3 q4 q5 q6 q7 qf hp2 hr2 hH3 hH2 hH1 hHeld hp1 hr1;obtain ⟨W5, hW5⟩ := nm ((y2.setCell ⟨B, 2, none⟩ (.int .i64 X.1)).setCell ⟨B, 3, none⟩ (.int .i64 X.2.1));rw [hW5] at HR4 HBW hp3;simp only [hW5];clear hW5 hH4;obtain ⟨q0, q1, q2, q3, q4, q5, q6, q7, qf⟩ := hp3;obtain ⟨r0, r1, r2, r3, r4, r5, r6, r7, rf⟩ := HR4.out
   go_wp2_with fail
   have hlo := HCB.out;show bodyPost _ _ _ Exit.ret _ (setFrom W5 C 0 [.int .i64 Y.1, .int .i64 Y.2.1, .int .i64 X.1, .int .i64 X.2.1, .int .i64 x.b0, .int .i64 x.b1, .int .i64 x.c0, .int .i64 x.c1]);have hq : (setFrom W5 C 0 [.int .i64 Y.1, .int .i64 Y.2.1, .int .i64 X.1, .int .i64 X.2.1, .int .i64 x.b0, .int .i64 x.b1, .int .i64 x.c0, .int .i64 x.c1]).cell? ⟨C, 0, none⟩ = some (.int .i64 Y.1) ∧ (setFrom W5 C 0 [.int .i64 Y.1, .int .i64 Y.2.1, .int .i64 X.1, .int .i64 X.2.1, .int .i64 x.b0, .int .i64 x.b1, .int .i64 x.c0, .int .i64 x.c1]).cell? ⟨C, 1, none⟩ = some (.int .i64 Y.2.1) ∧ (setFrom W5 C 0 [.int .i64 Y.1, .int .i64 Y.2.1, .int .i64 X.1, .int .i64 X.2.1, .int .i64 x.b0, .int .i64 x.b1, .int .i64 x.c0, .int .i64 x.c1]).cell? ⟨C, 2, none⟩ = some (.int .i64 X.1) ∧ (setFrom W5 C 0 [.int .i64 Y.1, .int .i64 Y.2.1, .int .i64 X.1, .int .i64 X.2.1, .int .i64 x.b0, .int .i64 x.b1, .int .i64 x.c0, .int .i64 x.c1]).cell? ⟨C, 3, none⟩ = some (.int .i64 X.2.1) ∧ (setFrom W5 C 0 [.int .i64 Y.1, .int .i64 Y.2.1, .int .i64 X.1, .int .i64 X.2.1, .int .i64 x.b0, .int .i64 x.b1, .int .i64 x.c0, .int .i64 x.c1]).cell? ⟨C, 4, none⟩ = some (.int .i64 x.b0) ∧ (setFrom W5 C 0 [.int .i64 Y.1, .int .i64 Y.2.1, .int .i64 X.1, .int .i64 X.2.1, .int .i64 x.b0, .int .i64 x.b1, .int .i64 x.c0, .int .i64 x.c1]).cell? ⟨C, 5, none⟩ = some (.int .i64 x.b1) ∧ (setFrom W5 C 0 [.int .i64 Y.1, .int .i64 Y.2.1, .int .i64 X.1, .int .i64 X.2.1, .int .i64 x.b0, .int .i64 x.b1, .int .i64 x.c0, .int .i64 x.c1]).cell? ⟨C, 6, none⟩ = some (.int .i64 x.c0) ∧ (setFrom W5 C 0 [.int .i64 Y.1, .int .i64 Y.2.1, .int .i64 X.1, .int .i64 X.2.1, .int .i64 x.b0, .int .i64 x.b1, .int .i64 x.c0, .int .i64 x.c1]).cell? ⟨C, 7, none⟩ = some (.int .i64 x.c1) := pc_from ⟨Y.1, Y.2.1, X.1, X.2.1, x.b0, x.b1, x.c0, x.c1⟩ HR4.out;have hbb := below_from (m := w.heap.size) (b := C) (W := w) [.int .i64 Y.1, .int .i64 Y.2.1, .int .i64 X.1, .int .i64 X.2.1, .int .i64 x.b0, .int .i64 x.b1, .int .i64 x.c0, .int .i64 x.c1] W5 0 HBW.out (by have := hlo; omega);generalize setFrom W5 C 0 [.int .i64 Y.1, .int .i64 Y.2.1, .int .i64 X.1, .int .i64 X.2.1, .int .i64 x.b0, .int .i64 x.b1, .int .i64 x.c0, .int .i64 x.c1] = WF at *;obtain ⟨g0, g1, g2, g3, g4, g5, g6, g7⟩ := hq;refine bodyPost_ret (v := .tuple #[.agg #[.int .i64 Y.1, .int .i64 Y.2.1, .int .i64 X.1, .int .i64 X.2.1, .int .i64 x.b0, .int .i64 x.b1, .int .i64 x.c0, .int .i64 x.c1], .int .i64 X.2.2]) (by simp [results, Tryz.results81, go_sem, g0, g1, g2, g3, g4, g5, g6, g7]) rfl ⟨by first | (rw [HRR.out]; done) | (rw [HRR.out]; rfl), hbb⟩
theorem ent_tmoves (args : Array Value) (w : World) : (callFunc 118 args).run Tryz.prog w = .ok (.enter 118 args) w := enters_of Tryz.func118 (by kernel_rfl) rfl args w
theorem asks_tmoves {w : World} {b : Nat} {s : ByteArray} (h : w.cell? ⟨b, 0, none⟩ = some (.string s)) : AsksMov 118 #[.pointer (some ⟨b, 0, none⟩)] w.heap.size w (fun y => decide (y.name = s)) := by
 intro W x hb;have hlt := wl h;have h' := (hb.cell (p := ⟨b, 0, none⟩) hlt).trans h;have hlt' : b < W.heap.size := wl h';show Calls _ _ #[.agg #[.string x.name, .int .i64 x.to, .int .i64 x.spd, .int .i64 x.rise, .int .i64 x.fall], .pointer (some ⟨b, 0, none⟩)] _ _;clear h hb hlt
 go_enter Tryz.func118, Tryz.ntmps118
 go_wp2_with fail
 go_ret;exact ⟨ret_bool (str_eq _ _), below_new _ _⟩
theorem mv_from (x : Mv) {w : World} {b : Nat} (h : ∀ i, i < 5 → (w.cell? ⟨b, i, none⟩).isSome = true) : MvAt (setFrom w b 0 [.string x.name, .int .i64 x.to, .int .i64 x.spd, .int .i64 x.rise, .int .i64 x.fall]) b x := by
 have r := read_from ([.string x.name, .int .i64 x.to, .int .i64 x.spd, .int .i64 x.rise, .int .i64 x.fall] : List Value) w b 0 (fun i hi => by rw [Nat.zero_add]; exact h i hi);simp only [Nat.zero_add] at r;exact ⟨r 0 (by simp), r 1 (by simp), r 2 (by simp), r 3 (by simp), r 4 (by simp)⟩
structure ZMv (w : World) (b : Nat) : Prop where
 c : w.cell? ⟨b, 0, none⟩ = some (.string ⟨#[]⟩) ∧ w.cell? ⟨b, 1, none⟩ = some (.int .i64 0) ∧ w.cell? ⟨b, 2, none⟩ = some (.int .i64 0) ∧ w.cell? ⟨b, 3, none⟩ = some (.int .i64 0) ∧ w.cell? ⟨b, 4, none⟩ = some (.int .i64 0)
 free : ∀ i, w.frozen? ⟨b, i, none⟩ = false
theorem ZMv.lt {w : World} {b : Nat} (z : ZMv w b) : b < w.heap.size := wl z.c.1
theorem ZMv.some {w : World} {b : Nat} (z : ZMv w b) : ∀ i, i < 5 → (w.cell? ⟨b, i, none⟩).isSome = true := by
 obtain ⟨c0, c1, c2, c3, c4⟩ := z.c;intro i hi;obtain rfl | rfl | rfl | rfl | rfl : i = 0 ∨ i = 1 ∨ i = 2 ∨ i = 3 ∨ i = 4 := by omega
 ·rw [c0]; rfl
 ·rw [c1]; rfl
 ·rw [c2]; rfl
 ·rw [c3]; rfl
 ·rw [c4]; rfl
theorem ZMv.carry {w w' : World} {b : Nat} (z : ZMv w b) (h : Below w.heap.size w w') : ZMv w' b := by
 have hl := z.lt;obtain ⟨c0, c1, c2, c3, c4⟩ := z.c;exact ⟨⟨(h.cell (p := ⟨b, 0, none⟩) hl).trans c0, (h.cell (p := ⟨b, 1, none⟩) hl).trans c1, (h.cell (p := ⟨b, 2, none⟩) hl).trans c2, (h.cell (p := ⟨b, 3, none⟩) hl).trans c3, (h.cell (p := ⟨b, 4, none⟩) hl).trans c4⟩, fun i => (h.frozen (p := ⟨b, i, none⟩) hl).trans (z.free i)⟩
theorem ZMv.new (w : World) : ZMv (w.alloc (.cells #[.string ⟨#[]⟩, .int .i64 0, .int .i64 0, .int .i64 0, .int .i64 0] 94)) w.heap.size := ⟨by simp, fun i => by simp⟩
theorem tmoves_any (q : CueR) (s : ByteArray) (w : World) (hm : Movs w.heap.size w q.ma q.moves) (hl : q.moves.length ≤ 1000) (_ : q.moves.length ≤ q.mc) :
  Calls Tryz.prog 79 #[.agg #[.string q.name, .string q.after, .int .i64 q.link, .int .i64 q.delay, .slice q.ma q.moves.length q.mc, .int .i64 q.crew, .int .i64 q.power], .string s] w fun e w' => e = .returned (.tuple #[.agg #[.string (mvO q.moves s).name, .int .i64 (mvO q.moves s).to, .int .i64 (mvO q.moves s).spd, .int .i64 (mvO q.moves s).rise, .int .i64 (mvO q.moves s).fall], .bool (mvB q.moves s)]) ∧ Below w.heap.size w w' := by
 have hb : Below w.heap.size w (((w.alloc (LCu q)).alloc (.cells #[.string s] 9)).alloc (.cells #[.string ⟨#[]⟩, .int .i64 0, .int .i64 0, .int .i64 0, .int .i64 0] 94)) := ((below_new w _).alloc (by simp) _).alloc (by simp; omega) _;have hq := ((CueAt.new w q 86 _ rfl).carry (below_new _ (.cells #[.string s] 9))).carry (below_new _ (.cells #[.string ⟨#[]⟩, .int .i64 0, .int .i64 0, .int .i64 0, .int .i64 0] 94));have hs1 : ((w.alloc (LCu q)).alloc (.cells #[.string s] 9)).cell? ⟨w.heap.size + 1, 0, none⟩ = some (.string s) := by simp
 have hs := ((below_new ((w.alloc (LCu q)).alloc (.cells #[.string s] 9)) (.cells #[.string ⟨#[]⟩, .int .i64 0, .int .i64 0, .int .i64 0, .int .i64 0] 94)).cell (p := ⟨w.heap.size + 1, 0, none⟩) (wl hs1)).trans hs1;have hz := ZMv.new ((w.alloc (LCu q)).alloc (.cells #[.string s] 9));rw [show ((w.alloc (LCu q)).alloc (.cells #[.string s] 9)).heap.size = w.heap.size + 1 + 1 by simp] at hz;clear hs1;obtain ⟨W0, hW0⟩ := nm ((((w.alloc (LCu q)).alloc (.cells #[.string s] 9)).alloc (.cells #[.string ⟨#[]⟩, .int .i64 0, .int .i64 0, .int .i64 0, .int .i64 0] 94)));rw [hW0] at hb hq hs hz;have HIX := lh (mov_indexFunc q.ma q.moves q.mc _ _ _ (fun y => decide (y.name = s)) W0 ent_tmoves (by omega) (Nat.le_refl _) (hm.grow hb) (asks_tmoves hs));have HX : Hid (∀ w', Below W0.heap.size W0 w' → CueAt w' w.heap.size q ∧ Movs w'.heap.size w' q.ma q.moves ∧ ZMv w' (w.heap.size + 1 + 1) ∧ Below w.heap.size w w') := lh fun w' z => ⟨hq.carry z, (hm.grow hb).grow z, hz.carry z, hb.trans (z.mono hb.size)⟩;have hr := mov_first_cases q.moves (fun y => decide (y.name = s));clear hb hq hs hz hm;obtain ⟨B, hB⟩ := nm (w.heap.size + 1 + 1);have HBL : Hid (w.heap.size ≤ B) := lh (by omega);rw [hB] at HX;rcases hr with ⟨hr, -⟩ | ⟨k, hk, hr, -, -⟩
 ·have HM := lh (mv_no (show mvI q.moves s = -1 from hr))
  rw [hr] at HIX;rw [HM.out.1, HM.out.2];clear hr
  go_enter Tryz.func79, Tryz.ntmps79
  go_upto_region 1 with (fail)
  try simp only [hW0]
  clear hW0
  try simp only [hB]
  clear hB;obtain ⟨⟨q0, q1, q2, q3, q4, q5, q6⟩, -⟩ := HX.out _ br
  go_upto_region 3 with (go_at_call 117; (with_reducible refine HIX.out.mono ?_); rintro e w1 ⟨rfl, hb1⟩)
  clear q0 q1 q2 q3 q4 q5 q6;obtain ⟨⟨q0, q1, q2, q3, q4, q5, q6⟩, hmv, hz, hw1⟩ := HX.out _ hb1;have hzz := hz.some;obtain ⟨⟨z0, z1, z2, z3, z4⟩, hff⟩ := hz
  go_wp2_with fail
  show bodyPost _ _ _ Exit.ret _ (setFrom w1 B 0 [.string ⟨#[]⟩, .int .i64 0, .int .i64 0, .int .i64 0, .int .i64 0]);have hf := mv_from zMv hzz;have hbb := below_from (m := w.heap.size) (b := B) (W := w) [.string ⟨#[]⟩, .int .i64 0, .int .i64 0, .int .i64 0, .int .i64 0] w1 0 hw1 HBL.out
  try dsimp only [zMv] at hf hbb
  generalize setFrom w1 B 0 [.string ⟨#[]⟩, .int .i64 0, .int .i64 0, .int .i64 0, .int .i64 0] = WF at *;obtain ⟨f0, f1, f2, f3, f4⟩ := hf
  try dsimp only [zMv] at f0 f1 f2 f3 f4
  refine bodyPost_ret (v := .tuple #[.agg #[.string ⟨#[]⟩, .int .i64 0, .int .i64 0, .int .i64 0, .int .i64 0], .bool false]) (by simp [results, Tryz.results79, go_sem, f0, f1, f2, f3, f4]) rfl ⟨rfl, hbb⟩
 ·have HM := lh (mv_yes (show mvI q.moves s = (k : Int) from hr))
  rw [hr] at HIX;rw [HM.out.1, HM.out.2];have i0 : 0 ≤ (k : Int) := by omega
  have i1 : (k : Int) < (q.moves.length : Int) := by omega
  clear hr
  go_enter Tryz.func79, Tryz.ntmps79
  go_upto_region 1 with (fail)
  try simp only [hW0]
  clear hW0
  try simp only [hB]
  clear hB;obtain ⟨⟨q0, q1, q2, q3, q4, q5, q6⟩, -⟩ := HX.out _ br
  go_upto_region 4 with (go_at_call 117; (with_reducible refine HIX.out.mono ?_); rintro e w1 ⟨rfl, hb1⟩)
  clear q0 q1 q2 q3 q4 q5 q6;obtain ⟨⟨q0, q1, q2, q3, q4, q5, q6⟩, hmv, hz, hw1⟩ := HX.out _ hb1;have hzz := hz.some;obtain ⟨⟨z0, z1, z2, z3, z4⟩, hff⟩ := hz;obtain ⟨bm, off, hma, hbm, hcm⟩ := hmv (by omega);obtain ⟨c0, c1, c2, c3, c4⟩ := hcm k hk;rw [hma] at q4;clear hcm hmv
  go_wp2_with fail
  show bodyPost _ _ _ Exit.ret _ (setFrom w1 B 0 [.string (mg q.moves k).name, .int .i64 (mg q.moves k).to, .int .i64 (mg q.moves k).spd, .int .i64 (mg q.moves k).rise, .int .i64 (mg q.moves k).fall]);have hf := mv_from (mg q.moves k) hzz;have hbb := below_from (m := w.heap.size) (b := B) (W := w) [.string (mg q.moves k).name, .int .i64 (mg q.moves k).to, .int .i64 (mg q.moves k).spd, .int .i64 (mg q.moves k).rise, .int .i64 (mg q.moves k).fall] w1 0 hw1 HBL.out
  try dsimp only [zMv] at hf hbb
  generalize setFrom w1 B 0 [.string (mg q.moves k).name, .int .i64 (mg q.moves k).to, .int .i64 (mg q.moves k).spd, .int .i64 (mg q.moves k).rise, .int .i64 (mg q.moves k).fall] = WF at *;obtain ⟨f0, f1, f2, f3, f4⟩ := hf
  try dsimp only [zMv] at f0 f1 f2 f3 f4
  refine bodyPost_ret (v := .tuple #[.agg #[.string (mg q.moves k).name, .int .i64 (mg q.moves k).to, .int .i64 (mg q.moves k).spd, .int .i64 (mg q.moves k).rise, .int .i64 (mg q.moves k).fall], .bool true]) (by simp [results, Tryz.results79, go_sem, f0, f1, f2, f3, f4]) rfl ⟨rfl, hbb⟩
theorem boxPS {w : World} {s : SheetR} (ta : Option Addr) (tn tc : Nat) {sa na : Option Addr} {S N : List Int} (sc nc : Nat) (hs : SheetIn w s) (hS : Nums w.heap.size w sa S) (hN : Nums w.heap.size w na N) :
  ∃ W0, ((w.alloc (.cells #[.slice ta tn tc, .slice sa S.length sc, .slice na N.length nc] 109)).alloc (LSh s)) = W0 ∧ Hid (∀ w', Below W0.heap.size W0 w' → PC w' w.heap.size (.slice ta tn tc) (.slice sa S.length sc) (.slice na N.length nc) ∧ SheetAt w' (w.heap.size + 1) s ∧ SheetIn w' s ∧ Nums w'.heap.size w' sa S ∧ Nums w'.heap.size w' na N ∧ Below w.heap.size w w') := by
 have hb : Below w.heap.size w ((w.alloc (.cells #[.slice ta tn tc, .slice sa S.length sc, .slice na N.length nc] 109)).alloc (LSh s)) := (below_new w _).alloc (by simp) _;have hS' : SheetAt ((w.alloc (.cells #[.slice ta tn tc, .slice sa S.length sc, .slice na N.length nc] 109)).alloc (LSh s)) (w.heap.size + 1) s := by unfold SheetAt; simp
 exact ⟨_, rfl, lh fun w' z => ⟨((PC.put w (.slice ta tn tc) (.slice sa S.length sc) (.slice na N.length nc) 109).carry (below_new _ _)).carry z, hS'.carry z, (hs.grow hb).grow z, (hS.grow hb).grow z, (hN.grow hb).grow z, hb.trans (z.mono hb.size)⟩⟩
theorem tordered_any (s : SheetR) (ta : Option Addr) (tn tc : Nat) (sa na : Option Addr) (S N : List Int) (sc nc : Nat) (w : World) (hs : SheetIn w s) (hS : Nums w.heap.size w sa S) (hN : Nums w.heap.size w na N) (hSl : S.length = s.cues.length) (hNl : N.length = s.cues.length)
  (hb1 : ∀ i, i < s.cues.length → 0 ≤ ig S i ∧ ig S i ≤ 4611686018427387903) (hb2 : ∀ i, i < s.cues.length → 0 ≤ ig N i ∧ ig N i ≤ 4611686018427387903) :
  Calls Tryz.prog 47 #[.agg #[.slice ta tn tc, .slice sa S.length sc, .slice na N.length nc], .agg #[.slice s.ca s.cues.length s.cc, .slice s.pa s.pairs.length s.pc]] w fun e w' => e = .returned (.bool (ordrB s.cues S N)) ∧ Below w.heap.size w w' := by
 have hcl := hs.clen;have hcc : s.cues.length ≤ s.cc := hs.ccap;have HML := lh hs.mlen;have HCP := lh hs.mcap;have HB1 := lh hb1;have HB2 := lh hb2;have HSL := lh hSl;have HNL := lh hNl;obtain ⟨W0, hW0, HX⟩ := boxPS (s := s) ta tn tc sc nc hs hS hN;have HMI : Hid (∀ i, i < s.cues.length → ∀ w', Below W0.heap.size W0 w' → Movs w'.heap.size w' (cg s.cues i).ma (cg s.cues i).moves) := lh fun i hi w' z => (HX.out w' z).2.2.1.each i hi;have HNO : Hid (¬ OrdrOK s.cues S N → ordrB s.cues S N = false) := lh fun n => ordr_no n;have HYE : Hid (OrdrOK s.cues S N → ordrB s.cues S N = true) := lh fun n => ordrB_iff.2 n;obtain ⟨ca, hca⟩ := nm (s.ca);have HCA := lh hca;clear hs hS hN hSl hNl hb1 hb2 hca
 go_enter Tryz.func47, Tryz.ntmps47
 go_upto_region 1 with (fail)
 try simp only [hW0]
 clear hW0;obtain ⟨⟨p0, p1, p2, p3, p4, p5, p6⟩, ⟨s0, s1⟩, -, -, -, -⟩ := HX.out _ br;rw [HCA.out] at s0
 go_upto_region 2 with (fail)
 clear p0 p1 p2 p3 p4 p5 p6 s0 s1
 go_loopw [16] (fun iv wr => ∃ i : Nat, iv = .int .i64 i ∧ i ≤ s.cues.length ∧ Below W0.heap.size W0 wr ∧ Hid (∀ i', i' < i → ∀ k, k < i' → ∀ j, j < (cg s.cues i').moves.length → ordrAt s.cues S N i' k j)) (fun iv _ => s.cues.length - (intOf iv).toNat)
 case atStart => exact ⟨0, rfl, Nat.zero_le _, br, lh fun _ z => absurd z (Nat.not_lt_zero _)⟩
 case round =>
  obtain ⟨i, rfl, hi, hB, HA⟩ := hrel;obtain ⟨wi, rfl⟩ : ∃ wo : World, wo = wr := ⟨_, rfl⟩
  by_cases hlt : i < s.cues.length
  case neg =>
   obtain rfl : i = s.cues.length := by omega
   go_wp2_with fail
   go_ret;exact ⟨ret_bool (HYE.out HA.out).symm, (HX.out _ hB).2.2.2.2.2⟩
  obtain ⟨xb, xo, hxa, hxb, hxc⟩ := (HX.out _ hB).2.2.1.lies (by omega);rw [HCA.out] at hxa;subst hxa;obtain ⟨c0, c1, c2, c3, c4, c5, c6⟩ := hxc i hlt;obtain ⟨q, hq⟩ := nm (cg s.cues i);rw [hq] at c0 c1 c2 c3 c4 c5 c6;have HQ := lh hq;have i0 : 0 ≤ (i : Int) := by omega
  have i1 : (i : Int) < (s.cues.length : Int) := by omega
  have i2 : (i : Int) ≤ (s.cc : Int) := by omega
  have iw : IntKind.i64.wrap ((i : Int) + 1) = (i : Int) + 1 := IntWalk.i64_in _ (by omega);have HXC : Hid (∀ k, k < s.cues.length → wi.cell? ⟨xb, xo + k * 7, none⟩ = some (.string (cg s.cues k).name) ∧ wi.cell? ⟨xb, xo + k * 7 + 1, none⟩ = some (.string (cg s.cues k).after) ∧ wi.cell? ⟨xb, xo + k * 7 + 2, none⟩ = some (.int .i64 (cg s.cues k).link) ∧ wi.cell? ⟨xb, xo + k * 7 + 3, none⟩ = some (.int .i64 (cg s.cues k).delay) ∧ wi.cell? ⟨xb, xo + k * 7 + 4, none⟩ = some (.slice (cg s.cues k).ma (cg s.cues k).moves.length (cg s.cues k).mc) ∧ wi.cell? ⟨xb, xo + k * 7 + 5, none⟩ = some (.int .i64 (cg s.cues k).crew) ∧ wi.cell? ⟨xb, xo + k * 7 + 6, none⟩ = some (.int .i64 (cg s.cues k).power)) := lh hxc;have HXB := lh hxb;obtain ⟨-, ⟨s0, s1⟩, -⟩ := HX.out _ hB;rw [HCA.out] at s0;have zs : w.heap.size + 1 < wi.heap.size := wl s0;have hbn := below_new wi (LCu q);have hqn := CueAt.new wi q 86 _ rfl;clear hq hxc
  go_upto_region 5 with (fail)
  clear c0 c1 c2 c3 c4 c5 c6 s0 s1 zs;obtain ⟨Bq, hBq⟩ := nm (wi.heap.size);obtain ⟨Wq, hWq⟩ := nm (wi.alloc (LCu q));rw [hWq] at hbn hqn;simp only [hWq];rw [hBq] at hqn;simp only [hBq];have HBQ : Hid (Below W0.heap.size W0 Wq) := lh (hB.trans (by rw [← hBq] at *; exact hbn.mono hB.size));have HBW : Hid (Below wi.heap.size wi Wq) := lh hbn;have HQA : Hid (∀ w', Below Wq.heap.size Wq w' → CueAt w' Bq q) := lh fun w' z => hqn.carry z;clear hWq hBq hbn hqn hB
  go_loopw [26] (fun kv wk => ∃ k : Nat, kv = .int .i64 k ∧ k ≤ i ∧ Below Wq.heap.size Wq wk ∧ Hid (∀ k', k' < k → ∀ j, j < q.moves.length → ordrAt s.cues S N i k' j)) (fun kv _ => i - (intOf kv).toNat)
  case atStart => exact ⟨0, rfl, Nat.zero_le _, br, lh fun _ z => absurd z (Nat.not_lt_zero _)⟩
  case round =>
   obtain ⟨k, rfl, hk, hB2, HA2⟩ := hrel;obtain ⟨wk, rfl⟩ : ∃ wo : World, wo = wr := ⟨_, rfl⟩
   by_cases hlk : k < i
   case neg =>
    obtain rfl : k = i := by omega
    go_wp2_with fail
    go_roundw
    case rel => exact ⟨k + 1, by go_num, by omega, HBQ.out.trans (hB2.mono HBQ.out.size), lh fun i' hi' k' hk' j hj => by
     rcases Nat.lt_or_ge i' k with l | l
     ·exact HA.out i' l k' hk' j hj
     ·obtain rfl : i' = k := by omega
      rw [HQ.out] at hj;exact HA2.out k' hk' j hj⟩
    case measure => simp [intOf]; omega
   have hbk : Below wi.heap.size wi wk := HBW.out.trans (hB2.mono HBW.out.size);obtain ⟨c0, c1, c2, c3, c4, c5, c6⟩ := HXC.out k (by omega);obtain ⟨r, hr⟩ := nm (cg s.cues k);rw [hr] at c0 c1 c2 c3 c4 c5 c6;replace c0 := (hbk.cell (p := ⟨xb, _, none⟩) HXB.out).trans c0;replace c1 := (hbk.cell (p := ⟨xb, _, none⟩) HXB.out).trans c1;replace c2 := (hbk.cell (p := ⟨xb, _, none⟩) HXB.out).trans c2;replace c3 := (hbk.cell (p := ⟨xb, _, none⟩) HXB.out).trans c3;replace c4 := (hbk.cell (p := ⟨xb, _, none⟩) HXB.out).trans c4;replace c5 := (hbk.cell (p := ⟨xb, _, none⟩) HXB.out).trans c5;replace c6 := (hbk.cell (p := ⟨xb, _, none⟩) HXB.out).trans c6;have HR := lh hr;have k0 : 0 ≤ (k : Int) := by omega
   have k1 : (k : Int) < (i : Int) := by omega
   have kw : IntKind.i64.wrap ((k : Int) + 1) = (k : Int) + 1 := IntWalk.i64_in _ (by omega);obtain ⟨q0, q1, q2, q3, q4, q5, q6⟩ := HQA.out _ hB2;have zq : Bq < wk.heap.size := wl q0;have hbn := below_new wk (.cells #[.string r.name, .string r.after, .int .i64 r.link, .int .i64 r.delay, .slice r.ma r.moves.length r.mc, .int .i64 r.crew, .int .i64 r.power] 86);have hrn := CueAt.new wk r 86 _ rfl;clear hr hbk
   go_upto_region 8 with (fail)
   clear c0 c1 c2 c3 c4 c5 c6 q0 q1 q2 q3 q4 q5 q6 zq;obtain ⟨Br, hBr⟩ := nm (wk.heap.size);obtain ⟨Wr, hWr⟩ := nm (wk.alloc (.cells #[.string r.name, .string r.after, .int .i64 r.link, .int .i64 r.delay, .slice r.ma r.moves.length r.mc, .int .i64 r.crew, .int .i64 r.power] 86));rw [hWr] at hbn hrn;simp only [hWr];rw [hBr] at hrn;simp only [hBr];have HBR : Hid (Below Wq.heap.size Wq Wr) := lh (hB2.trans (by rw [← hBr] at *; exact hbn.mono hB2.size));have HRA : Hid (∀ w', Below Wr.heap.size Wr w' → CueAt w' Br r) := lh fun w' z => hrn.carry z;have HB0 : Hid (∀ w', Below Wr.heap.size Wr w' → Below W0.heap.size W0 w') := lh fun w' z => HBQ.out.trans ((HBR.out.trans (z.mono HBR.out.size)).mono HBQ.out.size);have hql : q.moves.length ≤ 1000 := by rw [← HQ.out]; exact HML.out i hlt
   have hqm : q.moves.length ≤ q.mc := by rw [← HQ.out]; exact HCP.out i hlt
   have hkc : k < s.cues.length := by omega
   have hrl : r.moves.length ≤ 1000 := by rw [← HR.out]; exact HML.out k hkc
   have hrm : r.moves.length ≤ r.mc := by rw [← HR.out]; exact HCP.out k hkc
   have HRM : Hid (∀ w', Below W0.heap.size W0 w' → Movs w'.heap.size w' r.ma r.moves) := lh fun w' z => by rw [← HR.out]; exact HMI.out k hkc w' z
   have HQM : Hid (∀ w', Below W0.heap.size W0 w' → Movs w'.heap.size w' q.ma q.moves) := lh fun w' z => by rw [← HQ.out]; exact HMI.out i hlt w' z
   clear hWr hBr hbn hrn hB2
   go_loopw [34] (fun jv wj => ∃ j : Nat, jv = .int .i64 j ∧ j ≤ q.moves.length ∧ Below Wr.heap.size Wr wj ∧ Hid (∀ j', j' < j → ordrAt s.cues S N i k j')) (fun jv _ => q.moves.length - (intOf jv).toNat)
   case atStart => exact ⟨0, rfl, Nat.zero_le _, br, lh fun _ z => absurd z (Nat.not_lt_zero _)⟩
   case round =>
    obtain ⟨j, rfl, hj, hB3, HA3⟩ := hrel;obtain ⟨wj, rfl⟩ : ∃ wo : World, wo = wr := ⟨_, rfl⟩
    by_cases hlj : j < q.moves.length
    case neg =>
     obtain rfl : j = q.moves.length := by omega
     go_wp2_with fail
     go_roundw
     case rel => exact ⟨k + 1, by go_num, by omega, HBR.out.trans (hB3.mono HBR.out.size), lh fun k' hk' j hj => by
      rcases Nat.lt_or_ge k' k with l | l
      ·exact HA2.out k' l j hj
      ·obtain rfl : k' = k := by omega
       exact HA3.out j hj⟩
     case measure => simp [intOf]; omega
    have hw0 := HB0.out _ hB3;obtain ⟨mb, mo, hma, hmb, hmc⟩ := (HQM.out _ hw0) (by omega);obtain ⟨d0, d1, d2, d3, d4⟩ := hmc j hlj;obtain ⟨y, hy⟩ := nm (mg q.moves j);rw [hy] at d0 d1 d2 d3 d4;have HY := lh hy;have j0 : 0 ≤ (j : Int) := by omega
    have j1 : (j : Int) < (q.moves.length : Int) := by omega
    have jw : IntKind.i64.wrap ((j : Int) + 1) = (j : Int) + 1 := IntWalk.i64_in _ (by omega);obtain ⟨r0, r1, r2, r3, r4, r5, r6⟩ := HRA.out _ hB3;have zr : Br < wj.heap.size := wl r0;have hbn := below_new wj (.cells #[.string y.name, .int .i64 y.to, .int .i64 y.spd, .int .i64 y.rise, .int .i64 y.fall] 94);have HTM := lh (tmoves_any r y.name _ ((HRM.out _ hw0).grow hbn) hrl hrm);have HMA := lh hma;obtain ⟨B, hBm⟩ := nm (mvB r.moves y.name);rw [hBm] at HTM;have HBM := lh hBm;have HW3 : Hid (Below Wr.heap.size Wr (wj.alloc (.cells #[.string y.name, .int .i64 y.to, .int .i64 y.spd, .int .i64 y.rise, .int .i64 y.fall] 94))) := lh (hB3.alloc hB3.size _);clear hmc hy hma hBm;rw [HMA.out] at *
    go_upto_region 11 with (go_at_call 79; (with_reducible refine HTM.out.mono ?_); rintro e w9 ⟨rfl, hb9⟩)
    have hb10 : Below Wr.heap.size Wr (w9.alloc (.cells #[.string (mvO r.moves y.name).name, .int .i64 (mvO r.moves y.name).to, .int .i64 (mvO r.moves y.name).spd, .int .i64 (mvO r.moves y.name).rise, .int .i64 (mvO r.moves y.name).fall] 94)) := (HW3.out.trans (hb9.mono HW3.out.size)).alloc (HW3.out.trans (hb9.mono HW3.out.size)).size _;obtain ⟨W10, hW10⟩ := nm (w9.alloc (.cells #[.string (mvO r.moves y.name).name, .int .i64 (mvO r.moves y.name).to, .int .i64 (mvO r.moves y.name).spd, .int .i64 (mvO r.moves y.name).rise, .int .i64 (mvO r.moves y.name).fall] 94));rw [hW10] at hb10;simp only [hW10];clear hW10 hb9 d0 d1 d2 d3 d4 r0 r1 r2 r3 r4 r5 r6 zr HTM HW3
    have HAJ : Hid (ordrAt s.cues S N i k j → ∀ j', j' < j + 1 → ordrAt s.cues S N i k j') := lh fun z j' hj' => by
     rcases Nat.lt_or_ge j' j with l | l
     ·exact HA3.out j' l
     ·obtain rfl : j' = j := by omega
      exact z
    have HAT : Hid (ordrAt s.cues S N i k j ↔ (B = true → ig S k + ig N k ≤ ig S i)) := lh (by unfold ordrAt; rw [HQ.out, HR.out, HY.out, HBM.out])
    cases B
    ·refine wp_region_held_drew (S := fun w' => Below Wr.heap.size Wr w') (by kernel_rfl) hb10.drew (fun hHeld => ?_)
     refine tk 0 ?_; refine tk 1 ?_;refine sk 2 ?_; refine sk 3 ?_; refine sk 4 ?_; refine sk 5 ?_; refine sk 6 ?_; refine sk 7 ?_; refine sk 8 ?_; refine sk 9 ?_; refine sk 10 ?_; refine sk 11 ?_; refine sk 12 ?_; refine sk 13 ?_; refine sk 14 ?_; refine sk 15 ?_; refine sk 16 ?_; refine sk 17 ?_; refine sk 18 ?_;refine tk 19 ?_; refine dn ?_
     go_wp2_with fail
     go_roundw
     case rel => exact ⟨j + 1, by go_num, by omega, hHeld, lh (HAJ.out (HAT.out.2 (fun z => by cases z)))⟩
     case measure => simp [intOf]; omega
    ·obtain ⟨sb, so, hsb, hsl, hsc⟩ := (HX.out _ br).2.2.2.1 (by rw [HSL.out]; omega)
     obtain ⟨nb, no, hnb, hnl, hnc⟩ := (HX.out _ br).2.2.2.2.1 (by rw [HNL.out]; omega);have f1 : ∀ w', Below Wr.heap.size Wr w' → w'.cell? ⟨w.heap.size, 1, none⟩ = some (.slice (some ⟨sb, so, none⟩) S.length sc) := fun w' z => by have := (HX.out _ (HB0.out _ z)).1.2.1; rwa [hsb] at this
     have f2 : ∀ w', Below Wr.heap.size Wr w' → w'.cell? ⟨w.heap.size, 2, none⟩ = some (.slice (some ⟨nb, no, none⟩) N.length nc) := fun w' z => by have := (HX.out _ (HB0.out _ z)).1.2.2.1; rwa [hnb] at this
     have e1 : ∀ w', Below Wr.heap.size Wr w' → w'.cell? ⟨sb, so + i, none⟩ = some (.int .i64 (ig S i)) := fun w' z => ((HB0.out _ z).cell (p := ⟨sb, so + i, none⟩) hsl).trans (hsc i (by rw [HSL.out]; omega));have e2 : ∀ w', Below Wr.heap.size Wr w' → w'.cell? ⟨sb, so + k, none⟩ = some (.int .i64 (ig S k)) := fun w' z => ((HB0.out _ z).cell (p := ⟨sb, so + k, none⟩) hsl).trans (hsc k (by rw [HSL.out]; omega));have e3 : ∀ w', Below Wr.heap.size Wr w' → w'.cell? ⟨nb, no + k, none⟩ = some (.int .i64 (ig N k)) := fun w' z => ((HB0.out _ z).cell (p := ⟨nb, no + k, none⟩) hnl).trans (hnc k (by rw [HNL.out]; omega));obtain ⟨SL, hSL⟩ := nm (S.length);obtain ⟨NL, hNL⟩ := nm (N.length);rw [hSL] at f1;rw [hNL] at f2;have l1 : (i : Int) < (SL : Int) := by have := HSL.out; omega
     have l2 : (k : Int) < (SL : Int) := by have := HSL.out; omega
     have l3 : (k : Int) < (NL : Int) := by have := HNL.out; omega
     have b1 := HB1.out k hkc;have b2 := HB2.out k hkc;have wa : IntKind.i64.wrap (ig S k + ig N k) = ig S k + ig N k := IntWalk.i64_in _ (by omega);clear hsc hnc hsb hnb hSL hNL b1 b2
     by_cases lt : ig S i < ig S k + ig N k
     ·have g := decide_eq_true lt
      have LT := lh lt;clear lt;refine wp_region_held_drew (S := fun w' => Below Wr.heap.size Wr w') (by kernel_rfl) hb10.drew (fun hHeld => ?_);refine tk 0 ?_; refine tk 1 ?_; refine tk 2 ?_; refine tk 3 ?_; refine tk 4 ?_; refine tk 5 ?_; refine tk 6 ?_; refine tk 7 ?_; refine tk 8 ?_; refine tk 9 ?_; refine tk 10 ?_; refine tk 11 ?_; refine tk 12 ?_; refine tk 13 ?_; refine tk 14 ?_; refine tk 15 ?_; refine tk 16 ?_; refine tk 17 ?_; refine tk 18 ?_; refine tk 19 ?_;refine dn ?_
      go_wp2_with fail
      go_ret;exact ⟨ret_bool (HNO.out fun z => by have := HAT.out.1 (z i hlt k hlk j (by rw [HQ.out]; exact hlj)); simp only [true_implies, forall_const] at this; have := LT.out; omega).symm, (HX.out _ (HB0.out _ hHeld)).2.2.2.2.2⟩
     ·have g := decide_eq_false lt
      have LT := lh lt;clear lt;refine wp_region_held_drew (S := fun w' => Below Wr.heap.size Wr w') (by kernel_rfl) hb10.drew (fun hHeld => ?_);refine tk 0 ?_; refine tk 1 ?_; refine tk 2 ?_; refine tk 3 ?_; refine tk 4 ?_; refine tk 5 ?_; refine tk 6 ?_; refine tk 7 ?_; refine tk 8 ?_; refine tk 9 ?_; refine tk 10 ?_; refine tk 11 ?_; refine tk 12 ?_; refine tk 13 ?_; refine tk 14 ?_; refine tk 15 ?_; refine tk 16 ?_; refine tk 17 ?_; refine tk 18 ?_; refine tk 19 ?_;refine dn ?_
      go_wp2_with fail
      go_roundw
      case rel => exact ⟨j + 1, by go_num, by omega, hHeld, lh (HAJ.out (HAT.out.2 (fun _ => by have := LT.out; omega)))⟩
      case measure => simp [intOf]; omega
end
section
open Go.RowKit Go.Shelf
def setL (j : Nat) : List Value → List Value → List Value
 | [], xs => xs
 | v :: vs, xs => setL (j + 1) vs (xs.set j v)
theorem own_setFrom {base n cap size g : Nat} {e : TypeId} : ∀ (vs : List Value) (w : World) (j : Nat) (xs : List Value), w.ownsRow base e size (.slice (some ⟨g, 0, none⟩) n cap) n xs → (setFrom w g j vs).ownsRow base e size (.slice (some ⟨g, 0, none⟩) n cap) n (setL j vs xs)
 | [], _, _, _, h => h
 | v :: vs, _, j, _, h => own_setFrom vs _ (j + 1) _ (h.stored j v).1
theorem setL_cons (x : Value) : ∀ (vs : List Value) (j : Nat) (xs : List Value), setL (j + 1) vs (x :: xs) = x :: setL j vs xs
 | [], _, _ => rfl
 | v :: vs, j, xs => by simp only [setL, List.set_cons_succ]; exact setL_cons x vs (j + 1) _
theorem setL_app (us : List Value) (vs : List Value) (j : Nat) (xs : List Value) : setL (j + us.length) vs (us ++ xs) = us ++ setL j vs xs := by
 induction us with
 | nil => rfl
 | cons u us ih => rw [List.cons_append, List.length_cons, ← Nat.add_assoc, setL_cons, ih, List.cons_append]
theorem pcflat_cons (x : Pc) (L : List Pc) : pcflat (x :: L) = [.int .i64 x.f0, .int .i64 x.f1, .int .i64 x.a0, .int .i64 x.a1, .int .i64 x.b0, .int .i64 x.b1, .int .i64 x.c0, .int .i64 x.c1] ++ pcflat L := by simp [pcflat]
theorem pcflat_set (y : Pc) : ∀ (L : List Pc) (i : Nat), i < L.length → setL (i * 8) [.int .i64 y.f0, .int .i64 y.f1, .int .i64 y.a0, .int .i64 y.a1, .int .i64 y.b0, .int .i64 y.b1, .int .i64 y.c0, .int .i64 y.c1] (pcflat L) = pcflat (L.set i y)
 | x :: L, 0, _ => by
  rw [pcflat_cons, List.set_cons_zero, pcflat_cons]
  rfl
 | x :: L, i + 1, h => by
  rw [pcflat_cons, List.set_cons_succ, pcflat_cons, show (i + 1) * 8 = i * 8 + ([.int .i64 x.f0, .int .i64 x.f1, .int .i64 x.a0, .int .i64 x.a1, .int .i64 x.b0, .int .i64 x.b1, .int .i64 x.c0, .int .i64 x.c1] : List Value).length by simp; omega, setL_app, pcflat_set y L i (by simpa using h)]
theorem own_put {w : World} {base n cap g i : Nat} {L : List Pc} (h : w.ownsRow base 122 8 (.slice (some ⟨g, 0, none⟩) n cap) n (pcflat L)) (y : Pc) (hi : i < L.length) :
  (setFrom w g (i * 8) [.int .i64 y.f0, .int .i64 y.f1, .int .i64 y.a0, .int .i64 y.a1, .int .i64 y.b0, .int .i64 y.b1, .int .i64 y.c0, .int .i64 y.c1]).ownsRow base 122 8 (.slice (some ⟨g, 0, none⟩) n cap) n (pcflat (L.set i y)) := by
 rw [← pcflat_set y L i hi];exact own_setFrom _ _ _ _ h
theorem own_free {w : World} {base n cap g size : Nat} {e : TypeId} {xs : List Value} (h : w.ownsRow base e size (.slice (some ⟨g, 0, none⟩) n cap) n xs) : ∀ i, w.frozen? ⟨g, i, none⟩ = false := by
 rcases h.2 with ⟨e, _⟩ | ⟨g', cap', cur, e, hb, hg, _⟩
 ·cases e
 ·cases e
  intro i
  simp [World.frozen?, hg]
theorem pcb_append {ops : Array Oper} {rest : List Oper} {o : Oper} {a : Act} {w : World} {Q : Exit → Act → World → Prop} (hgd : o.guard = none) (s x : Operand)
  (ho : o.op = .call { callee := .builtin .append, args := #[s, x], argTypes := #[34, 34] })
  (base : Nat) (v : Value) (L : List Pc) (hs : a.eval s = v) (hown : w.ownsRow base 122 8 v L.length (pcflat L))
  (bl : Nat) (y : Pc) (hx : a.eval x = .slice (some ⟨bl, 0, none⟩) 1 1) (hc : PB w bl y) (hl : L.length ≤ 1000000) (hbase : base ≤ w.heap.size)
  (h : ∀ v' w', w'.ownsRow base 122 8 v' (L ++ [y]).length (pcflat (L ++ [y])) → w.grownBy w' v.ownBlock → (v'.ownBlock = v.ownBlock ∨ v'.ownBlock = some w.heap.size) → wpList Tryz.prog ops Q rest (a.put o.dst v') w') : wpList Tryz.prog ops Q (o :: rest) a w := by
 obtain ⟨i0, hi, hz0, hz1, hz2⟩ := info_parts piece_info;refine wpList_append_own_at _ hgd s x 34 ho base 122 i0 _ 8 64 Tryz.underlying34 hi hz0 hz1 hz2 rfl (by decide) v L.length (pcflat L) hs hown ⟨bl, 0, none⟩ 1 1 [.int .i64 y.f0, .int .i64 y.f1, .int .i64 y.a0, .int .i64 y.a1, .int .i64 y.b0, .int .i64 y.b1, .int .i64 y.c0, .int .i64 y.c1] hx rfl ?_ (by simp [Value.oneCell']) (by unfold maxLen; omega) (by omega) hbase ?_
 ·obtain ⟨c0, c1, c2, c3, c4, c5, c6, c7, -⟩ := hc
  intro j u hj;rw [Go.WideShapes.add_plain, Nat.zero_add]
  match j, hj with
  | 0, hj => simp at hj; subst hj; exact c0
  | 1, hj => simp at hj; subst hj; exact c1
  | 2, hj => simp at hj; subst hj; exact c2
  | 3, hj => simp at hj; subst hj; exact c3
  | 4, hj => simp at hj; subst hj; exact c4
  | 5, hj => simp at hj; subst hj; exact c5
  | 6, hj => simp at hj; subst hj; exact c6
  | 7, hj => simp at hj; subst hj; exact c7
 ·intro v' w' h1 h2 _ h4
  refine h v' w' ?_ h2 h4;rw [pcflat_snoc, List.length_append];exact h1
end
section
def fr (a : Int × Int) : Rat := (a.1 : Rat) / (a.2 : Rat)
theorem cast_pos {d : Int} (h : 0 < d) : (0 : Rat) < (d : Rat) := Rat.intCast_pos.2 h
theorem cast_ne {d : Int} (h : 0 < d) : (d : Rat) ≠ 0 := fun e => by have := cast_pos h; rw [e] at this; exact Rat.lt_irrefl this
theorem frq_mul (a : Int × Int) (h : 0 < a.2) : fr a * (a.2 : Rat) = (a.1 : Rat) := Rat.div_mul_cancel (cast_ne h)
theorem frq_one (n : Int) : fr (n, 1) = (n : Rat) := by
 show (n : Rat) / (1 : Rat) = (n : Rat)
 grind
theorem frq_zero : fr (0, 1) = 0 := frq_one 0
theorem frq_le {a b : Int × Int} (ha : 0 < a.2) (hb : 0 < b.2) : fr a ≤ fr b ↔ a.1 * b.2 ≤ b.1 * a.2 := by
 have h := frq_mul a ha;have k := frq_mul b hb;have pa := cast_pos ha;have pb := cast_pos hb;rw [← Rat.intCast_le_intCast, Rat.intCast_mul, Rat.intCast_mul, ← h, ← k];have pp := Rat.mul_pos pa pb;rw [show fr a * (a.2 : Rat) * (b.2 : Rat) = fr a * ((a.2 : Rat) * (b.2 : Rat)) by grind, show fr b * (b.2 : Rat) * (a.2 : Rat) = fr b * ((a.2 : Rat) * (b.2 : Rat)) by grind];exact ⟨fun x => Rat.mul_le_mul_of_nonneg_right x (Rat.le_of_lt pp), fun x => Rat.le_of_mul_le_mul_right x pp⟩
theorem frq_lt {a b : Int × Int} (ha : 0 < a.2) (hb : 0 < b.2) : fr a < fr b ↔ a.1 * b.2 < b.1 * a.2 := by
 rw [← Rat.not_le, frq_le hb ha]; omega
theorem frq_eq {a b : Int × Int} (ha : 0 < a.2) (hb : 0 < b.2) : fr a = fr b ↔ a.1 * b.2 = b.1 * a.2 := by
 constructor
 ·intro h
  have x := (frq_le ha hb).1 (by rw [h]; exact Rat.le_refl);have y := (frq_le hb ha).1 (by rw [h]; exact Rat.le_refl);omega
 ·intro h
  exact Rat.le_antisymm ((frq_le ha hb).2 (by omega)) ((frq_le hb ha).2 (by omega))
theorem frq_low (n d : Int) (hd : 0 < d) : fr (lowN n d, lowD n d) = (n : Rat) / (d : Rat) :=
 (frq_eq (a := (lowN n d, lowD n d)) (b := (n, d)) (lowD_pos hd) hd).2 (low_cross n d)
theorem div_add (a b c d : Rat) (hb : b ≠ 0) (hd : d ≠ 0) : a / b + c / d = (a * d + c * b) / (b * d) := by grind
theorem frq_add {a b : Int × Int} (ha : 0 < a.2) (hb : 0 < b.2) : fr (lowN (a.1 * b.2 + b.1 * a.2) (a.2 * b.2), lowD (a.1 * b.2 + b.1 * a.2) (a.2 * b.2)) = fr a + fr b := by
 rw [frq_low _ _ (Int.mul_pos ha hb)];unfold fr;rw [div_add _ _ _ _ (cast_ne ha) (cast_ne hb)]
 simp
theorem frq_neg (a : Int × Int) : fr (-a.1, a.2) = -fr a := by unfold fr; simp [Rat.div_def, Rat.neg_mul]
theorem frq_times {a b : Int × Int} (ha : 0 < a.2) (hb : 0 < b.2) : fr (lowN (a.1 * b.1) (a.2 * b.2), lowD (a.1 * b.1) (a.2 * b.2)) = fr a * fr b := by
 rw [frq_low _ _ (Int.mul_pos ha hb)];unfold fr;have := cast_ne ha;have := cast_ne hb
 simp
 grind
theorem kp_ok {e p q : Int} (h : (kp e (fitP p q)).2 = 0) : e = 0 ∧ (kp e (fitP p q)).1 = (p, q) := by
 unfold kp at *
 by_cases z : (fitP p q).2.2 = 0
 ·rw [if_pos z] at h ⊢
  refine ⟨h, ?_⟩;unfold fitP at *
  split at z
  ·cases z
  next hn => rw [if_neg hn]
 ·rw [if_neg z] at h
  simp only at h
  split at h
  ·exact absurd h z
  next hn => exact absurd h hn
theorem kAdd_ok {e : Int} {a b : Int × Int} (ha : 0 < a.2) (hb : 0 < b.2) (h : (kAdd e a b).2 = 0) : e = 0 ∧ fr (kAdd e a b).1 = fr a + fr b := by
 obtain ⟨h1, h2⟩ := kp_ok (h : (kp e (fitP _ _)).2 = 0);exact ⟨h1, by rw [← frq_add ha hb]; exact congrArg fr h2⟩
theorem kSub_ok {e : Int} {a b : Int × Int} (ha : 0 < a.2) (hb : 0 < b.2) (h : (kSub e a b).2 = 0) : e = 0 ∧ fr (kSub e a b).1 = fr a - fr b := by
 obtain ⟨h1, h2⟩ := kAdd_ok (e := e) (a := a) (b := (-b.1, b.2)) ha hb h;exact ⟨h1, by rw [frq_neg] at h2; rw [Rat.sub_eq_add_neg, ← h2]; rfl⟩
theorem kMul_ok {e : Int} {a b : Int × Int} (ha : 0 < a.2) (hb : 0 < b.2) (h : (kMul e a b).2 = 0) : e = 0 ∧ fr (kMul e a b).1 = fr a * fr b := by
 obtain ⟨h1, h2⟩ := kp_ok (h : (kp e (fitP _ _)).2 = 0);exact ⟨h1, by rw [← frq_times ha hb]; exact congrArg fr h2⟩
theorem kVal_ok {e : Int} {A B C u : Int × Int} (vA : vF A = true) (vB : vF B = true) (vC : vF C = true) (vu : vF u = true) (h : (kVal e A B C u).2 = 0) : e = 0 ∧ fr (kVal e A B C u).1 = fr A + (fr B + fr C * fr u) * fr u := by
 unfold kVal at h ⊢;have v1 : vF (kMul e C u).1 = true := kMul_valid vC vu;have v2 : vF (kAdd (kMul e C u).2 B (kMul e C u).1).1 = true := kAdd_valid vB v1;obtain ⟨h3, e4⟩ := kAdd_ok (den_pos vA) (den_pos (kMul_valid v2 vu)) h;obtain ⟨h2, e3⟩ := kMul_ok (den_pos v2) (den_pos vu) h3;obtain ⟨h1, e2⟩ := kAdd_ok (den_pos vB) (den_pos v1) h2;obtain ⟨h0, e1⟩ := kMul_ok (den_pos vC) (den_pos vu) h1;exact ⟨h0, by rw [e4, e3, e2, e1]⟩
theorem kSlope_ok {e : Int} {B C u : Int × Int} (vB : vF B = true) (vC : vF C = true) (vu : vF u = true) (h : (kSlope e B C u).2 = 0) : e = 0 ∧ fr (kSlope e B C u).1 = fr B + 2 * (fr C * fr u) := by
 unfold kSlope at h ⊢;have v1 : vF (kMul e C u).1 = true := kMul_valid vC vu;obtain ⟨h2, e3⟩ := kAdd_ok (den_pos vB) (den_pos (kMul_valid vF_two v1)) h;obtain ⟨h1, e2⟩ := kMul_ok (den_pos vF_two) (den_pos v1) h2;obtain ⟨h0, e1⟩ := kMul_ok (den_pos vC) (den_pos vu) h1
 exact ⟨h0, by
  rw [e3, e2, e1];have : fr (2, 1) = 2 := frq_one 2;rw [this]⟩

structure QP where
 f : Rat
 a : Rat
 b : Rat
 c : Rat
def qv (p : QP) (t : Rat) : Rat := p.a + (p.b + p.c * (t - p.f)) * (t - p.f)
def qs (p : QP) (t : Rat) : Rat := p.b + 2 * (p.c * (t - p.f))
theorem qv_diff (p : QP) (x y : Rat) : qv p y - qv p x = (y - x) * (p.b + p.c * ((x - p.f) + (y - p.f))) := by
 unfold qv; grind
theorem rat_total (a b : Rat) : a ≤ b ∨ b ≤ a := Rat.le_total
theorem slope_mid {b c l u v : Rat} (hb : 0 ≤ b) (hl : 0 ≤ b + 2 * (c * l)) (u0 : 0 ≤ u) (v0 : u ≤ v) (vl : v ≤ l) : 0 ≤ b + c * (u + v) := by
 rcases rat_total 0 c with h | h
 ·have := Rat.mul_nonneg h (show 0 ≤ u + v by grind)
  grind
 ·have := Rat.mul_nonneg (show 0 ≤ -c by grind) (show 0 ≤ 2 * l - (u + v) by grind)
  grind
theorem qv_mono {p : QP} {x y z : Rat} (hb : 0 ≤ p.b) (hs : 0 ≤ qs p z) (hx : p.f ≤ x) (xy : x ≤ y) (yz : y ≤ z) : qv p x ≤ qv p y := by
 have h := slope_mid (b := p.b) (c := p.c) (l := z - p.f) (u := x - p.f) (v := y - p.f) hb hs (by grind) (by grind) (by grind);have := Rat.mul_nonneg (show 0 ≤ y - x by grind) h;have := qv_diff p x y
 grind
theorem qs_between {p : QP} {y z m n : Rat} (h1 : m ≤ p.b) (h2 : p.b ≤ n) (h3 : m ≤ qs p z) (h4 : qs p z ≤ n) (hy : p.f ≤ y) (yz : y ≤ z) : m ≤ qs p y ∧ qs p y ≤ n := by
 unfold qs at *;have h := slope_mid (b := p.b - m) (c := p.c) (l := z - p.f) (u := y - p.f) (v := y - p.f) (by grind) (by grind) (by grind) (by grind) (by grind);have k := slope_mid (b := n - p.b) (c := -p.c) (l := z - p.f) (u := y - p.f) (v := y - p.f) (by grind) (by grind) (by grind) (by grind) (by grind)
 grind
def atL : List QP → Rat → Rat
 | [], _ => 0
 | [p], t => if p.f ≤ t then qv p t else p.a
 | p :: q :: r, t => if q.f ≤ t then atL (q :: r) t else if p.f ≤ t then qv p t else p.a
def slL : List QP → Rat → Rat
 | [], _ => 0
 | [p], t => if p.f ≤ t then qs p t else 0
 | p :: q :: r, t => if q.f ≤ t then slL (q :: r) t else if p.f ≤ t then qs p t else 0
def lastA : List QP → Rat
 | [] => 0
 | [p] => p.a
 | _ :: q :: r => lastA (q :: r)
def headF : List QP → Rat
 | [] => 0
 | p :: _ => p.f
def headA : List QP → Rat
 | [] => 0
 | p :: _ => p.a
def lastF : List QP → Rat
 | [] => 0
 | [p] => p.f
 | _ :: q :: r => lastF (q :: r)
inductive Up (m : Rat) : List QP → Prop
 | rest (p : QP) : p.b = 0 → p.c = 0 → 0 ≤ m → Up m [p]
 | go (p q : QP) (r : List QP) : p.f < q.f → 0 ≤ p.b → p.b ≤ m → 0 ≤ qs p q.f → qs p q.f ≤ m → qv p q.f = q.a → qs p q.f = q.b → Up m (q :: r) → Up m (p :: q :: r)
theorem qv_self (p : QP) : qv p p.f = p.a := by unfold qv; grind
theorem Up.range {m : Rat} {L : List QP} (h : Up m L) (t : Rat) : headA L ≤ atL L t ∧ atL L t ≤ lastA L ∧ headA L ≤ lastA L := by
 induction h with
 | rest p hb hc hm =>
  have : qv p t = p.a := by unfold qv; rw [hb, hc]; grind
  simp only [headA, lastA, atL]
  split <;> grind
 | go p q r hf h0 h1 h2 h3 h4 h5 h ih =>
  obtain ⟨i1, i2, i3⟩ := ih;have hm := qv_mono (p := p) (x := p.f) (y := q.f) (z := q.f) h0 h2 Rat.le_refl (Rat.le_of_lt hf) Rat.le_refl;rw [qv_self, h4] at hm;simp only [headA] at *;have e1 : lastA (p :: q :: r) = lastA (q :: r) := rfl;rw [e1]
  by_cases c : q.f ≤ t
  ·have : atL (p :: q :: r) t = atL (q :: r) t := by rw [atL, if_pos c]
   grind
  ·by_cases d : p.f ≤ t
   ·have e : atL (p :: q :: r) t = qv p t := by rw [atL, if_neg c, if_pos d]
    have a1 := qv_mono (p := p) (x := p.f) (y := t) (z := q.f) h0 h2 Rat.le_refl d (by grind);have a2 := qv_mono (p := p) (x := t) (y := q.f) (z := q.f) h0 h2 d (by grind) Rat.le_refl;rw [qv_self] at a1
    grind
   ·have : atL (p :: q :: r) t = p.a := by rw [atL, if_neg c, if_neg d]
    grind
theorem Up.mono {m : Rat} {L : List QP} (h : Up m L) {x y : Rat} (xy : x ≤ y) : atL L x ≤ atL L y := by
 induction h with
 | rest p hb hc hm =>
  have : ∀ t, qv p t = p.a := fun t => by unfold qv; rw [hb, hc]; grind
  simp only [atL]
  split <;> split <;> grind
 | go p q r hf h0 h1 h2 h3 h4 h5 h ih =>
  by_cases cx : q.f ≤ x
  ·rw [atL, if_pos cx, atL, if_pos (Rat.le_trans cx xy)]; exact ih
  ·by_cases cy : q.f ≤ y
   ·have e : atL (p :: q :: r) y = atL (q :: r) y := by rw [atL, if_pos cy]
    have r1 := (h.range y).1;simp only [headA] at r1
    by_cases d : p.f ≤ x
    ·have e2 : atL (p :: q :: r) x = qv p x := by rw [atL, if_neg cx, if_pos d]
     have a2 := qv_mono (p := p) (x := x) (y := q.f) (z := q.f) h0 h2 d (by grind) Rat.le_refl
     grind
    ·have e2 : atL (p :: q :: r) x = p.a := by rw [atL, if_neg cx, if_neg d]
     have hm := qv_mono (p := p) (x := p.f) (y := q.f) (z := q.f) h0 h2 Rat.le_refl (Rat.le_of_lt hf) Rat.le_refl;rw [qv_self, h4] at hm
     grind
   ·by_cases d : p.f ≤ x
    ·have e2 : atL (p :: q :: r) x = qv p x := by rw [atL, if_neg cx, if_pos d]
     have e3 : atL (p :: q :: r) y = qv p y := by rw [atL, if_neg cy, if_pos (Rat.le_trans d xy)]
     rw [e2, e3];exact qv_mono (p := p) (z := q.f) h0 h2 d xy (by grind)
    ·have e2 : atL (p :: q :: r) x = p.a := by rw [atL, if_neg cx, if_neg d]
     by_cases d' : p.f ≤ y
     ·have e3 : atL (p :: q :: r) y = qv p y := by rw [atL, if_neg cy, if_pos d']
      have a1 := qv_mono (p := p) (x := p.f) (y := y) (z := q.f) h0 h2 Rat.le_refl d' (by grind);rw [qv_self] at a1
      grind
     ·have e3 : atL (p :: q :: r) y = p.a := by rw [atL, if_neg cy, if_neg d']
      grind
theorem Up.slope {m : Rat} {L : List QP} (h : Up m L) (t : Rat) : 0 ≤ slL L t ∧ slL L t ≤ m := by
 induction h with
 | rest p hb hc hm =>
  have : qs p t = 0 := by unfold qs; rw [hb, hc]; grind
  simp only [slL]
  split <;> grind
 | go p q r hf h0 h1 h2 h3 h4 h5 h ih =>
  by_cases c : q.f ≤ t
  ·rw [slL, if_pos c]; exact ih
  ·by_cases d : p.f ≤ t
   ·rw [slL, if_neg c, if_pos d]
    exact qs_between h0 h1 h2 h3 d (by grind)
   ·rw [slL, if_neg c, if_neg d]
    grind
theorem Up.after {m : Rat} {L : List QP} (h : Up m L) {t : Rat} (ht : lastF L ≤ t) : atL L t = lastA L := by
 induction h with
 | rest p hb hc hm =>
  have : qv p t = p.a := by unfold qv; rw [hb, hc]; grind
  simp only [lastA, atL]
  split <;> grind
 | go p q r hf h0 h1 h2 h3 h4 h5 h ih =>
  have e : lastF (p :: q :: r) = lastF (q :: r) := rfl;have e1 : lastA (p :: q :: r) = lastA (q :: r) := rfl
  have up : ∀ {L : List QP}, Up m L → headF L ≤ lastF L := fun {L} h => by
   induction h with
   | rest p _ _ _ => exact Rat.le_refl
   | go p q r hf _ _ _ _ _ _ _ ih =>
    have e : lastF (p :: q :: r) = lastF (q :: r) := rfl;rw [e];simp only [headF] at *
    grind
  have := up h;simp only [headF] at this;rw [e] at ht;rw [e1, atL, if_pos (Rat.le_trans this ht)];exact ih ht
def qp (p : Pc) : QP := ⟨fr (p.f0, p.f1), fr (p.a0, p.a1), fr (p.b0, p.b1), fr (p.c0, p.c1)⟩
def qL (L : List Pc) : List QP := L.map qp
theorem qL_len (L : List Pc) : (qL L).length = L.length := by simp [qL]
theorem qL_get (L : List Pc) (i : Nat) (h : i < (qL L).length) : (qL L)[i] = qp (pcg L i) := by
 have h' : i < L.length := by rwa [qL_len] at h
 have e : pcg L i = L[i] := by unfold pcg; simp [h']
 rw [e]
 simp [qL]
theorem PcOK.vf {p : Pc} (h : PcOK p) : vF (p.f0, p.f1) = true := h.f
theorem PcOK.va {p : Pc} (h : PcOK p) : vF (p.a0, p.a1) = true := h.a
theorem PcOK.vb {p : Pc} (h : PcOK p) : vF (p.b0, p.b1) = true := h.b
theorem PcOK.vc {p : Pc} (h : PcOK p) : vF (p.c0, p.c1) = true := h.c
def Asc (L : List QP) : Prop := ∀ i (h : i + 1 < L.length), L[i].f < L[i + 1].f
theorem Asc.tail {p : QP} {L : List QP} (h : Asc (p :: L)) : Asc L := fun i hi => h (i + 1) (by simp only [List.length_cons]; omega)
theorem Asc.head {p : QP} {L : List QP} (h : Asc (p :: L)) : ∀ k (hk : k < L.length), p.f < L[k].f := by
 intro k
 induction k with
 | zero => intro hk; exact h 0 (by simp only [List.length_cons]; omega)
 | succ k ih =>
  intro hk;have a := ih (by omega);have b := h.tail k hk
  grind
theorem atL_at : ∀ (L : List QP) (k : Nat) (hk : k < L.length) (t : Rat), Asc L → L[k].f ≤ t → (∀ j (hj : j < L.length), k < j → t < L[j].f) → atL L t = qv L[k] t ∧ slL L t = qs L[k] t
 | [p], 0, _, t, _, h, _ => by
  simp only [List.getElem_cons_zero] at h ⊢;rw [atL, if_pos h, slL, if_pos h];exact ⟨rfl, rfl⟩
 | p :: q :: r, 0, _, t, _, h, g => by
  have g1 := g 1 (by simp) (by omega);simp only [List.getElem_cons_zero, List.getElem_cons_succ] at h g1 ⊢;have n : ¬ q.f ≤ t := Rat.not_le.2 g1;rw [atL, if_neg n, if_pos h, slL, if_neg n, if_pos h];exact ⟨rfl, rfl⟩
 | p :: q :: r, k + 1, hk, t, a, h, g => by
  have hk' : k < (q :: r).length := by simp only [List.length_cons] at hk ⊢; omega
  have h' : (q :: r)[k].f ≤ t := h
  have c : q.f ≤ t := by
   rcases Nat.eq_zero_or_pos k with z | z
   ·subst z; exact h'
   ·obtain ⟨k, rfl⟩ : ∃ m, k = m + 1 := ⟨k - 1, by omega⟩
    have kr : k < r.length := by simp only [List.length_cons] at hk'; omega
    have := a.tail.head k kr;have e : (q :: r)[k + 1].f = (r[k]'kr).f := rfl
    grind
  rw [atL, if_pos c, slL, if_pos c];exact atL_at (q :: r) k hk' t a.tail h' (fun j hj kj => g (j + 1) (by simp only [List.length_cons] at hj ⊢; omega) (by omega))
theorem atL_before (L : List QP) (t : Rat) (h0 : 0 < L.length) (a : Asc L) (h : t < L[0].f) : atL L t = headA L ∧ slL L t = 0 := by
 match L, h0, a, h with
 | [p], _, _, h =>
  simp only [List.getElem_cons_zero] at h;have n := Rat.not_le.2 h;simp only [atL, slL, headA, if_neg n];exact ⟨trivial, trivial⟩
 | p :: q :: r, _, a, h =>
  simp only [List.getElem_cons_zero] at h;have b := a 0 (by simp);simp only [List.getElem_cons_zero, List.getElem_cons_succ] at b;have n := Rat.not_le.2 h;have n2 := Rat.not_le.2 (show t < q.f by grind);simp only [atL, slL, headA, if_neg n, if_neg n2];exact ⟨trivial, trivial⟩
theorem CurveOK.asc' {L : List Pc} (ok : CurveOK L) : Asc (qL L) := fun i h => by
 have h' : i + 1 < L.length := by rwa [qL_len] at h
 rw [qL_get, qL_get];exact (frq_lt (a := ((pcg L i).f0, (pcg L i).f1)) (b := ((pcg L (i + 1)).f0, (pcg L (i + 1)).f1)) (den_pos (ok.val i (by omega)).vf) (den_pos (ok.val (i + 1) h').vf)).2 (ok.asc i h')
theorem pieceN_spec (L : List Pc) (t : Int × Int) (k : Nat) : (∀ j, j < k → pieceN L t k < (j : Int) → ¬ (pcg L j).f0 * t.2 ≤ t.1 * (pcg L j).f1) ∧ (0 ≤ pieceN L t k → (pcg L (pieceN L t k).toNat).f0 * t.2 ≤ t.1 * (pcg L (pieceN L t k).toNat).f1) := by
 induction k with
 | zero => exact ⟨fun j h => absurd h (by omega), fun h => by unfold pieceN at h; omega⟩
 | succ k ih =>
  unfold pieceN
  split
  next h => exact ⟨fun j h1 h2 => absurd h1 (by omega), fun _ => by simpa using h⟩
  next h =>
   refine ⟨fun j h1 h2 => ?_, ih.2⟩;rcases Nat.lt_or_eq_of_le (Nat.le_of_lt_succ h1) with l | l
   ·exact ih.1 j l h2
   ·subst l; exact h
theorem resV_ok {v : (Int × Int) × Int} (h : (resV v).2.2 = 0) : v.2 = 0 ∧ ((resV v).1, (resV v).2.1) = v.1 := by
 have z : v.2 = 0 := h;refine ⟨z, ?_⟩;unfold resV;rw [if_pos z, if_pos z]
theorem valAt_ok {L : List Pc} (ok : CurveOK L) {t : Int × Int} (vt : vF t = true) {i : Nat} (hi : i < L.length) (h : (valAt L t i).2.2 = 0) : fr ((valAt L t i).1, (valAt L t i).2.1) = qv (qp (pcg L i)) (fr t) := by
 obtain ⟨z, e⟩ := resV_ok h;have v := ok.val i hi;unfold valAt;rw [e];obtain ⟨z1, e1⟩ := kVal_ok v.va v.vb v.vc (kSub_valid vt v.vf) z;obtain ⟨_, e2⟩ := kSub_ok (den_pos vt) (den_pos v.vf) z1;rw [e1, e2]
 rfl
theorem slopeAt_ok {L : List Pc} (ok : CurveOK L) {t : Int × Int} (vt : vF t = true) {i : Nat} (hi : i < L.length) (h : (slopeAt L t i).2.2 = 0) : fr ((slopeAt L t i).1, (slopeAt L t i).2.1) = qs (qp (pcg L i)) (fr t) := by
 obtain ⟨z, e⟩ := resV_ok h;have v := ok.val i hi;unfold slopeAt;rw [e];obtain ⟨z1, e1⟩ := kSlope_ok v.vb v.vc (kSub_valid vt v.vf) z;obtain ⟨_, e2⟩ := kSub_ok (den_pos vt) (den_pos v.vf) z1;rw [e1, e2]
 rfl
theorem headA_qL {L : List Pc} (h : 1 ≤ L.length) : headA (qL L) = fr ((pcg L 0).a0, (pcg L 0).a1) := by
 cases L with
 | nil => simp at h
 | cons p r => rfl
theorem piece_cases {L : List Pc} (ok : CurveOK L) {t : Int × Int} (vt : vF t = true) :
  (pieceN L t L.length < 0 ∧ atL (qL L) (fr t) = fr ((pcg L 0).a0, (pcg L 0).a1) ∧ slL (qL L) (fr t) = 0) ∨
  (¬ pieceN L t L.length < 0 ∧ (pieceN L t L.length).toNat < L.length ∧ atL (qL L) (fr t) = qv (qp (pcg L (pieceN L t L.length).toNat)) (fr t) ∧ slL (qL L) (fr t) = qs (qp (pcg L (pieceN L t L.length).toNat)) (fr t)) := by
 obtain ⟨s1, s2⟩ := pieceN_spec L t L.length;obtain ⟨r1, r2⟩ := pieceN_range L t L.length;have hp := ok.pos
 by_cases c : pieceN L t L.length < 0
 ·left
  have h0 := s1 0 (by omega) (by simpa using c)
  have h1 : fr t < ((qL L)[0]'(by rw [qL_len]; omega)).f := by
   rw [qL_get];exact (frq_lt (a := t) (b := ((pcg L 0).f0, (pcg L 0).f1)) (den_pos vt) (den_pos (ok.val 0 (by omega)).vf)).2 (by show t.1 * (pcg L 0).f1 < (pcg L 0).f0 * t.2; omega)
  obtain ⟨a, b⟩ := atL_before (qL L) (fr t) (by rw [qL_len]; omega) ok.asc' h1;exact ⟨c, by rw [a, headA_qL hp], b⟩
 ·right
  obtain ⟨k, hk⟩ := nm ((pieceN L t L.length).toNat : Nat);have hkl : k < L.length := by omega
  have s2' := s2 (by omega);rw [hk] at s2' ⊢;have vk := (ok.val k hkl).vf
  have a1 : ((qL L)[k]'(by rw [qL_len]; exact hkl)).f ≤ fr t := by
   rw [qL_get];exact (frq_le (a := ((pcg L k).f0, (pcg L k).f1)) (b := t) (den_pos vk) (den_pos vt)).2 s2'
  have a2 : ∀ j (hj : j < (qL L).length), k < j → fr t < (qL L)[j].f := fun j hj kj => by
   rw [qL_get];have hj' : j < L.length := by rwa [qL_len] at hj
   have := s1 j hj' (by omega);exact (frq_lt (a := t) (b := ((pcg L j).f0, (pcg L j).f1)) (den_pos vt) (den_pos (ok.val j hj').vf)).2 (by show t.1 * (pcg L j).f1 < (pcg L j).f0 * t.2; omega)
  obtain ⟨x, y⟩ := atL_at (qL L) k (by rw [qL_len]; exact hkl) (fr t) ok.asc' a1 a2;rw [qL_get] at x y;exact ⟨c, hkl, x, y⟩
theorem atP_ok {L : List Pc} (ok : CurveOK L) {t : Int × Int} (vt : vF t = true) (h : (atP L t).2.2 = 0) : fr ((atP L t).1, (atP L t).2.1) = atL (qL L) (fr t) := by
 unfold atP at h ⊢;rw [if_pos vt] at h ⊢;rcases piece_cases ok vt with ⟨c, e, _⟩ | ⟨c, hk, e, _⟩
 ·rw [if_pos c, e]
 ·rw [if_neg c] at h ⊢
  rw [e];exact valAt_ok ok vt hk h
theorem slopeP_ok {L : List Pc} (ok : CurveOK L) {t : Int × Int} (vt : vF t = true) (h : (slopeP L t).2.2 = 0) : fr ((slopeP L t).1, (slopeP L t).2.1) = slL (qL L) (fr t) := by
 unfold slopeP at h ⊢;rw [if_pos vt] at h ⊢;rcases piece_cases ok vt with ⟨c, _, e⟩ | ⟨c, hk, _, e⟩
 ·rw [if_pos c, e, ← frq_zero]
 ·rw [if_neg c] at h ⊢
  rw [e];exact slopeAt_ok ok vt hk h
theorem resV_valid {v : (Int × Int) × Int} (h : (resV v).2.2 = 0) (hv : vF v.1 = true) : vF ((resV v).1, (resV v).2.1) = true := by
 rw [(resV_ok h).2]; exact hv
theorem atP_valid {L : List Pc} (ok : CurveOK L) {t : Int × Int} (vt : vF t = true) (h : (atP L t).2.2 = 0) : vF ((atP L t).1, (atP L t).2.1) = true := by
 unfold atP at h ⊢;rw [if_pos vt] at h ⊢;rcases piece_cases ok vt with ⟨c, _, _⟩ | ⟨c, hk, _, _⟩
 ·rw [if_pos c]; exact (ok.val 0 (by have := ok.pos; omega)).va
 ·rw [if_neg c] at h ⊢
  have v := ok.val _ hk;exact resV_valid h (kVal_valid v.va v.vb v.vc (kSub_valid vt v.vf))
theorem slopeP_valid {L : List Pc} (ok : CurveOK L) {t : Int × Int} (vt : vF t = true) (h : (slopeP L t).2.2 = 0) : vF ((slopeP L t).1, (slopeP L t).2.1) = true := by
 unfold slopeP at h ⊢;rw [if_pos vt] at h ⊢;rcases piece_cases ok vt with ⟨c, _, _⟩ | ⟨c, hk, _, _⟩
 ·rw [if_pos c]; exact vF_zero
 ·rw [if_neg c] at h ⊢
  have v := ok.val _ hk;exact resV_valid h (kSlope_valid v.vb v.vc (kSub_valid vt v.vf))
end
end Go.Proofs.YtebofaenlhhkaaaGreat
