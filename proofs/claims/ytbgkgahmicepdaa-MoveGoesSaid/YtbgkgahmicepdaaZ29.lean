/-
  THE WALKS of move.of, way.up and way.down.
  PLAIN: the path of a move: its curve, from a trim upwards or downwards.
  PLAIN LAWS over any program: a slice of pieces in a block of the call's own, written element by element.
-/
import Derived.Deep.RegionHeld3
import Derived.Test.YtbgkgahmicepdaaZ1
import Derived.Test.YtbgkgahmicepdaaZ19
import Derived.Test.YtbgkgahmicepdaaZ25
import Derived.Test.YtbgkgahmicepdaaZ20
import Derived.Test.YtbgkgahmicepdaaZ15
import Derived.Test.YtbgkgahmicepdaaZ27
namespace Go.Proofs.Ytbgkgahmicepdaa
open Go.RowKit Go.Shelf
attribute [local go_sem] Oper.semAt_some
set_option maxHeartbeats 1000000 in
theorem mof_any (n : Int) (w : World) : Calls Try.prog 31 #[.int .i64 n] w fun e w' => e = .returned (.agg #[.int .i64 n, .int .i64 1]) ∧ Below w.heap.size w w' := by
 go_enter Try.func31, Try.ntmps31
 go_wp2_with fail
 refine bodyPost_ret (v := .agg #[.int .i64 n, .int .i64 1]) (by simp [results, Try.results31, go_sem]) rfl ⟨rfl, ?_⟩
 exact below_new _ _
structure PB (w : World) (b : Nat) (p : Pc) : Prop where
 c0 : w.cell? ⟨b, 0, none⟩ = some (.int .i64 p.f0)
 c1 : w.cell? ⟨b, 1, none⟩ = some (.int .i64 p.f1)
 c2 : w.cell? ⟨b, 2, none⟩ = some (.int .i64 p.a0)
 c3 : w.cell? ⟨b, 3, none⟩ = some (.int .i64 p.a1)
 c4 : w.cell? ⟨b, 4, none⟩ = some (.int .i64 p.b0)
 c5 : w.cell? ⟨b, 5, none⟩ = some (.int .i64 p.b1)
 c6 : w.cell? ⟨b, 6, none⟩ = some (.int .i64 p.c0)
 c7 : w.cell? ⟨b, 7, none⟩ = some (.int .i64 p.c1)
 free : ∀ i, w.frozen? ⟨b, i, none⟩ = false
theorem PB.lt {w : World} {b : Nat} {p : Pc} (h : PB w b p) : b < w.heap.size := World.block_lt_of_cell? _ _ h.c0
theorem PB.carry {w w' : World} {b : Nat} {p : Pc} (h : PB w b p) (hb : Below w.heap.size w w') : PB w' b p :=
 ⟨(hb.cell (p := ⟨b, 0, none⟩) h.lt).trans h.c0, (hb.cell (p := ⟨b, 1, none⟩) h.lt).trans h.c1, (hb.cell (p := ⟨b, 2, none⟩) h.lt).trans h.c2, (hb.cell (p := ⟨b, 3, none⟩) h.lt).trans h.c3, (hb.cell (p := ⟨b, 4, none⟩) h.lt).trans h.c4, (hb.cell (p := ⟨b, 5, none⟩) h.lt).trans h.c5, (hb.cell (p := ⟨b, 6, none⟩) h.lt).trans h.c6, (hb.cell (p := ⟨b, 7, none⟩) h.lt).trans h.c7, fun i => (hb.frozen (p := ⟨b, i, none⟩) h.lt).trans (h.free i)⟩
theorem PB.new (w : World) (p : Pc) (t : TypeId) : PB (w.alloc (.cells #[.int .i64 p.f0, .int .i64 p.f1, .int .i64 p.a0, .int .i64 p.a1, .int .i64 p.b0, .int .i64 p.b1, .int .i64 p.c0, .int .i64 p.c1] t)) w.heap.size p :=
 ⟨by simp, by simp, by simp, by simp, by simp, by simp, by simp, by simp, fun i => by simp⟩
theorem PB.set {w : World} {b j : Nat} {p q : Pc} (h : PB w b p) (v : Value) (hj : j < 8) (hs : (0 = j → v = .int .i64 q.f0) ∧ (¬ 0 = j → q.f0 = p.f0) ∧ (1 = j → v = .int .i64 q.f1) ∧ (¬ 1 = j → q.f1 = p.f1) ∧ (2 = j → v = .int .i64 q.a0) ∧ (¬ 2 = j → q.a0 = p.a0) ∧ (3 = j → v = .int .i64 q.a1) ∧ (¬ 3 = j → q.a1 = p.a1) ∧ (4 = j → v = .int .i64 q.b0) ∧ (¬ 4 = j → q.b0 = p.b0) ∧ (5 = j → v = .int .i64 q.b1) ∧ (¬ 5 = j → q.b1 = p.b1) ∧ (6 = j → v = .int .i64 q.c0) ∧ (¬ 6 = j → q.c0 = p.c0) ∧ (7 = j → v = .int .i64 q.c1) ∧ (¬ 7 = j → q.c1 = p.c1)) : PB (w.setCell ⟨b, j, none⟩ v) b q := by
 obtain ⟨y0, n0, y1, n1, y2, n2, y3, n3, y4, n4, y5, n5, y6, n6, y7, n7⟩ := hs
 have same : ∀ k u, w.cell? ⟨b, k, none⟩ = some u → k = j → (w.setCell ⟨b, j, none⟩ v).cell? ⟨b, k, none⟩ = some v := fun k u hu e => by subst e; exact World.cell?_setCell_same _ _ _ hu
 have other : ∀ k, ¬ k = j → (w.setCell ⟨b, j, none⟩ v).cell? ⟨b, k, none⟩ = w.cell? ⟨b, k, none⟩ := fun k e => World.cell?_setCell_other _ _ _ _ (fun x => e (congrArg Addr.off x).symm)
 refine ⟨?_, ?_, ?_, ?_, ?_, ?_, ?_, ?_, fun i => by simpa using h.free i⟩
 ·by_cases e : 0 = j
  ·rw [same 0 _ h.c0 e, y0 e]
  ·rw [other 0 e, h.c0, n0 e]
 ·by_cases e : 1 = j
  ·rw [same 1 _ h.c1 e, y1 e]
  ·rw [other 1 e, h.c1, n1 e]
 ·by_cases e : 2 = j
  ·rw [same 2 _ h.c2 e, y2 e]
  ·rw [other 2 e, h.c2, n2 e]
 ·by_cases e : 3 = j
  ·rw [same 3 _ h.c3 e, y3 e]
  ·rw [other 3 e, h.c3, n3 e]
 ·by_cases e : 4 = j
  ·rw [same 4 _ h.c4 e, y4 e]
  ·rw [other 4 e, h.c4, n4 e]
 ·by_cases e : 5 = j
  ·rw [same 5 _ h.c5 e, y5 e]
  ·rw [other 5 e, h.c5, n5 e]
 ·by_cases e : 6 = j
  ·rw [same 6 _ h.c6 e, y6 e]
  ·rw [other 6 e, h.c6, n6 e]
 ·by_cases e : 7 = j
  ·rw [same 7 _ h.c7 e, y7 e]
  ·rw [other 7 e, h.c7, n7 e]
theorem PB.far {w : World} {b b2 j : Nat} {p : Pc} (h : PB w b p) (hne : b ≠ b2) (v : Value) : PB (w.setCell ⟨b2, j, none⟩ v) b p :=
 ⟨(World.cell?_setCell_other _ _ _ _ (fun x => hne (congrArg Addr.block x).symm)).trans h.c0, (World.cell?_setCell_other _ _ _ _ (fun x => hne (congrArg Addr.block x).symm)).trans h.c1, (World.cell?_setCell_other _ _ _ _ (fun x => hne (congrArg Addr.block x).symm)).trans h.c2, (World.cell?_setCell_other _ _ _ _ (fun x => hne (congrArg Addr.block x).symm)).trans h.c3, (World.cell?_setCell_other _ _ _ _ (fun x => hne (congrArg Addr.block x).symm)).trans h.c4, (World.cell?_setCell_other _ _ _ _ (fun x => hne (congrArg Addr.block x).symm)).trans h.c5, (World.cell?_setCell_other _ _ _ _ (fun x => hne (congrArg Addr.block x).symm)).trans h.c6, (World.cell?_setCell_other _ _ _ _ (fun x => hne (congrArg Addr.block x).symm)).trans h.c7, fun i => by simpa using h.free i⟩
theorem pc_from (q : Pc) {w : World} {b : Nat} {p : Pc} (z : PB w b p) : (setFrom w b 0 [.int .i64 q.f0, .int .i64 q.f1, .int .i64 q.a0, .int .i64 q.a1, .int .i64 q.b0, .int .i64 q.b1, .int .i64 q.c0, .int .i64 q.c1]).cell? ⟨b, 0, none⟩ = some (.int .i64 q.f0) ∧ (setFrom w b 0 [.int .i64 q.f0, .int .i64 q.f1, .int .i64 q.a0, .int .i64 q.a1, .int .i64 q.b0, .int .i64 q.b1, .int .i64 q.c0, .int .i64 q.c1]).cell? ⟨b, 1, none⟩ = some (.int .i64 q.f1) ∧ (setFrom w b 0 [.int .i64 q.f0, .int .i64 q.f1, .int .i64 q.a0, .int .i64 q.a1, .int .i64 q.b0, .int .i64 q.b1, .int .i64 q.c0, .int .i64 q.c1]).cell? ⟨b, 2, none⟩ = some (.int .i64 q.a0) ∧ (setFrom w b 0 [.int .i64 q.f0, .int .i64 q.f1, .int .i64 q.a0, .int .i64 q.a1, .int .i64 q.b0, .int .i64 q.b1, .int .i64 q.c0, .int .i64 q.c1]).cell? ⟨b, 3, none⟩ = some (.int .i64 q.a1) ∧ (setFrom w b 0 [.int .i64 q.f0, .int .i64 q.f1, .int .i64 q.a0, .int .i64 q.a1, .int .i64 q.b0, .int .i64 q.b1, .int .i64 q.c0, .int .i64 q.c1]).cell? ⟨b, 4, none⟩ = some (.int .i64 q.b0) ∧ (setFrom w b 0 [.int .i64 q.f0, .int .i64 q.f1, .int .i64 q.a0, .int .i64 q.a1, .int .i64 q.b0, .int .i64 q.b1, .int .i64 q.c0, .int .i64 q.c1]).cell? ⟨b, 5, none⟩ = some (.int .i64 q.b1) ∧ (setFrom w b 0 [.int .i64 q.f0, .int .i64 q.f1, .int .i64 q.a0, .int .i64 q.a1, .int .i64 q.b0, .int .i64 q.b1, .int .i64 q.c0, .int .i64 q.c1]).cell? ⟨b, 6, none⟩ = some (.int .i64 q.c0) ∧ (setFrom w b 0 [.int .i64 q.f0, .int .i64 q.f1, .int .i64 q.a0, .int .i64 q.a1, .int .i64 q.b0, .int .i64 q.b1, .int .i64 q.c0, .int .i64 q.c1]).cell? ⟨b, 7, none⟩ = some (.int .i64 q.c1) := by
 have h : ∀ i, i < ([.int .i64 q.f0, .int .i64 q.f1, .int .i64 q.a0, .int .i64 q.a1, .int .i64 q.b0, .int .i64 q.b1, .int .i64 q.c0, .int .i64 q.c1] : List Value).length → (w.cell? ⟨b, 0 + i, none⟩).isSome = true := by
  intro i hi
  have hi' : i < 8 := hi
  rw [Nat.zero_add]
  obtain rfl | rfl | rfl | rfl | rfl | rfl | rfl | rfl : i = 0 ∨ i = 1 ∨ i = 2 ∨ i = 3 ∨ i = 4 ∨ i = 5 ∨ i = 6 ∨ i = 7 := by omega
  ·rw [z.c0]; rfl
  ·rw [z.c1]; rfl
  ·rw [z.c2]; rfl
  ·rw [z.c3]; rfl
  ·rw [z.c4]; rfl
  ·rw [z.c5]; rfl
  ·rw [z.c6]; rfl
  ·rw [z.c7]; rfl
 have r := read_from ([.int .i64 q.f0, .int .i64 q.f1, .int .i64 q.a0, .int .i64 q.a1, .int .i64 q.b0, .int .i64 q.b1, .int .i64 q.c0, .int .i64 q.c1] : List Value) w b 0 h
 exact ⟨r 0 (by simp), r 1 (by simp), r 2 (by simp), r 3 (by simp), r 4 (by simp), r 5 (by simp), r 6 (by simp), r 7 (by simp)⟩
def upP (f : Int) (p : Pc) : Pc × Int := (⟨p.f0, p.f1, (addP f 1 p.a0 p.a1).1, (addP f 1 p.a0 p.a1).2.1, p.b0, p.b1, p.c0, p.c1⟩, (addP f 1 p.a0 p.a1).2.2)
set_option maxRecDepth 100000 in
set_option maxHeartbeats 16000000 in
theorem up_any (f : Int) (p : Pc) (f0 : -1152921504606846976 ≤ f) (f1 : f ≤ 1152921504606846976) (ha : validF p.a0 p.a1 = true) (w : World) :
  Calls Try.prog 35 #[.int .i64 f, .agg #[.int .i64 p.f0, .int .i64 p.f1, .int .i64 p.a0, .int .i64 p.a1, .int .i64 p.b0, .int .i64 p.b1, .int .i64 p.c0, .int .i64 p.c1]] w fun e w' => e = .returned (.tuple #[.agg #[.int .i64 (upP f p).1.f0, .int .i64 (upP f p).1.f1, .int .i64 (upP f p).1.a0, .int .i64 (upP f p).1.a1, .int .i64 (upP f p).1.b0, .int .i64 (upP f p).1.b1, .int .i64 (upP f p).1.c0, .int .i64 (upP f p).1.c1], .int .i64 (upP f p).2]) ∧ Below w.heap.size w w' := by
 obtain ⟨X, hX⟩ : ∃ X, addP f 1 p.a0 p.a1 = X := ⟨_, rfl⟩
 have vf : validF f 1 = true := (validF_iff _ _).2 ⟨by decide, by decide, f0, f1, by simp⟩
 have HA0 := fun w => add_all f 1 p.a0 p.a1 vf ha w
 have HR : Hid (upP f p = (⟨p.f0, p.f1, X.1, X.2.1, p.b0, p.b1, p.c0, p.c1⟩, X.2.2)) := Lib.hid (by unfold upP; rw [hX])
 rw [hX] at HA0
 have HA := Lib.hid HA0
 rw [HR.out]
 clear HA0 hX vf ha
 go_enter Try.func35, Try.ntmps35
 go_upto_region 1 with (fail)
 have hp := (PB.new w p 69).carry (below_new (w.alloc (.cells #[.int .i64 p.f0, .int .i64 p.f1, .int .i64 p.a0, .int .i64 p.a1, .int .i64 p.b0, .int .i64 p.b1, .int .i64 p.c0, .int .i64 p.c1] 69)) (.cells #[.int .i64 0, .int .i64 0, .int .i64 0, .int .i64 0, .int .i64 0, .int .i64 0, .int .i64 0, .int .i64 0] 69))
 have hr := PB.new (w.alloc (.cells #[.int .i64 p.f0, .int .i64 p.f1, .int .i64 p.a0, .int .i64 p.a1, .int .i64 p.b0, .int .i64 p.b1, .int .i64 p.c0, .int .i64 p.c1] 69)) ⟨0, 0, 0, 0, 0, 0, 0, 0⟩ 69
 have hm1 : (w.alloc (.cells #[.int .i64 p.f0, .int .i64 p.f1, .int .i64 p.a0, .int .i64 p.a1, .int .i64 p.b0, .int .i64 p.b1, .int .i64 p.c0, .int .i64 p.c1] 69)).heap.size = w.heap.size + 1 := by simp
 have hW0 := (below_new w (.cells #[.int .i64 p.f0, .int .i64 p.f1, .int .i64 p.a0, .int .i64 p.a1, .int .i64 p.b0, .int .i64 p.b1, .int .i64 p.c0, .int .i64 p.c1] 69)).alloc (by simp) (.cells #[.int .i64 0, .int .i64 0, .int .i64 0, .int .i64 0, .int .i64 0, .int .i64 0, .int .i64 0, .int .i64 0] 69)
 rw [hm1] at hr
 generalize ((w.alloc (.cells #[.int .i64 p.f0, .int .i64 p.f1, .int .i64 p.a0, .int .i64 p.a1, .int .i64 p.b0, .int .i64 p.b1, .int .i64 p.c0, .int .i64 p.c1] 69)).alloc (.cells #[.int .i64 0, .int .i64 0, .int .i64 0, .int .i64 0, .int .i64 0, .int .i64 0, .int .i64 0, .int .i64 0] 69)) = W0 at *
 have HP := Lib.hid hp
 have HRR := Lib.hid hr
 have hs1 := hp.lt
 have hs2 := hr.lt
 have HS : Hid (∀ w', Below W0.heap.size W0 w' → W0.heap.size ≤ w'.heap.size ∧ w'.cell? ⟨w.heap.size, 2, none⟩ = some (.int .i64 p.a0) ∧ w'.cell? ⟨w.heap.size, 3, none⟩ = some (.int .i64 p.a1)) := Lib.hid fun w' q => ⟨q.size, (hp.carry q).c2, (hp.carry q).c3⟩
 clear hp hr hm1
 refine wp_region_noPanic ?_
 refine wp_region_held_drew (S := fun w' => W0.heap.size ≤ w'.heap.size ∧ w'.cell? ⟨w.heap.size, 2, none⟩ = some (.int .i64 p.a0) ∧ w'.cell? ⟨w.heap.size, 3, none⟩ = some (.int .i64 p.a1)) (by kernel_rfl) (HS.out _ (Below.refl _ _).drew) (fun hHeld => ?_)
 have hB0 := (Below.refl W0.heap.size W0).drew
 obtain ⟨w0, hw0⟩ : ∃ x, W0.drew = x := ⟨_, rfl⟩
 simp only [hw0] at hB0 hHeld ⊢
 clear hw0
 refine tkA 0 ?_
 simp only [Act.put, List.setIfInBounds_toArray, List.set_cons_zero, List.set_cons_succ]
 refine tkA 2 ?_
 simp only [Act.put, List.setIfInBounds_toArray, List.set_cons_zero, List.set_cons_succ]
 refine tkA 3 ?_
 simp only [Act.put, List.setIfInBounds_toArray, List.set_cons_zero, List.set_cons_succ]
 refine wpAnyH_ready (rs := [1, 8]) (by kernel_rfl) (by simp) ?_
 refine tkC (fun K hK => ?_) (tkC (fun K hK => ?_) (AllReadyH.nil))
 ·go_simp
  (go_at_call 31; go_split_ands; (with_reducible refine (mof_any f _).mono ?_); rintro e w1 ⟨rfl, hb1⟩)
  go_wp2_with fail
  have hB1 := hB0.trans (hb1.mono hB0.size)
  refine hK.out _ _ (HS.out _ hB1) (fun hHeld => ?_)
  clear hK K
  try simp only [Act.put, List.setIfInBounds_toArray, List.set_cons_zero, List.set_cons_succ]
  refine wpAnyH_ready (rs := [4, 8]) (by kernel_rfl) (by simp) ?_
  refine tkC (fun K hK => ?_) (tkC (fun K hK => ?_) (AllReadyH.nil))
  ·go_simp
   (go_at_call 32; go_split_ands; (with_reducible refine (HA.out _).mono ?_); rintro e w2 ⟨rfl, hb2⟩)
   go_wp2_with fail
   have hB2 := hB1.trans (hb2.mono hB1.size)
   refine hK.out _ _ (HS.out _ hB2) (fun hHeld => ?_)
   clear hK K
   try simp only [Act.put, List.setIfInBounds_toArray, List.set_cons_zero, List.set_cons_succ]
   refine tkA 5 ?_
   simp only [Act.put, List.setIfInBounds_toArray, List.set_cons_zero, List.set_cons_succ]
   refine tkA 6 ?_
   simp only [Act.put, List.setIfInBounds_toArray, List.set_cons_zero, List.set_cons_succ]
   refine tkA 7 ?_
   simp only [Act.put, List.setIfInBounds_toArray, List.set_cons_zero, List.set_cons_succ]
   refine wpAnyH_ready (rs := [8]) (by kernel_rfl) (by simp) ?_
   refine tkC (fun K hK => ?_) (AllReadyH.nil)
   rw [if_pos (by rfl)]
   go_split_ands
   go_wp2_with fail
   have hB3 := below_a (.cells #[.int .i64 0, .int .i64 0] 29) hB2
   have FBy := FI.new w2 29
   obtain ⟨By, hBy⟩ : ∃ b, w2.heap.size = b := ⟨_, rfl⟩
   have hloBy : W0.heap.size ≤ By := by have := hB2.size; omega
   simp only [hBy] at FBy ⊢
   generalize w2.alloc (.cells #[.int .i64 0, .int .i64 0] 29) = w3 at *
   refine hK.out _ _ (HS.out _ hB3) (fun hHeld => ?_)
   clear hK K
   try simp only [Act.put, List.setIfInBounds_toArray, List.set_cons_zero, List.set_cons_succ]
   have bltBy := FBy.2.2.2.2
   refine wpAnyH_ready (rs := [9]) (by kernel_rfl) (by simp) ?_
   refine tkC (fun K hK => ?_) (AllReadyH.nil)
   rw [if_pos (by rfl)]
   go_split_ands
   obtain ⟨fa, fb, fc, fd, fe⟩ := FBy
   go_wp2_with fail
   have hB4 := below_s ⟨By, 1, none⟩ (.int .i64 (X.2.1)) (below_s ⟨By, 0, none⟩ (.int .i64 (X.1)) hB3 hloBy) hloBy
   have FBy := FI.set ⟨fa, fb, fc, fd, fe⟩ (X.1) (X.2.1)
   clear fa fb fc fd fe
   generalize ((w3.setCell ⟨By, 0, none⟩ (.int .i64 (X.1))).setCell ⟨By, 1, none⟩ (.int .i64 (X.2.1))) = w4 at *
   refine hK.out _ _ (HS.out _ hB4) (fun hHeld => ?_)
   clear hK K
   try simp only [Act.put, List.setIfInBounds_toArray, List.set_cons_zero, List.set_cons_succ]
   have bltBy := FBy.2.2.2.2
   refine tkA 10 ?_
   simp only [Act.put, List.setIfInBounds_toArray, List.set_cons_zero, List.set_cons_succ]
   refine wpAnyH_done (by kernel_rfl) ?_ _
   have hB := hB4
   refine NoPanic.normal ?_
   have t0 := FBy.1
   have t1 := FBy.2.1
   have HRX := Lib.hid (HRR.out.carry hB)
   obtain ⟨p0, p1, p2, p3, p4, p5, p6, p7, pf⟩ := HP.out.carry hB
   obtain ⟨r0, r1, r2, r3, r4, r5, r6, r7, rf⟩ := HRX.out
   go_wp2_with fail
   have hq := pc_from ⟨p.f0, p.f1, X.1, X.2.1, p.b0, p.b1, p.c0, p.c1⟩ ((HRX.out.far (b2 := w.heap.size) (j := 2) (by omega) (.int .i64 X.1)).far (b2 := w.heap.size) (j := 3) (by omega) (.int .i64 X.2.1))
   have hBB := below_from (m := w.heap.size) (b := w.heap.size + 1) (W := w) [.int .i64 p.f0, .int .i64 p.f1, .int .i64 X.1, .int .i64 X.2.1, .int .i64 p.b0, .int .i64 p.b1, .int .i64 p.c0, .int .i64 p.c1] _ 0 (below_s ⟨w.heap.size, 3, none⟩ (.int .i64 X.2.1) (below_s ⟨w.heap.size, 2, none⟩ (.int .i64 X.1) (hW0.trans (hB.mono hW0.size)) (Nat.le_refl _)) (Nat.le_refl _)) (Nat.le_succ _)
   show bodyPost _ _ _ Exit.ret _ (setFrom ((w4.setCell ⟨w.heap.size, 2, none⟩ (.int .i64 X.1)).setCell ⟨w.heap.size, 3, none⟩ (.int .i64 X.2.1)) (w.heap.size + 1) 0 [.int .i64 p.f0, .int .i64 p.f1, .int .i64 X.1, .int .i64 X.2.1, .int .i64 p.b0, .int .i64 p.b1, .int .i64 p.c0, .int .i64 p.c1])
   have hq : (setFrom ((w4.setCell ⟨w.heap.size, 2, none⟩ (.int .i64 X.1)).setCell ⟨w.heap.size, 3, none⟩ (.int .i64 X.2.1)) (w.heap.size + 1) 0 [.int .i64 p.f0, .int .i64 p.f1, .int .i64 X.1, .int .i64 X.2.1, .int .i64 p.b0, .int .i64 p.b1, .int .i64 p.c0, .int .i64 p.c1]).cell? ⟨w.heap.size + 1, 0, none⟩ = some (.int .i64 p.f0) ∧ (setFrom ((w4.setCell ⟨w.heap.size, 2, none⟩ (.int .i64 X.1)).setCell ⟨w.heap.size, 3, none⟩ (.int .i64 X.2.1)) (w.heap.size + 1) 0 [.int .i64 p.f0, .int .i64 p.f1, .int .i64 X.1, .int .i64 X.2.1, .int .i64 p.b0, .int .i64 p.b1, .int .i64 p.c0, .int .i64 p.c1]).cell? ⟨w.heap.size + 1, 1, none⟩ = some (.int .i64 p.f1) ∧ (setFrom ((w4.setCell ⟨w.heap.size, 2, none⟩ (.int .i64 X.1)).setCell ⟨w.heap.size, 3, none⟩ (.int .i64 X.2.1)) (w.heap.size + 1) 0 [.int .i64 p.f0, .int .i64 p.f1, .int .i64 X.1, .int .i64 X.2.1, .int .i64 p.b0, .int .i64 p.b1, .int .i64 p.c0, .int .i64 p.c1]).cell? ⟨w.heap.size + 1, 2, none⟩ = some (.int .i64 X.1) ∧ (setFrom ((w4.setCell ⟨w.heap.size, 2, none⟩ (.int .i64 X.1)).setCell ⟨w.heap.size, 3, none⟩ (.int .i64 X.2.1)) (w.heap.size + 1) 0 [.int .i64 p.f0, .int .i64 p.f1, .int .i64 X.1, .int .i64 X.2.1, .int .i64 p.b0, .int .i64 p.b1, .int .i64 p.c0, .int .i64 p.c1]).cell? ⟨w.heap.size + 1, 3, none⟩ = some (.int .i64 X.2.1) ∧ (setFrom ((w4.setCell ⟨w.heap.size, 2, none⟩ (.int .i64 X.1)).setCell ⟨w.heap.size, 3, none⟩ (.int .i64 X.2.1)) (w.heap.size + 1) 0 [.int .i64 p.f0, .int .i64 p.f1, .int .i64 X.1, .int .i64 X.2.1, .int .i64 p.b0, .int .i64 p.b1, .int .i64 p.c0, .int .i64 p.c1]).cell? ⟨w.heap.size + 1, 4, none⟩ = some (.int .i64 p.b0) ∧ (setFrom ((w4.setCell ⟨w.heap.size, 2, none⟩ (.int .i64 X.1)).setCell ⟨w.heap.size, 3, none⟩ (.int .i64 X.2.1)) (w.heap.size + 1) 0 [.int .i64 p.f0, .int .i64 p.f1, .int .i64 X.1, .int .i64 X.2.1, .int .i64 p.b0, .int .i64 p.b1, .int .i64 p.c0, .int .i64 p.c1]).cell? ⟨w.heap.size + 1, 5, none⟩ = some (.int .i64 p.b1) ∧ (setFrom ((w4.setCell ⟨w.heap.size, 2, none⟩ (.int .i64 X.1)).setCell ⟨w.heap.size, 3, none⟩ (.int .i64 X.2.1)) (w.heap.size + 1) 0 [.int .i64 p.f0, .int .i64 p.f1, .int .i64 X.1, .int .i64 X.2.1, .int .i64 p.b0, .int .i64 p.b1, .int .i64 p.c0, .int .i64 p.c1]).cell? ⟨w.heap.size + 1, 6, none⟩ = some (.int .i64 p.c0) ∧ (setFrom ((w4.setCell ⟨w.heap.size, 2, none⟩ (.int .i64 X.1)).setCell ⟨w.heap.size, 3, none⟩ (.int .i64 X.2.1)) (w.heap.size + 1) 0 [.int .i64 p.f0, .int .i64 p.f1, .int .i64 X.1, .int .i64 X.2.1, .int .i64 p.b0, .int .i64 p.b1, .int .i64 p.c0, .int .i64 p.c1]).cell? ⟨w.heap.size + 1, 7, none⟩ = some (.int .i64 p.c1) := hq
   generalize setFrom ((w4.setCell ⟨w.heap.size, 2, none⟩ (.int .i64 X.1)).setCell ⟨w.heap.size, 3, none⟩ (.int .i64 X.2.1)) (w.heap.size + 1) 0 [.int .i64 p.f0, .int .i64 p.f1, .int .i64 X.1, .int .i64 X.2.1, .int .i64 p.b0, .int .i64 p.b1, .int .i64 p.c0, .int .i64 p.c1] = WF at *
   obtain ⟨g0, g1, g2, g3, g4, g5, g6, g7⟩ := hq
   exact bodyPost_ret (v := .tuple #[.agg #[.int .i64 p.f0, .int .i64 p.f1, .int .i64 X.1, .int .i64 X.2.1, .int .i64 p.b0, .int .i64 p.b1, .int .i64 p.c0, .int .i64 p.c1], .int .i64 X.2.2]) (by simp [results, Try.results35, go_sem, g0, g1, g2, g3, g4, g5, g6, g7]) rfl ⟨rfl, hBB⟩
  ·rw [if_pos (by rfl)]
   go_split_ands
   go_wp2_with fail
   have hB2 := below_a (.cells #[.int .i64 0, .int .i64 0] 29) hB1
   have FBy := FI.new w1 29
   obtain ⟨By, hBy⟩ : ∃ b, w1.heap.size = b := ⟨_, rfl⟩
   have hloBy : W0.heap.size ≤ By := by have := hB1.size; omega
   simp only [hBy] at FBy ⊢
   generalize w1.alloc (.cells #[.int .i64 0, .int .i64 0] 29) = w2 at *
   refine hK.out _ _ (HS.out _ hB2) (fun hHeld => ?_)
   clear hK K
   try simp only [Act.put, List.setIfInBounds_toArray, List.set_cons_zero, List.set_cons_succ]
   have bltBy := FBy.2.2.2.2
   refine wpAnyH_ready (rs := [4]) (by kernel_rfl) (by simp) ?_
   refine tkC (fun K hK => ?_) (AllReadyH.nil)
   go_simp
   (go_at_call 32; go_split_ands; (with_reducible refine (HA.out _).mono ?_); rintro e w3 ⟨rfl, hb3⟩)
   go_wp2_with fail
   have hB3 := hB2.trans (hb3.mono hB2.size)
   have FBy := FBy.carry hb3
   refine hK.out _ _ (HS.out _ hB3) (fun hHeld => ?_)
   clear hK K
   try simp only [Act.put, List.setIfInBounds_toArray, List.set_cons_zero, List.set_cons_succ]
   have bltBy := FBy.2.2.2.2
   refine tkA 5 ?_
   simp only [Act.put, List.setIfInBounds_toArray, List.set_cons_zero, List.set_cons_succ]
   refine tkA 6 ?_
   simp only [Act.put, List.setIfInBounds_toArray, List.set_cons_zero, List.set_cons_succ]
   refine tkA 7 ?_
   simp only [Act.put, List.setIfInBounds_toArray, List.set_cons_zero, List.set_cons_succ]
   refine wpAnyH_ready (rs := [9]) (by kernel_rfl) (by simp) ?_
   refine tkC (fun K hK => ?_) (AllReadyH.nil)
   rw [if_pos (by rfl)]
   go_split_ands
   obtain ⟨fa, fb, fc, fd, fe⟩ := FBy
   go_wp2_with fail
   have hB4 := below_s ⟨By, 1, none⟩ (.int .i64 (X.2.1)) (below_s ⟨By, 0, none⟩ (.int .i64 (X.1)) hB3 hloBy) hloBy
   have FBy := FI.set ⟨fa, fb, fc, fd, fe⟩ (X.1) (X.2.1)
   clear fa fb fc fd fe
   generalize ((w3.setCell ⟨By, 0, none⟩ (.int .i64 (X.1))).setCell ⟨By, 1, none⟩ (.int .i64 (X.2.1))) = w4 at *
   refine hK.out _ _ (HS.out _ hB4) (fun hHeld => ?_)
   clear hK K
   try simp only [Act.put, List.setIfInBounds_toArray, List.set_cons_zero, List.set_cons_succ]
   have bltBy := FBy.2.2.2.2
   refine tkA 10 ?_
   simp only [Act.put, List.setIfInBounds_toArray, List.set_cons_zero, List.set_cons_succ]
   refine wpAnyH_done (by kernel_rfl) ?_ _
   have hB := hB4
   refine NoPanic.normal ?_
   have t0 := FBy.1
   have t1 := FBy.2.1
   have HRX := Lib.hid (HRR.out.carry hB)
   obtain ⟨p0, p1, p2, p3, p4, p5, p6, p7, pf⟩ := HP.out.carry hB
   obtain ⟨r0, r1, r2, r3, r4, r5, r6, r7, rf⟩ := HRX.out
   go_wp2_with fail
   have hq := pc_from ⟨p.f0, p.f1, X.1, X.2.1, p.b0, p.b1, p.c0, p.c1⟩ ((HRX.out.far (b2 := w.heap.size) (j := 2) (by omega) (.int .i64 X.1)).far (b2 := w.heap.size) (j := 3) (by omega) (.int .i64 X.2.1))
   have hBB := below_from (m := w.heap.size) (b := w.heap.size + 1) (W := w) [.int .i64 p.f0, .int .i64 p.f1, .int .i64 X.1, .int .i64 X.2.1, .int .i64 p.b0, .int .i64 p.b1, .int .i64 p.c0, .int .i64 p.c1] _ 0 (below_s ⟨w.heap.size, 3, none⟩ (.int .i64 X.2.1) (below_s ⟨w.heap.size, 2, none⟩ (.int .i64 X.1) (hW0.trans (hB.mono hW0.size)) (Nat.le_refl _)) (Nat.le_refl _)) (Nat.le_succ _)
   show bodyPost _ _ _ Exit.ret _ (setFrom ((w4.setCell ⟨w.heap.size, 2, none⟩ (.int .i64 X.1)).setCell ⟨w.heap.size, 3, none⟩ (.int .i64 X.2.1)) (w.heap.size + 1) 0 [.int .i64 p.f0, .int .i64 p.f1, .int .i64 X.1, .int .i64 X.2.1, .int .i64 p.b0, .int .i64 p.b1, .int .i64 p.c0, .int .i64 p.c1])
   have hq : (setFrom ((w4.setCell ⟨w.heap.size, 2, none⟩ (.int .i64 X.1)).setCell ⟨w.heap.size, 3, none⟩ (.int .i64 X.2.1)) (w.heap.size + 1) 0 [.int .i64 p.f0, .int .i64 p.f1, .int .i64 X.1, .int .i64 X.2.1, .int .i64 p.b0, .int .i64 p.b1, .int .i64 p.c0, .int .i64 p.c1]).cell? ⟨w.heap.size + 1, 0, none⟩ = some (.int .i64 p.f0) ∧ (setFrom ((w4.setCell ⟨w.heap.size, 2, none⟩ (.int .i64 X.1)).setCell ⟨w.heap.size, 3, none⟩ (.int .i64 X.2.1)) (w.heap.size + 1) 0 [.int .i64 p.f0, .int .i64 p.f1, .int .i64 X.1, .int .i64 X.2.1, .int .i64 p.b0, .int .i64 p.b1, .int .i64 p.c0, .int .i64 p.c1]).cell? ⟨w.heap.size + 1, 1, none⟩ = some (.int .i64 p.f1) ∧ (setFrom ((w4.setCell ⟨w.heap.size, 2, none⟩ (.int .i64 X.1)).setCell ⟨w.heap.size, 3, none⟩ (.int .i64 X.2.1)) (w.heap.size + 1) 0 [.int .i64 p.f0, .int .i64 p.f1, .int .i64 X.1, .int .i64 X.2.1, .int .i64 p.b0, .int .i64 p.b1, .int .i64 p.c0, .int .i64 p.c1]).cell? ⟨w.heap.size + 1, 2, none⟩ = some (.int .i64 X.1) ∧ (setFrom ((w4.setCell ⟨w.heap.size, 2, none⟩ (.int .i64 X.1)).setCell ⟨w.heap.size, 3, none⟩ (.int .i64 X.2.1)) (w.heap.size + 1) 0 [.int .i64 p.f0, .int .i64 p.f1, .int .i64 X.1, .int .i64 X.2.1, .int .i64 p.b0, .int .i64 p.b1, .int .i64 p.c0, .int .i64 p.c1]).cell? ⟨w.heap.size + 1, 3, none⟩ = some (.int .i64 X.2.1) ∧ (setFrom ((w4.setCell ⟨w.heap.size, 2, none⟩ (.int .i64 X.1)).setCell ⟨w.heap.size, 3, none⟩ (.int .i64 X.2.1)) (w.heap.size + 1) 0 [.int .i64 p.f0, .int .i64 p.f1, .int .i64 X.1, .int .i64 X.2.1, .int .i64 p.b0, .int .i64 p.b1, .int .i64 p.c0, .int .i64 p.c1]).cell? ⟨w.heap.size + 1, 4, none⟩ = some (.int .i64 p.b0) ∧ (setFrom ((w4.setCell ⟨w.heap.size, 2, none⟩ (.int .i64 X.1)).setCell ⟨w.heap.size, 3, none⟩ (.int .i64 X.2.1)) (w.heap.size + 1) 0 [.int .i64 p.f0, .int .i64 p.f1, .int .i64 X.1, .int .i64 X.2.1, .int .i64 p.b0, .int .i64 p.b1, .int .i64 p.c0, .int .i64 p.c1]).cell? ⟨w.heap.size + 1, 5, none⟩ = some (.int .i64 p.b1) ∧ (setFrom ((w4.setCell ⟨w.heap.size, 2, none⟩ (.int .i64 X.1)).setCell ⟨w.heap.size, 3, none⟩ (.int .i64 X.2.1)) (w.heap.size + 1) 0 [.int .i64 p.f0, .int .i64 p.f1, .int .i64 X.1, .int .i64 X.2.1, .int .i64 p.b0, .int .i64 p.b1, .int .i64 p.c0, .int .i64 p.c1]).cell? ⟨w.heap.size + 1, 6, none⟩ = some (.int .i64 p.c0) ∧ (setFrom ((w4.setCell ⟨w.heap.size, 2, none⟩ (.int .i64 X.1)).setCell ⟨w.heap.size, 3, none⟩ (.int .i64 X.2.1)) (w.heap.size + 1) 0 [.int .i64 p.f0, .int .i64 p.f1, .int .i64 X.1, .int .i64 X.2.1, .int .i64 p.b0, .int .i64 p.b1, .int .i64 p.c0, .int .i64 p.c1]).cell? ⟨w.heap.size + 1, 7, none⟩ = some (.int .i64 p.c1) := hq
   generalize setFrom ((w4.setCell ⟨w.heap.size, 2, none⟩ (.int .i64 X.1)).setCell ⟨w.heap.size, 3, none⟩ (.int .i64 X.2.1)) (w.heap.size + 1) 0 [.int .i64 p.f0, .int .i64 p.f1, .int .i64 X.1, .int .i64 X.2.1, .int .i64 p.b0, .int .i64 p.b1, .int .i64 p.c0, .int .i64 p.c1] = WF at *
   obtain ⟨g0, g1, g2, g3, g4, g5, g6, g7⟩ := hq
   exact bodyPost_ret (v := .tuple #[.agg #[.int .i64 p.f0, .int .i64 p.f1, .int .i64 X.1, .int .i64 X.2.1, .int .i64 p.b0, .int .i64 p.b1, .int .i64 p.c0, .int .i64 p.c1], .int .i64 X.2.2]) (by simp [results, Try.results35, go_sem, g0, g1, g2, g3, g4, g5, g6, g7]) rfl ⟨rfl, hBB⟩
 ·rw [if_pos (by rfl)]
  go_split_ands
  go_wp2_with fail
  have hB1 := below_a (.cells #[.int .i64 0, .int .i64 0] 29) hB0
  have FBy := FI.new w0 29
  obtain ⟨By, hBy⟩ : ∃ b, w0.heap.size = b := ⟨_, rfl⟩
  have hloBy : W0.heap.size ≤ By := by have := hB0.size; omega
  simp only [hBy] at FBy ⊢
  generalize w0.alloc (.cells #[.int .i64 0, .int .i64 0] 29) = w1 at *
  refine hK.out _ _ (HS.out _ hB1) (fun hHeld => ?_)
  clear hK K
  try simp only [Act.put, List.setIfInBounds_toArray, List.set_cons_zero, List.set_cons_succ]
  have bltBy := FBy.2.2.2.2
  refine wpAnyH_ready (rs := [1]) (by kernel_rfl) (by simp) ?_
  refine tkC (fun K hK => ?_) (AllReadyH.nil)
  go_simp
  (go_at_call 31; go_split_ands; (with_reducible refine (mof_any f _).mono ?_); rintro e w2 ⟨rfl, hb2⟩)
  go_wp2_with fail
  have hB2 := hB1.trans (hb2.mono hB1.size)
  have FBy := FBy.carry hb2
  refine hK.out _ _ (HS.out _ hB2) (fun hHeld => ?_)
  clear hK K
  try simp only [Act.put, List.setIfInBounds_toArray, List.set_cons_zero, List.set_cons_succ]
  have bltBy := FBy.2.2.2.2
  refine wpAnyH_ready (rs := [4]) (by kernel_rfl) (by simp) ?_
  refine tkC (fun K hK => ?_) (AllReadyH.nil)
  go_simp
  (go_at_call 32; go_split_ands; (with_reducible refine (HA.out _).mono ?_); rintro e w3 ⟨rfl, hb3⟩)
  go_wp2_with fail
  have hB3 := hB2.trans (hb3.mono hB2.size)
  have FBy := FBy.carry hb3
  refine hK.out _ _ (HS.out _ hB3) (fun hHeld => ?_)
  clear hK K
  try simp only [Act.put, List.setIfInBounds_toArray, List.set_cons_zero, List.set_cons_succ]
  have bltBy := FBy.2.2.2.2
  refine tkA 5 ?_
  simp only [Act.put, List.setIfInBounds_toArray, List.set_cons_zero, List.set_cons_succ]
  refine tkA 6 ?_
  simp only [Act.put, List.setIfInBounds_toArray, List.set_cons_zero, List.set_cons_succ]
  refine tkA 7 ?_
  simp only [Act.put, List.setIfInBounds_toArray, List.set_cons_zero, List.set_cons_succ]
  refine wpAnyH_ready (rs := [9]) (by kernel_rfl) (by simp) ?_
  refine tkC (fun K hK => ?_) (AllReadyH.nil)
  rw [if_pos (by rfl)]
  go_split_ands
  obtain ⟨fa, fb, fc, fd, fe⟩ := FBy
  go_wp2_with fail
  have hB4 := below_s ⟨By, 1, none⟩ (.int .i64 (X.2.1)) (below_s ⟨By, 0, none⟩ (.int .i64 (X.1)) hB3 hloBy) hloBy
  have FBy := FI.set ⟨fa, fb, fc, fd, fe⟩ (X.1) (X.2.1)
  clear fa fb fc fd fe
  generalize ((w3.setCell ⟨By, 0, none⟩ (.int .i64 (X.1))).setCell ⟨By, 1, none⟩ (.int .i64 (X.2.1))) = w4 at *
  refine hK.out _ _ (HS.out _ hB4) (fun hHeld => ?_)
  clear hK K
  try simp only [Act.put, List.setIfInBounds_toArray, List.set_cons_zero, List.set_cons_succ]
  have bltBy := FBy.2.2.2.2
  refine tkA 10 ?_
  simp only [Act.put, List.setIfInBounds_toArray, List.set_cons_zero, List.set_cons_succ]
  refine wpAnyH_done (by kernel_rfl) ?_ _
  have hB := hB4
  refine NoPanic.normal ?_
  have t0 := FBy.1
  have t1 := FBy.2.1
  have HRX := Lib.hid (HRR.out.carry hB)
  obtain ⟨p0, p1, p2, p3, p4, p5, p6, p7, pf⟩ := HP.out.carry hB
  obtain ⟨r0, r1, r2, r3, r4, r5, r6, r7, rf⟩ := HRX.out
  go_wp2_with fail
  have hq := pc_from ⟨p.f0, p.f1, X.1, X.2.1, p.b0, p.b1, p.c0, p.c1⟩ ((HRX.out.far (b2 := w.heap.size) (j := 2) (by omega) (.int .i64 X.1)).far (b2 := w.heap.size) (j := 3) (by omega) (.int .i64 X.2.1))
  have hBB := below_from (m := w.heap.size) (b := w.heap.size + 1) (W := w) [.int .i64 p.f0, .int .i64 p.f1, .int .i64 X.1, .int .i64 X.2.1, .int .i64 p.b0, .int .i64 p.b1, .int .i64 p.c0, .int .i64 p.c1] _ 0 (below_s ⟨w.heap.size, 3, none⟩ (.int .i64 X.2.1) (below_s ⟨w.heap.size, 2, none⟩ (.int .i64 X.1) (hW0.trans (hB.mono hW0.size)) (Nat.le_refl _)) (Nat.le_refl _)) (Nat.le_succ _)
  show bodyPost _ _ _ Exit.ret _ (setFrom ((w4.setCell ⟨w.heap.size, 2, none⟩ (.int .i64 X.1)).setCell ⟨w.heap.size, 3, none⟩ (.int .i64 X.2.1)) (w.heap.size + 1) 0 [.int .i64 p.f0, .int .i64 p.f1, .int .i64 X.1, .int .i64 X.2.1, .int .i64 p.b0, .int .i64 p.b1, .int .i64 p.c0, .int .i64 p.c1])
  have hq : (setFrom ((w4.setCell ⟨w.heap.size, 2, none⟩ (.int .i64 X.1)).setCell ⟨w.heap.size, 3, none⟩ (.int .i64 X.2.1)) (w.heap.size + 1) 0 [.int .i64 p.f0, .int .i64 p.f1, .int .i64 X.1, .int .i64 X.2.1, .int .i64 p.b0, .int .i64 p.b1, .int .i64 p.c0, .int .i64 p.c1]).cell? ⟨w.heap.size + 1, 0, none⟩ = some (.int .i64 p.f0) ∧ (setFrom ((w4.setCell ⟨w.heap.size, 2, none⟩ (.int .i64 X.1)).setCell ⟨w.heap.size, 3, none⟩ (.int .i64 X.2.1)) (w.heap.size + 1) 0 [.int .i64 p.f0, .int .i64 p.f1, .int .i64 X.1, .int .i64 X.2.1, .int .i64 p.b0, .int .i64 p.b1, .int .i64 p.c0, .int .i64 p.c1]).cell? ⟨w.heap.size + 1, 1, none⟩ = some (.int .i64 p.f1) ∧ (setFrom ((w4.setCell ⟨w.heap.size, 2, none⟩ (.int .i64 X.1)).setCell ⟨w.heap.size, 3, none⟩ (.int .i64 X.2.1)) (w.heap.size + 1) 0 [.int .i64 p.f0, .int .i64 p.f1, .int .i64 X.1, .int .i64 X.2.1, .int .i64 p.b0, .int .i64 p.b1, .int .i64 p.c0, .int .i64 p.c1]).cell? ⟨w.heap.size + 1, 2, none⟩ = some (.int .i64 X.1) ∧ (setFrom ((w4.setCell ⟨w.heap.size, 2, none⟩ (.int .i64 X.1)).setCell ⟨w.heap.size, 3, none⟩ (.int .i64 X.2.1)) (w.heap.size + 1) 0 [.int .i64 p.f0, .int .i64 p.f1, .int .i64 X.1, .int .i64 X.2.1, .int .i64 p.b0, .int .i64 p.b1, .int .i64 p.c0, .int .i64 p.c1]).cell? ⟨w.heap.size + 1, 3, none⟩ = some (.int .i64 X.2.1) ∧ (setFrom ((w4.setCell ⟨w.heap.size, 2, none⟩ (.int .i64 X.1)).setCell ⟨w.heap.size, 3, none⟩ (.int .i64 X.2.1)) (w.heap.size + 1) 0 [.int .i64 p.f0, .int .i64 p.f1, .int .i64 X.1, .int .i64 X.2.1, .int .i64 p.b0, .int .i64 p.b1, .int .i64 p.c0, .int .i64 p.c1]).cell? ⟨w.heap.size + 1, 4, none⟩ = some (.int .i64 p.b0) ∧ (setFrom ((w4.setCell ⟨w.heap.size, 2, none⟩ (.int .i64 X.1)).setCell ⟨w.heap.size, 3, none⟩ (.int .i64 X.2.1)) (w.heap.size + 1) 0 [.int .i64 p.f0, .int .i64 p.f1, .int .i64 X.1, .int .i64 X.2.1, .int .i64 p.b0, .int .i64 p.b1, .int .i64 p.c0, .int .i64 p.c1]).cell? ⟨w.heap.size + 1, 5, none⟩ = some (.int .i64 p.b1) ∧ (setFrom ((w4.setCell ⟨w.heap.size, 2, none⟩ (.int .i64 X.1)).setCell ⟨w.heap.size, 3, none⟩ (.int .i64 X.2.1)) (w.heap.size + 1) 0 [.int .i64 p.f0, .int .i64 p.f1, .int .i64 X.1, .int .i64 X.2.1, .int .i64 p.b0, .int .i64 p.b1, .int .i64 p.c0, .int .i64 p.c1]).cell? ⟨w.heap.size + 1, 6, none⟩ = some (.int .i64 p.c0) ∧ (setFrom ((w4.setCell ⟨w.heap.size, 2, none⟩ (.int .i64 X.1)).setCell ⟨w.heap.size, 3, none⟩ (.int .i64 X.2.1)) (w.heap.size + 1) 0 [.int .i64 p.f0, .int .i64 p.f1, .int .i64 X.1, .int .i64 X.2.1, .int .i64 p.b0, .int .i64 p.b1, .int .i64 p.c0, .int .i64 p.c1]).cell? ⟨w.heap.size + 1, 7, none⟩ = some (.int .i64 p.c1) := hq
  generalize setFrom ((w4.setCell ⟨w.heap.size, 2, none⟩ (.int .i64 X.1)).setCell ⟨w.heap.size, 3, none⟩ (.int .i64 X.2.1)) (w.heap.size + 1) 0 [.int .i64 p.f0, .int .i64 p.f1, .int .i64 X.1, .int .i64 X.2.1, .int .i64 p.b0, .int .i64 p.b1, .int .i64 p.c0, .int .i64 p.c1] = WF at *
  obtain ⟨g0, g1, g2, g3, g4, g5, g6, g7⟩ := hq
  exact bodyPost_ret (v := .tuple #[.agg #[.int .i64 p.f0, .int .i64 p.f1, .int .i64 X.1, .int .i64 X.2.1, .int .i64 p.b0, .int .i64 p.b1, .int .i64 p.c0, .int .i64 p.c1], .int .i64 X.2.2]) (by simp [results, Try.results35, go_sem, g0, g1, g2, g3, g4, g5, g6, g7]) rfl ⟨rfl, hBB⟩
def downP (f : Int) (p : Pc) : Pc × Int := (⟨p.f0, p.f1, (addP f 1 (-p.a0) p.a1).1, (addP f 1 (-p.a0) p.a1).2.1, -p.b0, p.b1, -p.c0, p.c1⟩, (addP f 1 (-p.a0) p.a1).2.2)
set_option maxRecDepth 100000 in
set_option maxHeartbeats 16000000 in
theorem down_any (f : Int) (p : Pc) (f0 : -1152921504606846976 ≤ f) (f1 : f ≤ 1152921504606846976) (ha : validF p.a0 p.a1 = true) (hb : -1152921504606846976 ≤ p.b0 ∧ p.b0 ≤ 1152921504606846976) (hc : -1152921504606846976 ≤ p.c0 ∧ p.c0 ≤ 1152921504606846976) (w : World) :
  Calls Try.prog 36 #[.int .i64 f, .agg #[.int .i64 p.f0, .int .i64 p.f1, .int .i64 p.a0, .int .i64 p.a1, .int .i64 p.b0, .int .i64 p.b1, .int .i64 p.c0, .int .i64 p.c1]] w fun e w' => e = .returned (.tuple #[.agg #[.int .i64 (downP f p).1.f0, .int .i64 (downP f p).1.f1, .int .i64 (downP f p).1.a0, .int .i64 (downP f p).1.a1, .int .i64 (downP f p).1.b0, .int .i64 (downP f p).1.b1, .int .i64 (downP f p).1.c0, .int .i64 (downP f p).1.c1], .int .i64 (downP f p).2]) ∧ Below w.heap.size w w' := by
 obtain ⟨X, hX⟩ : ∃ X, addP f 1 (-p.a0) p.a1 = X := ⟨_, rfl⟩
 have vf : validF f 1 = true := (validF_iff _ _).2 ⟨by decide, by decide, f0, f1, by simp⟩
 have HA0 := fun w => sub_all f 1 p.a0 p.a1 vf ha w
 have HR : Hid (downP f p = (⟨p.f0, p.f1, X.1, X.2.1, -p.b0, p.b1, -p.c0, p.c1⟩, X.2.2)) := Lib.hid (by unfold downP; rw [hX])
 rw [hX] at HA0
 have HA := Lib.hid HA0
 rw [HR.out]
 have wb : IntKind.i64.wrap (-p.b0) = -p.b0 := IntWalk.i64_in _ (by omega)
 have wc : IntKind.i64.wrap (-p.c0) = -p.c0 := IntWalk.i64_in _ (by omega)
 clear HA0 hX vf ha
 go_enter Try.func36, Try.ntmps36
 go_upto_region 1 with (fail)
 have hp := (PB.new w p 69).carry (below_new (w.alloc (.cells #[.int .i64 p.f0, .int .i64 p.f1, .int .i64 p.a0, .int .i64 p.a1, .int .i64 p.b0, .int .i64 p.b1, .int .i64 p.c0, .int .i64 p.c1] 69)) (.cells #[.int .i64 0, .int .i64 0, .int .i64 0, .int .i64 0, .int .i64 0, .int .i64 0, .int .i64 0, .int .i64 0] 69))
 have hr := PB.new (w.alloc (.cells #[.int .i64 p.f0, .int .i64 p.f1, .int .i64 p.a0, .int .i64 p.a1, .int .i64 p.b0, .int .i64 p.b1, .int .i64 p.c0, .int .i64 p.c1] 69)) ⟨0, 0, 0, 0, 0, 0, 0, 0⟩ 69
 have hm1 : (w.alloc (.cells #[.int .i64 p.f0, .int .i64 p.f1, .int .i64 p.a0, .int .i64 p.a1, .int .i64 p.b0, .int .i64 p.b1, .int .i64 p.c0, .int .i64 p.c1] 69)).heap.size = w.heap.size + 1 := by simp
 have hW0 := (below_new w (.cells #[.int .i64 p.f0, .int .i64 p.f1, .int .i64 p.a0, .int .i64 p.a1, .int .i64 p.b0, .int .i64 p.b1, .int .i64 p.c0, .int .i64 p.c1] 69)).alloc (by simp) (.cells #[.int .i64 0, .int .i64 0, .int .i64 0, .int .i64 0, .int .i64 0, .int .i64 0, .int .i64 0, .int .i64 0] 69)
 rw [hm1] at hr
 generalize ((w.alloc (.cells #[.int .i64 p.f0, .int .i64 p.f1, .int .i64 p.a0, .int .i64 p.a1, .int .i64 p.b0, .int .i64 p.b1, .int .i64 p.c0, .int .i64 p.c1] 69)).alloc (.cells #[.int .i64 0, .int .i64 0, .int .i64 0, .int .i64 0, .int .i64 0, .int .i64 0, .int .i64 0, .int .i64 0] 69)) = W0 at *
 have HP := Lib.hid hp
 have HRR := Lib.hid hr
 have hs1 := hp.lt
 have hs2 := hr.lt
 have HS : Hid (∀ w', Below W0.heap.size W0 w' → W0.heap.size ≤ w'.heap.size ∧ w'.cell? ⟨w.heap.size, 2, none⟩ = some (.int .i64 p.a0) ∧ w'.cell? ⟨w.heap.size, 3, none⟩ = some (.int .i64 p.a1)) := Lib.hid fun w' q => ⟨q.size, (hp.carry q).c2, (hp.carry q).c3⟩
 clear hp hr hm1
 refine wp_region_noPanic ?_
 refine wp_region_held_drew (S := fun w' => W0.heap.size ≤ w'.heap.size ∧ w'.cell? ⟨w.heap.size, 2, none⟩ = some (.int .i64 p.a0) ∧ w'.cell? ⟨w.heap.size, 3, none⟩ = some (.int .i64 p.a1)) (by kernel_rfl) (HS.out _ (Below.refl _ _).drew) (fun hHeld => ?_)
 have hB0 := (Below.refl W0.heap.size W0).drew
 obtain ⟨w0, hw0⟩ : ∃ x, W0.drew = x := ⟨_, rfl⟩
 simp only [hw0] at hB0 hHeld ⊢
 clear hw0
 refine tkA 0 ?_
 simp only [Act.put, List.setIfInBounds_toArray, List.set_cons_zero, List.set_cons_succ]
 refine tkA 2 ?_
 simp only [Act.put, List.setIfInBounds_toArray, List.set_cons_zero, List.set_cons_succ]
 refine tkA 3 ?_
 simp only [Act.put, List.setIfInBounds_toArray, List.set_cons_zero, List.set_cons_succ]
 refine wpAnyH_ready (rs := [1, 8]) (by kernel_rfl) (by simp) ?_
 refine tkC (fun K hK => ?_) (tkC (fun K hK => ?_) (AllReadyH.nil))
 ·go_simp
  (go_at_call 31; go_split_ands; (with_reducible refine (mof_any f _).mono ?_); rintro e w1 ⟨rfl, hb1⟩)
  go_wp2_with fail
  have hB1 := hB0.trans (hb1.mono hB0.size)
  refine hK.out _ _ (HS.out _ hB1) (fun hHeld => ?_)
  clear hK K
  try simp only [Act.put, List.setIfInBounds_toArray, List.set_cons_zero, List.set_cons_succ]
  refine wpAnyH_ready (rs := [4, 8]) (by kernel_rfl) (by simp) ?_
  refine tkC (fun K hK => ?_) (tkC (fun K hK => ?_) (AllReadyH.nil))
  ·go_simp
   (go_at_call 33; go_split_ands; (with_reducible refine (HA.out _).mono ?_); rintro e w2 ⟨rfl, hb2⟩)
   go_wp2_with fail
   have hB2 := hB1.trans (hb2.mono hB1.size)
   refine hK.out _ _ (HS.out _ hB2) (fun hHeld => ?_)
   clear hK K
   try simp only [Act.put, List.setIfInBounds_toArray, List.set_cons_zero, List.set_cons_succ]
   refine tkA 5 ?_
   simp only [Act.put, List.setIfInBounds_toArray, List.set_cons_zero, List.set_cons_succ]
   refine tkA 6 ?_
   simp only [Act.put, List.setIfInBounds_toArray, List.set_cons_zero, List.set_cons_succ]
   refine tkA 7 ?_
   simp only [Act.put, List.setIfInBounds_toArray, List.set_cons_zero, List.set_cons_succ]
   refine wpAnyH_ready (rs := [8]) (by kernel_rfl) (by simp) ?_
   refine tkC (fun K hK => ?_) (AllReadyH.nil)
   rw [if_pos (by rfl)]
   go_split_ands
   go_wp2_with fail
   have hB3 := below_a (.cells #[.int .i64 0, .int .i64 0] 29) hB2
   have FBy := FI.new w2 29
   obtain ⟨By, hBy⟩ : ∃ b, w2.heap.size = b := ⟨_, rfl⟩
   have hloBy : W0.heap.size ≤ By := by have := hB2.size; omega
   simp only [hBy] at FBy ⊢
   generalize w2.alloc (.cells #[.int .i64 0, .int .i64 0] 29) = w3 at *
   refine hK.out _ _ (HS.out _ hB3) (fun hHeld => ?_)
   clear hK K
   try simp only [Act.put, List.setIfInBounds_toArray, List.set_cons_zero, List.set_cons_succ]
   have bltBy := FBy.2.2.2.2
   refine wpAnyH_ready (rs := [9]) (by kernel_rfl) (by simp) ?_
   refine tkC (fun K hK => ?_) (AllReadyH.nil)
   rw [if_pos (by rfl)]
   go_split_ands
   obtain ⟨fa, fb, fc, fd, fe⟩ := FBy
   go_wp2_with fail
   have hB4 := below_s ⟨By, 1, none⟩ (.int .i64 (X.2.1)) (below_s ⟨By, 0, none⟩ (.int .i64 (X.1)) hB3 hloBy) hloBy
   have FBy := FI.set ⟨fa, fb, fc, fd, fe⟩ (X.1) (X.2.1)
   clear fa fb fc fd fe
   generalize ((w3.setCell ⟨By, 0, none⟩ (.int .i64 (X.1))).setCell ⟨By, 1, none⟩ (.int .i64 (X.2.1))) = w4 at *
   refine hK.out _ _ (HS.out _ hB4) (fun hHeld => ?_)
   clear hK K
   try simp only [Act.put, List.setIfInBounds_toArray, List.set_cons_zero, List.set_cons_succ]
   have bltBy := FBy.2.2.2.2
   refine tkA 10 ?_
   simp only [Act.put, List.setIfInBounds_toArray, List.set_cons_zero, List.set_cons_succ]
   refine wpAnyH_done (by kernel_rfl) ?_ _
   have hB := hB4
   refine NoPanic.normal ?_
   have t0 := FBy.1
   have t1 := FBy.2.1
   have HRX := Lib.hid (HRR.out.carry hB)
   obtain ⟨p0, p1, p2, p3, p4, p5, p6, p7, pf⟩ := HP.out.carry hB
   obtain ⟨r0, r1, r2, r3, r4, r5, r6, r7, rf⟩ := HRX.out
   go_wp2_with fail
   have hq := pc_from ⟨p.f0, p.f1, X.1, X.2.1, -p.b0, p.b1, -p.c0, p.c1⟩ ((((HRX.out.far (b2 := w.heap.size) (j := 2) (by omega) (.int .i64 X.1)).far (b2 := w.heap.size) (j := 3) (by omega) (.int .i64 X.2.1)).far (b2 := w.heap.size) (j := 4) (by omega) (.int .i64 (-p.b0))).far (b2 := w.heap.size) (j := 6) (by omega) (.int .i64 (-p.c0)))
   have hBB := below_from (m := w.heap.size) (b := w.heap.size + 1) (W := w) [.int .i64 p.f0, .int .i64 p.f1, .int .i64 X.1, .int .i64 X.2.1, .int .i64 (-p.b0), .int .i64 p.b1, .int .i64 (-p.c0), .int .i64 p.c1] _ 0 (below_s ⟨w.heap.size, 6, none⟩ (.int .i64 (-p.c0)) (below_s ⟨w.heap.size, 4, none⟩ (.int .i64 (-p.b0)) (below_s ⟨w.heap.size, 3, none⟩ (.int .i64 X.2.1) (below_s ⟨w.heap.size, 2, none⟩ (.int .i64 X.1) (hW0.trans (hB.mono hW0.size)) (Nat.le_refl _)) (Nat.le_refl _)) (Nat.le_refl _)) (Nat.le_refl _)) (Nat.le_succ _)
   show bodyPost _ _ _ Exit.ret _ (setFrom ((((w4.setCell ⟨w.heap.size, 2, none⟩ (.int .i64 X.1)).setCell ⟨w.heap.size, 3, none⟩ (.int .i64 X.2.1)).setCell ⟨w.heap.size, 4, none⟩ (.int .i64 (-p.b0))).setCell ⟨w.heap.size, 6, none⟩ (.int .i64 (-p.c0))) (w.heap.size + 1) 0 [.int .i64 p.f0, .int .i64 p.f1, .int .i64 X.1, .int .i64 X.2.1, .int .i64 (-p.b0), .int .i64 p.b1, .int .i64 (-p.c0), .int .i64 p.c1])
   have hq : (setFrom ((((w4.setCell ⟨w.heap.size, 2, none⟩ (.int .i64 X.1)).setCell ⟨w.heap.size, 3, none⟩ (.int .i64 X.2.1)).setCell ⟨w.heap.size, 4, none⟩ (.int .i64 (-p.b0))).setCell ⟨w.heap.size, 6, none⟩ (.int .i64 (-p.c0))) (w.heap.size + 1) 0 [.int .i64 p.f0, .int .i64 p.f1, .int .i64 X.1, .int .i64 X.2.1, .int .i64 (-p.b0), .int .i64 p.b1, .int .i64 (-p.c0), .int .i64 p.c1]).cell? ⟨w.heap.size + 1, 0, none⟩ = some (.int .i64 p.f0) ∧ (setFrom ((((w4.setCell ⟨w.heap.size, 2, none⟩ (.int .i64 X.1)).setCell ⟨w.heap.size, 3, none⟩ (.int .i64 X.2.1)).setCell ⟨w.heap.size, 4, none⟩ (.int .i64 (-p.b0))).setCell ⟨w.heap.size, 6, none⟩ (.int .i64 (-p.c0))) (w.heap.size + 1) 0 [.int .i64 p.f0, .int .i64 p.f1, .int .i64 X.1, .int .i64 X.2.1, .int .i64 (-p.b0), .int .i64 p.b1, .int .i64 (-p.c0), .int .i64 p.c1]).cell? ⟨w.heap.size + 1, 1, none⟩ = some (.int .i64 p.f1) ∧ (setFrom ((((w4.setCell ⟨w.heap.size, 2, none⟩ (.int .i64 X.1)).setCell ⟨w.heap.size, 3, none⟩ (.int .i64 X.2.1)).setCell ⟨w.heap.size, 4, none⟩ (.int .i64 (-p.b0))).setCell ⟨w.heap.size, 6, none⟩ (.int .i64 (-p.c0))) (w.heap.size + 1) 0 [.int .i64 p.f0, .int .i64 p.f1, .int .i64 X.1, .int .i64 X.2.1, .int .i64 (-p.b0), .int .i64 p.b1, .int .i64 (-p.c0), .int .i64 p.c1]).cell? ⟨w.heap.size + 1, 2, none⟩ = some (.int .i64 X.1) ∧ (setFrom ((((w4.setCell ⟨w.heap.size, 2, none⟩ (.int .i64 X.1)).setCell ⟨w.heap.size, 3, none⟩ (.int .i64 X.2.1)).setCell ⟨w.heap.size, 4, none⟩ (.int .i64 (-p.b0))).setCell ⟨w.heap.size, 6, none⟩ (.int .i64 (-p.c0))) (w.heap.size + 1) 0 [.int .i64 p.f0, .int .i64 p.f1, .int .i64 X.1, .int .i64 X.2.1, .int .i64 (-p.b0), .int .i64 p.b1, .int .i64 (-p.c0), .int .i64 p.c1]).cell? ⟨w.heap.size + 1, 3, none⟩ = some (.int .i64 X.2.1) ∧ (setFrom ((((w4.setCell ⟨w.heap.size, 2, none⟩ (.int .i64 X.1)).setCell ⟨w.heap.size, 3, none⟩ (.int .i64 X.2.1)).setCell ⟨w.heap.size, 4, none⟩ (.int .i64 (-p.b0))).setCell ⟨w.heap.size, 6, none⟩ (.int .i64 (-p.c0))) (w.heap.size + 1) 0 [.int .i64 p.f0, .int .i64 p.f1, .int .i64 X.1, .int .i64 X.2.1, .int .i64 (-p.b0), .int .i64 p.b1, .int .i64 (-p.c0), .int .i64 p.c1]).cell? ⟨w.heap.size + 1, 4, none⟩ = some (.int .i64 (-p.b0)) ∧ (setFrom ((((w4.setCell ⟨w.heap.size, 2, none⟩ (.int .i64 X.1)).setCell ⟨w.heap.size, 3, none⟩ (.int .i64 X.2.1)).setCell ⟨w.heap.size, 4, none⟩ (.int .i64 (-p.b0))).setCell ⟨w.heap.size, 6, none⟩ (.int .i64 (-p.c0))) (w.heap.size + 1) 0 [.int .i64 p.f0, .int .i64 p.f1, .int .i64 X.1, .int .i64 X.2.1, .int .i64 (-p.b0), .int .i64 p.b1, .int .i64 (-p.c0), .int .i64 p.c1]).cell? ⟨w.heap.size + 1, 5, none⟩ = some (.int .i64 p.b1) ∧ (setFrom ((((w4.setCell ⟨w.heap.size, 2, none⟩ (.int .i64 X.1)).setCell ⟨w.heap.size, 3, none⟩ (.int .i64 X.2.1)).setCell ⟨w.heap.size, 4, none⟩ (.int .i64 (-p.b0))).setCell ⟨w.heap.size, 6, none⟩ (.int .i64 (-p.c0))) (w.heap.size + 1) 0 [.int .i64 p.f0, .int .i64 p.f1, .int .i64 X.1, .int .i64 X.2.1, .int .i64 (-p.b0), .int .i64 p.b1, .int .i64 (-p.c0), .int .i64 p.c1]).cell? ⟨w.heap.size + 1, 6, none⟩ = some (.int .i64 (-p.c0)) ∧ (setFrom ((((w4.setCell ⟨w.heap.size, 2, none⟩ (.int .i64 X.1)).setCell ⟨w.heap.size, 3, none⟩ (.int .i64 X.2.1)).setCell ⟨w.heap.size, 4, none⟩ (.int .i64 (-p.b0))).setCell ⟨w.heap.size, 6, none⟩ (.int .i64 (-p.c0))) (w.heap.size + 1) 0 [.int .i64 p.f0, .int .i64 p.f1, .int .i64 X.1, .int .i64 X.2.1, .int .i64 (-p.b0), .int .i64 p.b1, .int .i64 (-p.c0), .int .i64 p.c1]).cell? ⟨w.heap.size + 1, 7, none⟩ = some (.int .i64 p.c1) := hq
   generalize setFrom ((((w4.setCell ⟨w.heap.size, 2, none⟩ (.int .i64 X.1)).setCell ⟨w.heap.size, 3, none⟩ (.int .i64 X.2.1)).setCell ⟨w.heap.size, 4, none⟩ (.int .i64 (-p.b0))).setCell ⟨w.heap.size, 6, none⟩ (.int .i64 (-p.c0))) (w.heap.size + 1) 0 [.int .i64 p.f0, .int .i64 p.f1, .int .i64 X.1, .int .i64 X.2.1, .int .i64 (-p.b0), .int .i64 p.b1, .int .i64 (-p.c0), .int .i64 p.c1] = WF at *
   obtain ⟨g0, g1, g2, g3, g4, g5, g6, g7⟩ := hq
   exact bodyPost_ret (v := .tuple #[.agg #[.int .i64 p.f0, .int .i64 p.f1, .int .i64 X.1, .int .i64 X.2.1, .int .i64 (-p.b0), .int .i64 p.b1, .int .i64 (-p.c0), .int .i64 p.c1], .int .i64 X.2.2]) (by simp [results, Try.results36, go_sem, g0, g1, g2, g3, g4, g5, g6, g7]) rfl ⟨rfl, hBB⟩
  ·rw [if_pos (by rfl)]
   go_split_ands
   go_wp2_with fail
   have hB2 := below_a (.cells #[.int .i64 0, .int .i64 0] 29) hB1
   have FBy := FI.new w1 29
   obtain ⟨By, hBy⟩ : ∃ b, w1.heap.size = b := ⟨_, rfl⟩
   have hloBy : W0.heap.size ≤ By := by have := hB1.size; omega
   simp only [hBy] at FBy ⊢
   generalize w1.alloc (.cells #[.int .i64 0, .int .i64 0] 29) = w2 at *
   refine hK.out _ _ (HS.out _ hB2) (fun hHeld => ?_)
   clear hK K
   try simp only [Act.put, List.setIfInBounds_toArray, List.set_cons_zero, List.set_cons_succ]
   have bltBy := FBy.2.2.2.2
   refine wpAnyH_ready (rs := [4]) (by kernel_rfl) (by simp) ?_
   refine tkC (fun K hK => ?_) (AllReadyH.nil)
   go_simp
   (go_at_call 33; go_split_ands; (with_reducible refine (HA.out _).mono ?_); rintro e w3 ⟨rfl, hb3⟩)
   go_wp2_with fail
   have hB3 := hB2.trans (hb3.mono hB2.size)
   have FBy := FBy.carry hb3
   refine hK.out _ _ (HS.out _ hB3) (fun hHeld => ?_)
   clear hK K
   try simp only [Act.put, List.setIfInBounds_toArray, List.set_cons_zero, List.set_cons_succ]
   have bltBy := FBy.2.2.2.2
   refine tkA 5 ?_
   simp only [Act.put, List.setIfInBounds_toArray, List.set_cons_zero, List.set_cons_succ]
   refine tkA 6 ?_
   simp only [Act.put, List.setIfInBounds_toArray, List.set_cons_zero, List.set_cons_succ]
   refine tkA 7 ?_
   simp only [Act.put, List.setIfInBounds_toArray, List.set_cons_zero, List.set_cons_succ]
   refine wpAnyH_ready (rs := [9]) (by kernel_rfl) (by simp) ?_
   refine tkC (fun K hK => ?_) (AllReadyH.nil)
   rw [if_pos (by rfl)]
   go_split_ands
   obtain ⟨fa, fb, fc, fd, fe⟩ := FBy
   go_wp2_with fail
   have hB4 := below_s ⟨By, 1, none⟩ (.int .i64 (X.2.1)) (below_s ⟨By, 0, none⟩ (.int .i64 (X.1)) hB3 hloBy) hloBy
   have FBy := FI.set ⟨fa, fb, fc, fd, fe⟩ (X.1) (X.2.1)
   clear fa fb fc fd fe
   generalize ((w3.setCell ⟨By, 0, none⟩ (.int .i64 (X.1))).setCell ⟨By, 1, none⟩ (.int .i64 (X.2.1))) = w4 at *
   refine hK.out _ _ (HS.out _ hB4) (fun hHeld => ?_)
   clear hK K
   try simp only [Act.put, List.setIfInBounds_toArray, List.set_cons_zero, List.set_cons_succ]
   have bltBy := FBy.2.2.2.2
   refine tkA 10 ?_
   simp only [Act.put, List.setIfInBounds_toArray, List.set_cons_zero, List.set_cons_succ]
   refine wpAnyH_done (by kernel_rfl) ?_ _
   have hB := hB4
   refine NoPanic.normal ?_
   have t0 := FBy.1
   have t1 := FBy.2.1
   have HRX := Lib.hid (HRR.out.carry hB)
   obtain ⟨p0, p1, p2, p3, p4, p5, p6, p7, pf⟩ := HP.out.carry hB
   obtain ⟨r0, r1, r2, r3, r4, r5, r6, r7, rf⟩ := HRX.out
   go_wp2_with fail
   have hq := pc_from ⟨p.f0, p.f1, X.1, X.2.1, -p.b0, p.b1, -p.c0, p.c1⟩ ((((HRX.out.far (b2 := w.heap.size) (j := 2) (by omega) (.int .i64 X.1)).far (b2 := w.heap.size) (j := 3) (by omega) (.int .i64 X.2.1)).far (b2 := w.heap.size) (j := 4) (by omega) (.int .i64 (-p.b0))).far (b2 := w.heap.size) (j := 6) (by omega) (.int .i64 (-p.c0)))
   have hBB := below_from (m := w.heap.size) (b := w.heap.size + 1) (W := w) [.int .i64 p.f0, .int .i64 p.f1, .int .i64 X.1, .int .i64 X.2.1, .int .i64 (-p.b0), .int .i64 p.b1, .int .i64 (-p.c0), .int .i64 p.c1] _ 0 (below_s ⟨w.heap.size, 6, none⟩ (.int .i64 (-p.c0)) (below_s ⟨w.heap.size, 4, none⟩ (.int .i64 (-p.b0)) (below_s ⟨w.heap.size, 3, none⟩ (.int .i64 X.2.1) (below_s ⟨w.heap.size, 2, none⟩ (.int .i64 X.1) (hW0.trans (hB.mono hW0.size)) (Nat.le_refl _)) (Nat.le_refl _)) (Nat.le_refl _)) (Nat.le_refl _)) (Nat.le_succ _)
   show bodyPost _ _ _ Exit.ret _ (setFrom ((((w4.setCell ⟨w.heap.size, 2, none⟩ (.int .i64 X.1)).setCell ⟨w.heap.size, 3, none⟩ (.int .i64 X.2.1)).setCell ⟨w.heap.size, 4, none⟩ (.int .i64 (-p.b0))).setCell ⟨w.heap.size, 6, none⟩ (.int .i64 (-p.c0))) (w.heap.size + 1) 0 [.int .i64 p.f0, .int .i64 p.f1, .int .i64 X.1, .int .i64 X.2.1, .int .i64 (-p.b0), .int .i64 p.b1, .int .i64 (-p.c0), .int .i64 p.c1])
   have hq : (setFrom ((((w4.setCell ⟨w.heap.size, 2, none⟩ (.int .i64 X.1)).setCell ⟨w.heap.size, 3, none⟩ (.int .i64 X.2.1)).setCell ⟨w.heap.size, 4, none⟩ (.int .i64 (-p.b0))).setCell ⟨w.heap.size, 6, none⟩ (.int .i64 (-p.c0))) (w.heap.size + 1) 0 [.int .i64 p.f0, .int .i64 p.f1, .int .i64 X.1, .int .i64 X.2.1, .int .i64 (-p.b0), .int .i64 p.b1, .int .i64 (-p.c0), .int .i64 p.c1]).cell? ⟨w.heap.size + 1, 0, none⟩ = some (.int .i64 p.f0) ∧ (setFrom ((((w4.setCell ⟨w.heap.size, 2, none⟩ (.int .i64 X.1)).setCell ⟨w.heap.size, 3, none⟩ (.int .i64 X.2.1)).setCell ⟨w.heap.size, 4, none⟩ (.int .i64 (-p.b0))).setCell ⟨w.heap.size, 6, none⟩ (.int .i64 (-p.c0))) (w.heap.size + 1) 0 [.int .i64 p.f0, .int .i64 p.f1, .int .i64 X.1, .int .i64 X.2.1, .int .i64 (-p.b0), .int .i64 p.b1, .int .i64 (-p.c0), .int .i64 p.c1]).cell? ⟨w.heap.size + 1, 1, none⟩ = some (.int .i64 p.f1) ∧ (setFrom ((((w4.setCell ⟨w.heap.size, 2, none⟩ (.int .i64 X.1)).setCell ⟨w.heap.size, 3, none⟩ (.int .i64 X.2.1)).setCell ⟨w.heap.size, 4, none⟩ (.int .i64 (-p.b0))).setCell ⟨w.heap.size, 6, none⟩ (.int .i64 (-p.c0))) (w.heap.size + 1) 0 [.int .i64 p.f0, .int .i64 p.f1, .int .i64 X.1, .int .i64 X.2.1, .int .i64 (-p.b0), .int .i64 p.b1, .int .i64 (-p.c0), .int .i64 p.c1]).cell? ⟨w.heap.size + 1, 2, none⟩ = some (.int .i64 X.1) ∧ (setFrom ((((w4.setCell ⟨w.heap.size, 2, none⟩ (.int .i64 X.1)).setCell ⟨w.heap.size, 3, none⟩ (.int .i64 X.2.1)).setCell ⟨w.heap.size, 4, none⟩ (.int .i64 (-p.b0))).setCell ⟨w.heap.size, 6, none⟩ (.int .i64 (-p.c0))) (w.heap.size + 1) 0 [.int .i64 p.f0, .int .i64 p.f1, .int .i64 X.1, .int .i64 X.2.1, .int .i64 (-p.b0), .int .i64 p.b1, .int .i64 (-p.c0), .int .i64 p.c1]).cell? ⟨w.heap.size + 1, 3, none⟩ = some (.int .i64 X.2.1) ∧ (setFrom ((((w4.setCell ⟨w.heap.size, 2, none⟩ (.int .i64 X.1)).setCell ⟨w.heap.size, 3, none⟩ (.int .i64 X.2.1)).setCell ⟨w.heap.size, 4, none⟩ (.int .i64 (-p.b0))).setCell ⟨w.heap.size, 6, none⟩ (.int .i64 (-p.c0))) (w.heap.size + 1) 0 [.int .i64 p.f0, .int .i64 p.f1, .int .i64 X.1, .int .i64 X.2.1, .int .i64 (-p.b0), .int .i64 p.b1, .int .i64 (-p.c0), .int .i64 p.c1]).cell? ⟨w.heap.size + 1, 4, none⟩ = some (.int .i64 (-p.b0)) ∧ (setFrom ((((w4.setCell ⟨w.heap.size, 2, none⟩ (.int .i64 X.1)).setCell ⟨w.heap.size, 3, none⟩ (.int .i64 X.2.1)).setCell ⟨w.heap.size, 4, none⟩ (.int .i64 (-p.b0))).setCell ⟨w.heap.size, 6, none⟩ (.int .i64 (-p.c0))) (w.heap.size + 1) 0 [.int .i64 p.f0, .int .i64 p.f1, .int .i64 X.1, .int .i64 X.2.1, .int .i64 (-p.b0), .int .i64 p.b1, .int .i64 (-p.c0), .int .i64 p.c1]).cell? ⟨w.heap.size + 1, 5, none⟩ = some (.int .i64 p.b1) ∧ (setFrom ((((w4.setCell ⟨w.heap.size, 2, none⟩ (.int .i64 X.1)).setCell ⟨w.heap.size, 3, none⟩ (.int .i64 X.2.1)).setCell ⟨w.heap.size, 4, none⟩ (.int .i64 (-p.b0))).setCell ⟨w.heap.size, 6, none⟩ (.int .i64 (-p.c0))) (w.heap.size + 1) 0 [.int .i64 p.f0, .int .i64 p.f1, .int .i64 X.1, .int .i64 X.2.1, .int .i64 (-p.b0), .int .i64 p.b1, .int .i64 (-p.c0), .int .i64 p.c1]).cell? ⟨w.heap.size + 1, 6, none⟩ = some (.int .i64 (-p.c0)) ∧ (setFrom ((((w4.setCell ⟨w.heap.size, 2, none⟩ (.int .i64 X.1)).setCell ⟨w.heap.size, 3, none⟩ (.int .i64 X.2.1)).setCell ⟨w.heap.size, 4, none⟩ (.int .i64 (-p.b0))).setCell ⟨w.heap.size, 6, none⟩ (.int .i64 (-p.c0))) (w.heap.size + 1) 0 [.int .i64 p.f0, .int .i64 p.f1, .int .i64 X.1, .int .i64 X.2.1, .int .i64 (-p.b0), .int .i64 p.b1, .int .i64 (-p.c0), .int .i64 p.c1]).cell? ⟨w.heap.size + 1, 7, none⟩ = some (.int .i64 p.c1) := hq
   generalize setFrom ((((w4.setCell ⟨w.heap.size, 2, none⟩ (.int .i64 X.1)).setCell ⟨w.heap.size, 3, none⟩ (.int .i64 X.2.1)).setCell ⟨w.heap.size, 4, none⟩ (.int .i64 (-p.b0))).setCell ⟨w.heap.size, 6, none⟩ (.int .i64 (-p.c0))) (w.heap.size + 1) 0 [.int .i64 p.f0, .int .i64 p.f1, .int .i64 X.1, .int .i64 X.2.1, .int .i64 (-p.b0), .int .i64 p.b1, .int .i64 (-p.c0), .int .i64 p.c1] = WF at *
   obtain ⟨g0, g1, g2, g3, g4, g5, g6, g7⟩ := hq
   exact bodyPost_ret (v := .tuple #[.agg #[.int .i64 p.f0, .int .i64 p.f1, .int .i64 X.1, .int .i64 X.2.1, .int .i64 (-p.b0), .int .i64 p.b1, .int .i64 (-p.c0), .int .i64 p.c1], .int .i64 X.2.2]) (by simp [results, Try.results36, go_sem, g0, g1, g2, g3, g4, g5, g6, g7]) rfl ⟨rfl, hBB⟩
 ·rw [if_pos (by rfl)]
  go_split_ands
  go_wp2_with fail
  have hB1 := below_a (.cells #[.int .i64 0, .int .i64 0] 29) hB0
  have FBy := FI.new w0 29
  obtain ⟨By, hBy⟩ : ∃ b, w0.heap.size = b := ⟨_, rfl⟩
  have hloBy : W0.heap.size ≤ By := by have := hB0.size; omega
  simp only [hBy] at FBy ⊢
  generalize w0.alloc (.cells #[.int .i64 0, .int .i64 0] 29) = w1 at *
  refine hK.out _ _ (HS.out _ hB1) (fun hHeld => ?_)
  clear hK K
  try simp only [Act.put, List.setIfInBounds_toArray, List.set_cons_zero, List.set_cons_succ]
  have bltBy := FBy.2.2.2.2
  refine wpAnyH_ready (rs := [1]) (by kernel_rfl) (by simp) ?_
  refine tkC (fun K hK => ?_) (AllReadyH.nil)
  go_simp
  (go_at_call 31; go_split_ands; (with_reducible refine (mof_any f _).mono ?_); rintro e w2 ⟨rfl, hb2⟩)
  go_wp2_with fail
  have hB2 := hB1.trans (hb2.mono hB1.size)
  have FBy := FBy.carry hb2
  refine hK.out _ _ (HS.out _ hB2) (fun hHeld => ?_)
  clear hK K
  try simp only [Act.put, List.setIfInBounds_toArray, List.set_cons_zero, List.set_cons_succ]
  have bltBy := FBy.2.2.2.2
  refine wpAnyH_ready (rs := [4]) (by kernel_rfl) (by simp) ?_
  refine tkC (fun K hK => ?_) (AllReadyH.nil)
  go_simp
  (go_at_call 33; go_split_ands; (with_reducible refine (HA.out _).mono ?_); rintro e w3 ⟨rfl, hb3⟩)
  go_wp2_with fail
  have hB3 := hB2.trans (hb3.mono hB2.size)
  have FBy := FBy.carry hb3
  refine hK.out _ _ (HS.out _ hB3) (fun hHeld => ?_)
  clear hK K
  try simp only [Act.put, List.setIfInBounds_toArray, List.set_cons_zero, List.set_cons_succ]
  have bltBy := FBy.2.2.2.2
  refine tkA 5 ?_
  simp only [Act.put, List.setIfInBounds_toArray, List.set_cons_zero, List.set_cons_succ]
  refine tkA 6 ?_
  simp only [Act.put, List.setIfInBounds_toArray, List.set_cons_zero, List.set_cons_succ]
  refine tkA 7 ?_
  simp only [Act.put, List.setIfInBounds_toArray, List.set_cons_zero, List.set_cons_succ]
  refine wpAnyH_ready (rs := [9]) (by kernel_rfl) (by simp) ?_
  refine tkC (fun K hK => ?_) (AllReadyH.nil)
  rw [if_pos (by rfl)]
  go_split_ands
  obtain ⟨fa, fb, fc, fd, fe⟩ := FBy
  go_wp2_with fail
  have hB4 := below_s ⟨By, 1, none⟩ (.int .i64 (X.2.1)) (below_s ⟨By, 0, none⟩ (.int .i64 (X.1)) hB3 hloBy) hloBy
  have FBy := FI.set ⟨fa, fb, fc, fd, fe⟩ (X.1) (X.2.1)
  clear fa fb fc fd fe
  generalize ((w3.setCell ⟨By, 0, none⟩ (.int .i64 (X.1))).setCell ⟨By, 1, none⟩ (.int .i64 (X.2.1))) = w4 at *
  refine hK.out _ _ (HS.out _ hB4) (fun hHeld => ?_)
  clear hK K
  try simp only [Act.put, List.setIfInBounds_toArray, List.set_cons_zero, List.set_cons_succ]
  have bltBy := FBy.2.2.2.2
  refine tkA 10 ?_
  simp only [Act.put, List.setIfInBounds_toArray, List.set_cons_zero, List.set_cons_succ]
  refine wpAnyH_done (by kernel_rfl) ?_ _
  have hB := hB4
  refine NoPanic.normal ?_
  have t0 := FBy.1
  have t1 := FBy.2.1
  have HRX := Lib.hid (HRR.out.carry hB)
  obtain ⟨p0, p1, p2, p3, p4, p5, p6, p7, pf⟩ := HP.out.carry hB
  obtain ⟨r0, r1, r2, r3, r4, r5, r6, r7, rf⟩ := HRX.out
  go_wp2_with fail
  have hq := pc_from ⟨p.f0, p.f1, X.1, X.2.1, -p.b0, p.b1, -p.c0, p.c1⟩ ((((HRX.out.far (b2 := w.heap.size) (j := 2) (by omega) (.int .i64 X.1)).far (b2 := w.heap.size) (j := 3) (by omega) (.int .i64 X.2.1)).far (b2 := w.heap.size) (j := 4) (by omega) (.int .i64 (-p.b0))).far (b2 := w.heap.size) (j := 6) (by omega) (.int .i64 (-p.c0)))
  have hBB := below_from (m := w.heap.size) (b := w.heap.size + 1) (W := w) [.int .i64 p.f0, .int .i64 p.f1, .int .i64 X.1, .int .i64 X.2.1, .int .i64 (-p.b0), .int .i64 p.b1, .int .i64 (-p.c0), .int .i64 p.c1] _ 0 (below_s ⟨w.heap.size, 6, none⟩ (.int .i64 (-p.c0)) (below_s ⟨w.heap.size, 4, none⟩ (.int .i64 (-p.b0)) (below_s ⟨w.heap.size, 3, none⟩ (.int .i64 X.2.1) (below_s ⟨w.heap.size, 2, none⟩ (.int .i64 X.1) (hW0.trans (hB.mono hW0.size)) (Nat.le_refl _)) (Nat.le_refl _)) (Nat.le_refl _)) (Nat.le_refl _)) (Nat.le_succ _)
  show bodyPost _ _ _ Exit.ret _ (setFrom ((((w4.setCell ⟨w.heap.size, 2, none⟩ (.int .i64 X.1)).setCell ⟨w.heap.size, 3, none⟩ (.int .i64 X.2.1)).setCell ⟨w.heap.size, 4, none⟩ (.int .i64 (-p.b0))).setCell ⟨w.heap.size, 6, none⟩ (.int .i64 (-p.c0))) (w.heap.size + 1) 0 [.int .i64 p.f0, .int .i64 p.f1, .int .i64 X.1, .int .i64 X.2.1, .int .i64 (-p.b0), .int .i64 p.b1, .int .i64 (-p.c0), .int .i64 p.c1])
  have hq : (setFrom ((((w4.setCell ⟨w.heap.size, 2, none⟩ (.int .i64 X.1)).setCell ⟨w.heap.size, 3, none⟩ (.int .i64 X.2.1)).setCell ⟨w.heap.size, 4, none⟩ (.int .i64 (-p.b0))).setCell ⟨w.heap.size, 6, none⟩ (.int .i64 (-p.c0))) (w.heap.size + 1) 0 [.int .i64 p.f0, .int .i64 p.f1, .int .i64 X.1, .int .i64 X.2.1, .int .i64 (-p.b0), .int .i64 p.b1, .int .i64 (-p.c0), .int .i64 p.c1]).cell? ⟨w.heap.size + 1, 0, none⟩ = some (.int .i64 p.f0) ∧ (setFrom ((((w4.setCell ⟨w.heap.size, 2, none⟩ (.int .i64 X.1)).setCell ⟨w.heap.size, 3, none⟩ (.int .i64 X.2.1)).setCell ⟨w.heap.size, 4, none⟩ (.int .i64 (-p.b0))).setCell ⟨w.heap.size, 6, none⟩ (.int .i64 (-p.c0))) (w.heap.size + 1) 0 [.int .i64 p.f0, .int .i64 p.f1, .int .i64 X.1, .int .i64 X.2.1, .int .i64 (-p.b0), .int .i64 p.b1, .int .i64 (-p.c0), .int .i64 p.c1]).cell? ⟨w.heap.size + 1, 1, none⟩ = some (.int .i64 p.f1) ∧ (setFrom ((((w4.setCell ⟨w.heap.size, 2, none⟩ (.int .i64 X.1)).setCell ⟨w.heap.size, 3, none⟩ (.int .i64 X.2.1)).setCell ⟨w.heap.size, 4, none⟩ (.int .i64 (-p.b0))).setCell ⟨w.heap.size, 6, none⟩ (.int .i64 (-p.c0))) (w.heap.size + 1) 0 [.int .i64 p.f0, .int .i64 p.f1, .int .i64 X.1, .int .i64 X.2.1, .int .i64 (-p.b0), .int .i64 p.b1, .int .i64 (-p.c0), .int .i64 p.c1]).cell? ⟨w.heap.size + 1, 2, none⟩ = some (.int .i64 X.1) ∧ (setFrom ((((w4.setCell ⟨w.heap.size, 2, none⟩ (.int .i64 X.1)).setCell ⟨w.heap.size, 3, none⟩ (.int .i64 X.2.1)).setCell ⟨w.heap.size, 4, none⟩ (.int .i64 (-p.b0))).setCell ⟨w.heap.size, 6, none⟩ (.int .i64 (-p.c0))) (w.heap.size + 1) 0 [.int .i64 p.f0, .int .i64 p.f1, .int .i64 X.1, .int .i64 X.2.1, .int .i64 (-p.b0), .int .i64 p.b1, .int .i64 (-p.c0), .int .i64 p.c1]).cell? ⟨w.heap.size + 1, 3, none⟩ = some (.int .i64 X.2.1) ∧ (setFrom ((((w4.setCell ⟨w.heap.size, 2, none⟩ (.int .i64 X.1)).setCell ⟨w.heap.size, 3, none⟩ (.int .i64 X.2.1)).setCell ⟨w.heap.size, 4, none⟩ (.int .i64 (-p.b0))).setCell ⟨w.heap.size, 6, none⟩ (.int .i64 (-p.c0))) (w.heap.size + 1) 0 [.int .i64 p.f0, .int .i64 p.f1, .int .i64 X.1, .int .i64 X.2.1, .int .i64 (-p.b0), .int .i64 p.b1, .int .i64 (-p.c0), .int .i64 p.c1]).cell? ⟨w.heap.size + 1, 4, none⟩ = some (.int .i64 (-p.b0)) ∧ (setFrom ((((w4.setCell ⟨w.heap.size, 2, none⟩ (.int .i64 X.1)).setCell ⟨w.heap.size, 3, none⟩ (.int .i64 X.2.1)).setCell ⟨w.heap.size, 4, none⟩ (.int .i64 (-p.b0))).setCell ⟨w.heap.size, 6, none⟩ (.int .i64 (-p.c0))) (w.heap.size + 1) 0 [.int .i64 p.f0, .int .i64 p.f1, .int .i64 X.1, .int .i64 X.2.1, .int .i64 (-p.b0), .int .i64 p.b1, .int .i64 (-p.c0), .int .i64 p.c1]).cell? ⟨w.heap.size + 1, 5, none⟩ = some (.int .i64 p.b1) ∧ (setFrom ((((w4.setCell ⟨w.heap.size, 2, none⟩ (.int .i64 X.1)).setCell ⟨w.heap.size, 3, none⟩ (.int .i64 X.2.1)).setCell ⟨w.heap.size, 4, none⟩ (.int .i64 (-p.b0))).setCell ⟨w.heap.size, 6, none⟩ (.int .i64 (-p.c0))) (w.heap.size + 1) 0 [.int .i64 p.f0, .int .i64 p.f1, .int .i64 X.1, .int .i64 X.2.1, .int .i64 (-p.b0), .int .i64 p.b1, .int .i64 (-p.c0), .int .i64 p.c1]).cell? ⟨w.heap.size + 1, 6, none⟩ = some (.int .i64 (-p.c0)) ∧ (setFrom ((((w4.setCell ⟨w.heap.size, 2, none⟩ (.int .i64 X.1)).setCell ⟨w.heap.size, 3, none⟩ (.int .i64 X.2.1)).setCell ⟨w.heap.size, 4, none⟩ (.int .i64 (-p.b0))).setCell ⟨w.heap.size, 6, none⟩ (.int .i64 (-p.c0))) (w.heap.size + 1) 0 [.int .i64 p.f0, .int .i64 p.f1, .int .i64 X.1, .int .i64 X.2.1, .int .i64 (-p.b0), .int .i64 p.b1, .int .i64 (-p.c0), .int .i64 p.c1]).cell? ⟨w.heap.size + 1, 7, none⟩ = some (.int .i64 p.c1) := hq
  generalize setFrom ((((w4.setCell ⟨w.heap.size, 2, none⟩ (.int .i64 X.1)).setCell ⟨w.heap.size, 3, none⟩ (.int .i64 X.2.1)).setCell ⟨w.heap.size, 4, none⟩ (.int .i64 (-p.b0))).setCell ⟨w.heap.size, 6, none⟩ (.int .i64 (-p.c0))) (w.heap.size + 1) 0 [.int .i64 p.f0, .int .i64 p.f1, .int .i64 X.1, .int .i64 X.2.1, .int .i64 (-p.b0), .int .i64 p.b1, .int .i64 (-p.c0), .int .i64 p.c1] = WF at *
  obtain ⟨g0, g1, g2, g3, g4, g5, g6, g7⟩ := hq
  exact bodyPost_ret (v := .tuple #[.agg #[.int .i64 p.f0, .int .i64 p.f1, .int .i64 X.1, .int .i64 X.2.1, .int .i64 (-p.b0), .int .i64 p.b1, .int .i64 (-p.c0), .int .i64 p.c1], .int .i64 X.2.2]) (by simp [results, Try.results36, go_sem, g0, g1, g2, g3, g4, g5, g6, g7]) rfl ⟨rfl, hBB⟩
end Go.Proofs.Ytbgkgahmicepdaa
namespace Go.Proofs.Ytbgkgahmicepdaa
theorem fit_valid2 {p q : Int} (hq : 0 < q) (c : Int.gcd p q = 1) (h : (fitP p q).2.2 = 0) : vF ((fitP p q).1, (fitP p q).2.1) = true ∧ ((fitP p q).1, (fitP p q).2.1) = (p, q) := by
 obtain ⟨e, v⟩ := fit_ok hq c h
 rw [e]
 exact ⟨v, rfl⟩
theorem mulP_ok {a b : Int × Int} (ha : 0 < a.2) (hb : 0 < b.2) (h : (mulP a.1 a.2 b.1 b.2).2.2 = 0) : vF ((mulP a.1 a.2 b.1 b.2).1, (mulP a.1 a.2 b.1 b.2).2.1) = true ∧ fr ((mulP a.1 a.2 b.1 b.2).1, (mulP a.1 a.2 b.1 b.2).2.1) = fr a * fr b := by
 obtain ⟨v, e⟩ := fit_valid2 (lowD_pos (Int.mul_pos ha hb)) (low_cop (Int.mul_pos ha hb)) (h : (fitP _ _).2.2 = 0)
 exact ⟨v, by rw [← frq_times ha hb]; exact congrArg fr e⟩
theorem addP_ok {a b : Int × Int} (ha : 0 < a.2) (hb : 0 < b.2) (h : (addP a.1 a.2 b.1 b.2).2.2 = 0) : vF ((addP a.1 a.2 b.1 b.2).1, (addP a.1 a.2 b.1 b.2).2.1) = true ∧ fr ((addP a.1 a.2 b.1 b.2).1, (addP a.1 a.2 b.1 b.2).2.1) = fr a + fr b := by
 obtain ⟨v, e⟩ := fit_valid2 (lowD_pos (Int.mul_pos ha hb)) (low_cop (Int.mul_pos ha hb)) (h : (fitP _ _).2.2 = 0)
 exact ⟨v, by rw [← frq_add ha hb]; exact congrArg fr e⟩
theorem addP_err (a b c d : Int) : (addP a b c d).2.2 = 0 ∨ (addP a b c d).2.2 = 5 := fit_valid
theorem mulP_err (a b c d : Int) : (mulP a b c d).2.2 = 0 ∨ (mulP a b c d).2.2 = 5 := fit_valid
structure PSm (p : Pc) : Prop where
 a : -1099511627776 ≤ p.a0 ∧ p.a0 ≤ 1099511627776 ∧ 1 ≤ p.a1 ∧ p.a1 ≤ 65536
 b : -8192 ≤ p.b0 ∧ p.b0 ≤ 8192
 c : -16384 ≤ p.c0 ∧ p.c0 ≤ 16384
theorem add_small {f n d : Int} (hf : -1048576 ≤ f ∧ f ≤ 1048576) (hn : -1099511627776 ≤ n ∧ n ≤ 1099511627776) (hd : 1 ≤ d ∧ d ≤ 65536) : (addP f 1 n d).2.2 = 0 := by
 unfold addP
 have e1 : f * d ≤ 1048576 * 65536 := by
  rcases Int.lt_or_le f 0 with l | l
  ·have := Int.mul_neg_of_neg_of_pos l (show 0 < d by omega); omega
  ·exact Int.mul_le_mul hf.2 hd.2 (by omega) (by decide)
 have e2 : -(1048576 * 65536) ≤ f * d := by
  rcases Int.lt_or_le f 0 with l | l
  ·have := Int.mul_le_mul (show -f ≤ 1048576 by omega) hd.2 (by omega) (by decide)
   rw [Int.neg_mul] at this
   omega
  ·have := Int.mul_nonneg l (show 0 ≤ d by omega); omega
 rw [fit_low (by omega) (by omega) (by omega) (by omega)]
def wayP (up : Bool) (f : Int) (p : Pc) : Pc := if up then (upP f p).1 else (downP f p).1
def pathL (up : Bool) (f : Int) (L : List Pc) : List Pc := L.map (wayP up f)
theorem path_len (up : Bool) (f : Int) (L : List Pc) : (pathL up f L).length = L.length := by simp [pathL]
theorem path_at {up : Bool} {f : Int} {L : List Pc} {i : Nat} (h : i < L.length) : pcg (pathL up f L) i = wayP up f (pcg L i) := by
 rw [pcg_eq _ i (by rw [path_len]; exact h), pcg_eq _ i h]
 simp [pathL]
theorem up_ok {f : Int} {p : Pc} (hf : -1048576 ≤ f ∧ f ≤ 1048576) (s : PSm p) : (upP f p).2 = 0 := add_small hf ⟨s.a.1, s.a.2.1⟩ s.a.2.2
theorem down_ok {f : Int} {p : Pc} (hf : -1048576 ≤ f ∧ f ≤ 1048576) (s : PSm p) : (downP f p).2 = 0 := add_small hf ⟨by have := s.a; omega, by have := s.a; omega⟩ s.a.2.2
def mir (up : Bool) (f : Rat) (q : QP) : QP := if up then ⟨q.f, f + q.a, q.b, q.c⟩ else ⟨q.f, f - q.a, -q.b, -q.c⟩
theorem way_qp {up : Bool} {f : Int} {p : Pc} (hf : -1048576 ≤ f ∧ f ≤ 1048576) (s : PSm p) : qp (wayP up f p) = mir up (f : Rat) (qp p) ∧ validF (wayP up f p).a0 (wayP up f p).a1 = true := by
 have d1 : (0 : Int) < ((f, 1) : Int × Int).2 := by show (0 : Int) < 1; decide
 cases up
 ·obtain ⟨v, e⟩ := addP_ok (a := (f, 1)) (b := (-p.a0, p.a1)) d1 (show 0 < p.a1 by have := s.a; omega) (down_ok hf s)
  refine ⟨?_, v⟩
  unfold wayP mir qp
  simp only [Bool.false_eq_true, if_false]
  show (⟨fr (p.f0, p.f1), fr ((addP f 1 (-p.a0) p.a1).1, (addP f 1 (-p.a0) p.a1).2.1), fr (-p.b0, p.b1), fr (-p.c0, p.c1)⟩ : QP) = _
  rw [show fr ((addP f 1 (-p.a0) p.a1).1, (addP f 1 (-p.a0) p.a1).2.1) = fr (f, 1) + fr (-p.a0, p.a1) from e, frq_one, show fr (-p.a0, p.a1) = -fr (p.a0, p.a1) from frq_neg (p.a0, p.a1), show fr (-p.b0, p.b1) = -fr (p.b0, p.b1) from frq_neg (p.b0, p.b1), show fr (-p.c0, p.c1) = -fr (p.c0, p.c1) from frq_neg (p.c0, p.c1), Rat.sub_eq_add_neg]
 ·obtain ⟨v, e⟩ := addP_ok (a := (f, 1)) (b := (p.a0, p.a1)) d1 (show 0 < p.a1 by have := s.a; omega) (up_ok hf s)
  refine ⟨?_, v⟩
  unfold wayP mir qp
  simp only [if_true]
  show (⟨fr (p.f0, p.f1), fr ((addP f 1 p.a0 p.a1).1, (addP f 1 p.a0 p.a1).2.1), fr (p.b0, p.b1), fr (p.c0, p.c1)⟩ : QP) = _
  rw [show fr ((addP f 1 p.a0 p.a1).1, (addP f 1 p.a0 p.a1).2.1) = fr (f, 1) + fr (p.a0, p.a1) from e, frq_one]
theorem valid_negF {n d : Int} (h : validF n d = true) : validF (-n) d = true := by
 obtain ⟨h1, h2, h3, h4, h5⟩ := (validF_iff _ _).1 h
 exact (validF_iff _ _).2 ⟨h1, h2, by omega, by omega, by rw [Int.neg_gcd]; exact h5⟩
theorem path_ok {up : Bool} {f : Int} {L : List Pc} (hf : -1048576 ≤ f ∧ f ≤ 1048576) (ok : CurveOK L) (s : ∀ i, i < L.length → PSm (pcg L i)) : CurveOK (pathL up f L) := by
 refine ⟨by rw [path_len]; exact ok.pos, by rw [path_len]; exact ok.len, fun i hi => ?_, fun i hi => ?_⟩
 ·have hi' : i < L.length := by rwa [path_len] at hi
  have v := ok.val i hi'
  rw [path_at hi']
  have w := (way_qp (up := up) hf (s i hi')).2
  refine ⟨?_, w, ?_, ?_⟩
  ·cases up <;> exact v.f
  ·cases up
   ·exact valid_negF v.b
   ·exact v.b
  ·cases up
   ·exact valid_negF v.c
   ·exact v.c
 ·have hi' : i + 1 < L.length := by rwa [path_len] at hi
  rw [path_at (by omega), path_at hi']
  have a := ok.asc i hi'
  cases up <;> exact a
theorem path_q {up : Bool} {f : Int} {L : List Pc} (hf : -1048576 ≤ f ∧ f ≤ 1048576) (s : ∀ i, i < L.length → PSm (pcg L i)) : qL (pathL up f L) = (qL L).map (mir up (f : Rat)) := by
 refine List.ext_getElem (by rw [qL_len, path_len, List.length_map, qL_len]) fun i h1 h2 => ?_
 have hi : i < L.length := by rwa [qL_len, path_len] at h1
 rw [qL_get, path_at hi, (way_qp hf (s i hi)).1, List.getElem_map, qL_get]
theorem mir_v (up : Bool) (f t : Rat) (q : QP) : qv (mir up f q) t = if up then f + qv q t else f - qv q t := by
 cases up
 ·simp only [mir, qv, Bool.false_eq_true, if_false]; grind
 ·simp only [mir, qv, if_true]; grind
theorem mir_s (up : Bool) (f t : Rat) (q : QP) : qs (mir up f q) t = if up then qs q t else -qs q t := by
 cases up
 ·simp only [mir, qs, Bool.false_eq_true, if_false]; grind
 ·simp only [mir, qs, if_true]
theorem mir_f (up : Bool) (f : Rat) (q : QP) : (mir up f q).f = q.f := by cases up <;> rfl
theorem mir_a (up : Bool) (f : Rat) (q : QP) : (mir up f q).a = if up then f + q.a else f - q.a := by cases up <;> rfl
theorem path_atL (up : Bool) (f t : Rat) : ∀ Q : List QP, 0 < Q.length → atL (Q.map (mir up f)) t = (if up then f + atL Q t else f - atL Q t) ∧ slL (Q.map (mir up f)) t = (if up then slL Q t else -slL Q t)
 | [p], _ => by
  simp only [List.map_cons, List.map_nil, atL, slL, mir_f]
  by_cases c : p.f ≤ t
  ·simp only [if_pos c, mir_v, mir_s]; exact ⟨trivial, trivial⟩
  ·simp only [if_neg c, mir_a]
   cases up
   ·simp only [Bool.false_eq_true, if_false]; exact ⟨trivial, by grind⟩
   ·simp only [if_true]; exact ⟨trivial, trivial⟩
 | p :: q :: r, _ => by
  have ih := path_atL up f t (q :: r) (by simp)
  simp only [List.map_cons, atL, slL, mir_f] at ih ⊢
  by_cases c : q.f ≤ t
  ·simp only [if_pos c]; exact ih
  ·by_cases d : p.f ≤ t
   ·simp only [if_neg c, if_pos d, mir_v, mir_s]; exact ⟨trivial, trivial⟩
   ·simp only [if_neg c, if_neg d, mir_a]
    cases up
    ·simp only [Bool.false_eq_true, if_false]; exact ⟨trivial, by grind⟩
    ·simp only [if_true]; exact ⟨trivial, trivial⟩
theorem abs_low {n d : Int} (b : Int) (h : -b ≤ n ∧ n ≤ b) : -b ≤ lowN n d ∧ lowN n d ≤ b := by
 have := lowN_le n d
 omega
theorem curve_small {d : Int} {m : Mv} {t : Int} (hg : givenP d m = 0) (ht : IsTop d m.spd m.rise m.fall t) : ∀ i, i < (curveL d m.rise m.fall t).length → PSm (pcg (curveL d m.rise m.fall t) i) := by
 obtain ⟨hv, hd⟩ := given_ok hg
 obtain ⟨V0, V1, R0, R1, F0, F1⟩ := valid_bds hv
 obtain ⟨d1, d2⟩ := inB_iff.1 hd
 by_cases hz : d = 0
 ·have e : curveL d m.rise m.fall t = [⟨0, 1, 0, 1, 0, 1, 0, 1⟩] := by unfold curveL; rw [if_pos hz]
  rw [e]
  intro i hi
  obtain rfl : i = 0 := by simpa using hi
  exact ⟨by decide, by decide, by decide⟩
 ·have t0 := top_pos (by omega) R0 F0 V0 ht
  have t1 : t ≤ 8192 := by have := ht.2.1; omega
  obtain ⟨T0, T1, k0, k1, rf0, rf1, w0, w1, a0, a1, b0, b1, c0, c1, e0, e1⟩ := curve_b (by omega) d2 R0 R1 F0 F1 V0 V1 ht
  have l1 := lowD_le (n := t * t) (d := 2 * m.rise) (by omega)
  have l2 := lowD_pos (n := t * t) (d := 2 * m.rise) (by omega)
  have l3 := lowD_le (n := 2 * m.fall * d - t * t) (d := 2 * m.fall) (by omega)
  have l4 := lowD_pos (n := 2 * m.fall * d - t * t) (d := 2 * m.fall) (by omega)
  have n1 := abs_low (n := t * t) (d := 2 * m.rise) 67108864 (by omega)
  have n2 := abs_low (n := 2 * m.fall * d - t * t) (d := 2 * m.fall) 1099511627776 (by omega)
  have n3 := abs_low (n := m.rise) (d := 2) 16384 (by omega)
  have n4 := abs_low (n := -m.fall) (d := 2) 16384 (by omega)
  have za : -1099511627776 ≤ (0 : Int) ∧ (0 : Int) ≤ 1099511627776 ∧ (1 : Int) ≤ 1 ∧ (1 : Int) ≤ 65536 := by decide
  have zb : -8192 ≤ (0 : Int) ∧ (0 : Int) ≤ 8192 := by decide
  have zc : -16384 ≤ (0 : Int) ∧ (0 : Int) ≤ 16384 := by decide
  have p0 : PSm ⟨0, 1, 0, 1, 0, 1, lowN m.rise 2, lowD m.rise 2⟩ := ⟨za, zb, n3⟩
  have p1 : PSm ⟨lowN t m.rise, lowD t m.rise, lowN (t * t) (2 * m.rise), lowD (t * t) (2 * m.rise), t, 1, 0, 1⟩ := ⟨by show -1099511627776 ≤ lowN (t * t) (2 * m.rise) ∧ lowN (t * t) (2 * m.rise) ≤ 1099511627776 ∧ 1 ≤ lowD (t * t) (2 * m.rise) ∧ lowD (t * t) (2 * m.rise) ≤ 65536; omega, by show -8192 ≤ t ∧ t ≤ 8192; omega, zc⟩
  have p2 : PSm ⟨lowN (2 * m.fall * (t * t) + kP d m.rise m.fall t) (2 * m.rise * m.fall * t), lowD (2 * m.fall * (t * t) + kP d m.rise m.fall t) (2 * m.rise * m.fall * t), lowN (2 * m.fall * d - t * t) (2 * m.fall), lowD (2 * m.fall * d - t * t) (2 * m.fall), t, 1, lowN (-m.fall) 2, lowD (-m.fall) 2⟩ := ⟨by show -1099511627776 ≤ lowN (2 * m.fall * d - t * t) (2 * m.fall) ∧ lowN (2 * m.fall * d - t * t) (2 * m.fall) ≤ 1099511627776 ∧ 1 ≤ lowD (2 * m.fall * d - t * t) (2 * m.fall) ∧ lowD (2 * m.fall * d - t * t) (2 * m.fall) ≤ 65536; omega, by show -8192 ≤ t ∧ t ≤ 8192; omega, n4⟩
  have p3 : PSm ⟨lowN (2 * m.fall * (t * t) + kP d m.rise m.fall t + 2 * m.rise * (t * t)) (2 * m.rise * m.fall * t), lowD (2 * m.fall * (t * t) + kP d m.rise m.fall t + 2 * m.rise * (t * t)) (2 * m.rise * m.fall * t), d, 1, 0, 1, 0, 1⟩ := ⟨by show -1099511627776 ≤ d ∧ d ≤ 1099511627776 ∧ (1 : Int) ≤ 1 ∧ (1 : Int) ≤ 65536; omega, zb, zc⟩
  by_cases kz : kP d m.rise m.fall t = 0
  ·unfold curveL
   rw [if_neg hz, if_pos kz]
   intro i hi
   have hi' : i < 3 := by simpa using hi
   obtain rfl | rfl | rfl : i = 0 ∨ i = 1 ∨ i = 2 := by omega
   ·exact p0
   ·exact p2
   ·exact p3
  ·unfold curveL
   rw [if_neg hz, if_neg kz]
   intro i hi
   have hi' : i < 4 := by simpa using hi
   obtain rfl | rfl | rfl | rfl : i = 0 ∨ i = 1 ∨ i = 2 ∨ i = 3 := by omega
   ·exact p0
   ·exact p1
   ·exact p2
   ·exact p3
end Go.Proofs.Ytbgkgahmicepdaa
namespace Go.Proofs.Ytbgkgahmicepdaa
open Go.RowKit Go.Shelf
attribute [local go_sem] Oper.semAt_some
structure Rowz (w : World) (b : Nat) (M : List Pc) : Prop where
 cells : ∀ i, i < M.length → w.cell? ⟨b, i * 8, none⟩ = some (.int .i64 (pcg M i).f0) ∧ w.cell? ⟨b, i * 8 + 1, none⟩ = some (.int .i64 (pcg M i).f1) ∧ w.cell? ⟨b, i * 8 + 2, none⟩ = some (.int .i64 (pcg M i).a0) ∧ w.cell? ⟨b, i * 8 + 3, none⟩ = some (.int .i64 (pcg M i).a1) ∧ w.cell? ⟨b, i * 8 + 4, none⟩ = some (.int .i64 (pcg M i).b0) ∧ w.cell? ⟨b, i * 8 + 5, none⟩ = some (.int .i64 (pcg M i).b1) ∧ w.cell? ⟨b, i * 8 + 6, none⟩ = some (.int .i64 (pcg M i).c0) ∧ w.cell? ⟨b, i * 8 + 7, none⟩ = some (.int .i64 (pcg M i).c1)
 free : ∀ o, w.frozen? ⟨b, o, none⟩ = false
 lt : b < w.heap.size
theorem Rowz.carry {w w' : World} {b : Nat} {M : List Pc} (h : Rowz w b M) (hb : Below w.heap.size w w') : Rowz w' b M :=
 ⟨fun i hi => by
  obtain ⟨c0, c1, c2, c3, c4, c5, c6, c7⟩ := h.cells i hi
  exact ⟨(hb.cell (p := ⟨b, _, none⟩) h.lt).trans c0, (hb.cell (p := ⟨b, _, none⟩) h.lt).trans c1, (hb.cell (p := ⟨b, _, none⟩) h.lt).trans c2, (hb.cell (p := ⟨b, _, none⟩) h.lt).trans c3, (hb.cell (p := ⟨b, _, none⟩) h.lt).trans c4, (hb.cell (p := ⟨b, _, none⟩) h.lt).trans c5, (hb.cell (p := ⟨b, _, none⟩) h.lt).trans c6, (hb.cell (p := ⟨b, _, none⟩) h.lt).trans c7⟩, fun o => (hb.frozen (p := ⟨b, o, none⟩) h.lt).trans (h.free o), Nat.lt_of_lt_of_le h.lt hb.size⟩
theorem beyond_from : ∀ (vs : List Value) (w : World) (b j i : Nat), j + vs.length ≤ i → (setFrom w b j vs).cell? ⟨b, i, none⟩ = w.cell? ⟨b, i, none⟩
 | [], _, _, _, _, _ => rfl
 | v :: vs, w, b, j, i, h => by
  simp only [List.length_cons] at h
  exact (beyond_from vs _ b (j + 1) i (by omega)).trans (World.cell?_setCell_other _ _ _ _ (by intro q; injection q with _ q; omega))
theorem frozen_from : ∀ (vs : List Value) (w : World) (b j : Nat) (a : Addr), (setFrom w b j vs).frozen? a = w.frozen? a
 | [], _, _, _, _ => rfl
 | v :: vs, w, b, j, a => (frozen_from vs _ b (j + 1) a).trans (by simp)
theorem size_from : ∀ (vs : List Value) (w : World) (b j : Nat), (setFrom w b j vs).heap.size = w.heap.size
 | [], _, _, _ => rfl
 | v :: vs, w, b, j => (size_from vs _ b (j + 1)).trans (by simp [World.setCell])
theorem pcg_set {M : List Pc} {k i : Nat} {q : Pc} (hk : k < M.length) : pcg (M.set k q) i = if i = k then q else pcg M i := by
 unfold pcg
 by_cases e : i = k
 ·subst e
  rw [if_pos rfl, List.getElem?_set_self hk]
  rfl
 ·rw [if_neg e, List.getElem?_set_ne (fun x => e x.symm)]
theorem Rowz.set {w : World} {b k : Nat} {M : List Pc} (h : Rowz w b M) (hk : k < M.length) (q : Pc) : Rowz (setFrom w b (k * 8) [.int .i64 q.f0, .int .i64 q.f1, .int .i64 q.a0, .int .i64 q.a1, .int .i64 q.b0, .int .i64 q.b1, .int .i64 q.c0, .int .i64 q.c1]) b (M.set k q) := by
 have hs : ∀ i, i < ([.int .i64 q.f0, .int .i64 q.f1, .int .i64 q.a0, .int .i64 q.a1, .int .i64 q.b0, .int .i64 q.b1, .int .i64 q.c0, .int .i64 q.c1] : List Value).length → (w.cell? ⟨b, k * 8 + i, none⟩).isSome = true := by
  intro i hi
  have hi' : i < 8 := hi
  obtain ⟨c0, c1, c2, c3, c4, c5, c6, c7⟩ := h.cells k hk
  obtain rfl | rfl | rfl | rfl | rfl | rfl | rfl | rfl : i = 0 ∨ i = 1 ∨ i = 2 ∨ i = 3 ∨ i = 4 ∨ i = 5 ∨ i = 6 ∨ i = 7 := by omega
  ·rw [Nat.add_zero, c0]; rfl
  ·rw [c1]; rfl
  ·rw [c2]; rfl
  ·rw [c3]; rfl
  ·rw [c4]; rfl
  ·rw [c5]; rfl
  ·rw [c6]; rfl
  ·rw [c7]; rfl
 have r := read_from ([.int .i64 q.f0, .int .i64 q.f1, .int .i64 q.a0, .int .i64 q.a1, .int .i64 q.b0, .int .i64 q.b1, .int .i64 q.c0, .int .i64 q.c1] : List Value) w b (k * 8) hs
 refine ⟨fun i hi => ?_, fun o => (frozen_from _ _ _ _ _).trans (h.free o), by rw [size_from]; exact h.lt⟩
 rw [List.length_set] at hi
 rw [pcg_set hk]
 by_cases e : i = k
 ·subst e
  simp only [if_true]
  exact ⟨r 0 (by simp), r 1 (by simp), r 2 (by simp), r 3 (by simp), r 4 (by simp), r 5 (by simp), r 6 (by simp), r 7 (by simp)⟩
 ·simp only [if_neg e]
  obtain ⟨c0, c1, c2, c3, c4, c5, c6, c7⟩ := h.cells i hi
  have same : ∀ o, i * 8 ≤ o → o < i * 8 + 8 → (setFrom w b (k * 8) [.int .i64 q.f0, .int .i64 q.f1, .int .i64 q.a0, .int .i64 q.a1, .int .i64 q.b0, .int .i64 q.b1, .int .i64 q.c0, .int .i64 q.c1]).cell? ⟨b, o, none⟩ = w.cell? ⟨b, o, none⟩ := fun o h1 h2 => by
   rcases Nat.lt_or_ge o (k * 8) with l | l
   ·exact far_from _ _ _ _ _ l
   ·exact beyond_from _ _ _ _ _ (by simp only [List.length_cons, List.length_nil]; omega)
  exact ⟨(same _ (by omega) (by omega)).trans c0, (same _ (by omega) (by omega)).trans c1, (same _ (by omega) (by omega)).trans c2, (same _ (by omega) (by omega)).trans c3, (same _ (by omega) (by omega)).trans c4, (same _ (by omega) (by omega)).trans c5, (same _ (by omega) (by omega)).trans c6, (same _ (by omega) (by omega)).trans c7⟩
theorem Rowz.pcs {w : World} {b : Nat} {M : List Pc} (h : Rowz w b M) : Pcs w.heap.size w (some ⟨b, 0, none⟩) M := fun _ => by
 refine ⟨b, 0, rfl, h.lt, fun i hi => ?_⟩
 have := h.cells i hi
 simpa only [Nat.zero_add] using this
theorem made_zero (n o : Nat) (h : o < n * 8) : (madeCells #[.int .i64 0, .int .i64 0, .int .i64 0, .int .i64 0, .int .i64 0, .int .i64 0, .int .i64 0, .int .i64 0] (n * 8))[o]? = some (.int .i64 0) := by
 unfold madeCells
 rw [Array.getElem?_map, Array.getElem?_range, if_pos h]
 have hm : o % 8 < 8 := Nat.mod_lt _ (by decide)
 show some ((#[.int .i64 0, .int .i64 0, .int .i64 0, .int .i64 0, .int .i64 0, .int .i64 0, .int .i64 0, .int .i64 0] : Array Value)[o % 8]!) = _
 obtain e | e | e | e | e | e | e | e : o % 8 = 0 ∨ o % 8 = 1 ∨ o % 8 = 2 ∨ o % 8 = 3 ∨ o % 8 = 4 ∨ o % 8 = 5 ∨ o % 8 = 6 ∨ o % 8 = 7 := by omega
 all_goals rw [e]; rfl
theorem Rowz.new (w : World) (n : Nat) (t : TypeId) : Rowz (w.alloc (.cells (madeCells #[.int .i64 0, .int .i64 0, .int .i64 0, .int .i64 0, .int .i64 0, .int .i64 0, .int .i64 0, .int .i64 0] (n * 8)) t)) w.heap.size (List.replicate n ⟨0, 0, 0, 0, 0, 0, 0, 0⟩) := by
 have c : ∀ o, o < n * 8 → (w.alloc (.cells (madeCells #[.int .i64 0, .int .i64 0, .int .i64 0, .int .i64 0, .int .i64 0, .int .i64 0, .int .i64 0, .int .i64 0] (n * 8)) t)).cell? ⟨w.heap.size, o, none⟩ = some (.int .i64 0) := fun o ho => by
  rw [cell_of_row _ _ o _ t (0, 0) (heap_alloc_new _ _)]
  exact made_zero n o ho
 refine ⟨fun i hi => ?_, fun o => by simp, by simp⟩
 rw [List.length_replicate] at hi
 have e : pcg (List.replicate n (⟨0, 0, 0, 0, 0, 0, 0, 0⟩ : Pc)) i = ⟨0, 0, 0, 0, 0, 0, 0, 0⟩ := by
  unfold pcg
  rw [List.getElem?_replicate, if_pos hi]
  rfl
 rw [e]
 exact ⟨c _ (by omega), c _ (by omega), c _ (by omega), c _ (by omega), c _ (by omega), c _ (by omega), c _ (by omega), c _ (by omega)⟩
end Go.Proofs.Ytbgkgahmicepdaa
