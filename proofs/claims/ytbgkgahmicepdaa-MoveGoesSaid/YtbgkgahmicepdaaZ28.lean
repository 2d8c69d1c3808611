/-
  THE WALKS of move.given and move.End.
  THE WALK of move.End.
  PLAIN: the time of a move as a fraction in lowest terms; how two times compare; the top speed of a move in a house.
-/
import Derived.Test.YtbgkgahmicepdaaZ20
import Derived.Test.YtbgkgahmicepdaaZ27
import Derived.Test.YtbgkgahmicepdaaZ21
import Derived.Test.YtbgkgahmicepdaaZ25
import Derived.Test.YtbgkgahmicepdaaZ12
namespace Go.Proofs.Ytbgkgahmicepdaa
open Go.RowKit Go.Shelf
attribute [local go_sem] Oper.semAt_some
open Classical in
noncomputable def mgE (h : HouseR) (f : Int) (m : Mv) : Int := if setE h m = 0 then (if reachB (setO h m) f = true ∧ reachB (setO h m) m.to = true then 0 else 2) else setE h m
def mgD (f : Int) (m : Mv) : Int := if f ≤ m.to then m.to - f else f - m.to
open Classical in
noncomputable def mgR (h : HouseR) (f : Int) (m : Mv) : Int := if mgE h f m = 0 then mgD f m else 0
theorem mg_ok {h : HouseR} {f : Int} {m : Mv} (e : mgE h f m = 0) : houseB h = true ∧ validM m = true ∧ 0 ≤ f ∧ f ≤ 1048576 ∧ 0 ≤ m.to ∧ m.to ≤ 1048576 ∧ givenP (mgD f m) m = 0 ∧ 0 ≤ mgD f m ∧ mgD f m ≤ 1048576 ∧ mgR h f m = mgD f m := by
 have hR : mgR h f m = mgD f m := by unfold mgR; rw [if_pos e]
 unfold mgE at e
 by_cases c : setE h m = 0
 ·rw [if_pos c] at e
  obtain ⟨h1, h2, h3, h4, h5⟩ := set_ok c
  by_cases r : reachB (setO h m) f = true ∧ reachB (setO h m) m.to = true
  ·obtain ⟨r1, r2⟩ := r
   unfold reachB at r1 r2
   rw [Bool.and_eq_true, decide_eq_true_eq, decide_eq_true_eq] at r1 r2
   have sk := setB_iff.1 ((houseB_iff.1 h1).2.2.2.2.2 _ h4).1
   rw [← h5] at sk
   obtain ⟨l1, l2, l3⟩ := sk.low
   have d0 : 0 ≤ mgD f m ∧ mgD f m ≤ 1048576 := by unfold mgD; split <;> omega
   refine ⟨h1, h2, by omega, by omega, by omega, by omega, ?_, d0.1, d0.2, hR⟩
   unfold givenP
   rw [if_pos h2, if_pos (inB_iff.2 d0)]
  ·rw [if_neg r] at e; cases e
 ·rw [if_neg c] at e; exact absurd e c
set_option maxRecDepth 100000 in
set_option maxHeartbeats 16000000 in
theorem mgiven_any (h : HouseR) (f : Int) (m : Mv) (w : World) (hh : HouseIn w h) :
  Calls Try.prog 21 #[.agg #[.string h.name, .int .i64 h.height, .slice h.sa h.sets.length h.sc, .slice h.ra h.roofs.length h.rc], .int .i64 f, .agg #[.string m.name, .int .i64 m.to, .int .i64 m.spd, .int .i64 m.rise, .int .i64 m.fall]] w fun e w' => e = .returned (.tuple #[.int .i64 (mgR h f m), .int .i64 (mgE h f m)]) ∧ Below w.heap.size w w' := by
 obtain ⟨x, hx⟩ : ∃ x, setO h m = x := ⟨_, rfl⟩
 obtain ⟨e, he⟩ : ∃ e, setE h m = e := ⟨_, rfl⟩
 have HMS : Hid (∀ w' : World, Below w.heap.size w w' → Calls Try.prog 45 #[.agg #[.string h.name, .int .i64 h.height, .slice h.sa h.sets.length h.sc, .slice h.ra h.roofs.length h.rc], .agg #[.string m.name, .int .i64 m.to, .int .i64 m.spd, .int .i64 m.rise, .int .i64 m.fall]] w' fun z w2 => z = .returned (.tuple #[.agg #[.string x.name, .int .i64 x.depth, .int .i64 x.low, .int .i64 x.high, .int .i64 x.length, .slice x.la x.lines.length x.lc, .int .i64 x.pipe, .int .i64 x.arbor, .int .i64 x.purchase, .int .i64 x.most, .int .i64 x.brake, .slice x.ia x.items.length x.ic, .slice x.ba x.bricks.length x.bc], .int .i64 e]) ∧ Below w'.heap.size w' w2) := Lib.hid fun w' hb => by
  have := mset_any h m w' (hh.grow hb)
  rw [hx, he] at this
  exact this
 clear hh
 have HMG : Hid (mgE h f m = if e = 0 then (if reachB x f = true ∧ reachB x m.to = true then 0 else 2) else e) := Lib.hid (by unfold mgE; rw [he, hx])
 by_cases z : e = 0
 ·subst z
  cases r1 : reachB x f
  ·have HR1 := Lib.hid r1
   have HO : Hid (mgE h f m = 2 ∧ mgR h f m = 0) := Lib.hid (by
    have e2 : mgE h f m = 2 := by rw [HMG.out, if_pos rfl, if_neg (fun q => by rw [r1] at q; exact absurd q.1 (by decide))]
    exact ⟨e2, by unfold mgR; rw [if_neg (by rw [e2]; decide)]⟩)
   rw [HO.out.1, HO.out.2]
   clear r1 hx he
   go_enter Try.func21, Try.ntmps21
   go_upto_region 1 with (fail)
   have hat1 := (HouseAt.new w h 25).carry (below_new (w.alloc (.cells #[.string h.name, .int .i64 h.height, .slice h.sa h.sets.length h.sc, .slice h.ra h.roofs.length h.rc] 25)) (.cells #[.string m.name, .int .i64 m.to, .int .i64 m.spd, .int .i64 m.rise, .int .i64 m.fall] 27))
   have mat1 := MvAt.new (w.alloc (.cells #[.string h.name, .int .i64 h.height, .slice h.sa h.sets.length h.sc, .slice h.ra h.roofs.length h.rc] 25)) m 27
   have hW0 := (below_new w (.cells #[.string h.name, .int .i64 h.height, .slice h.sa h.sets.length h.sc, .slice h.ra h.roofs.length h.rc] 25)).alloc (by simp) (.cells #[.string m.name, .int .i64 m.to, .int .i64 m.spd, .int .i64 m.rise, .int .i64 m.fall] 27)
   have hm1 : (w.alloc (.cells #[.string h.name, .int .i64 h.height, .slice h.sa h.sets.length h.sc, .slice h.ra h.roofs.length h.rc] 25)).heap.size = w.heap.size + 1 := by simp
   rw [hm1] at mat1
   generalize ((w.alloc (.cells #[.string h.name, .int .i64 h.height, .slice h.sa h.sets.length h.sc, .slice h.ra h.roofs.length h.rc] 25)).alloc (.cells #[.string m.name, .int .i64 m.to, .int .i64 m.spd, .int .i64 m.rise, .int .i64 m.fall] 27)) = W0 at *
   have HAT := Lib.hid hat1
   have MAT := Lib.hid mat1
   clear hat1 mat1 hm1
   obtain ⟨k0, k1, k2, k3⟩ := HAT.out
   obtain ⟨m0, m1, m2, m3, m4⟩ := MAT.out
   go_upto_region 2 with (go_at_call 45; (with_reducible refine (HMS.out _ hW0).mono ?_); rintro e w1 ⟨rfl, hb1⟩)
   have hbn := below_new w1 (.cells #[.string x.name, .int .i64 x.depth, .int .i64 x.low, .int .i64 x.high, .int .i64 x.length, .slice x.la x.lines.length x.lc, .int .i64 x.pipe, .int .i64 x.arbor, .int .i64 x.purchase, .int .i64 x.most, .int .i64 x.brake, .slice x.ia x.items.length x.ic, .slice x.ba x.bricks.length x.bc] 84)
   have hx := SetAt.new w1 x 84
   have hzs : w1.heap.size < (w1.alloc (.cells #[.string x.name, .int .i64 x.depth, .int .i64 x.low, .int .i64 x.high, .int .i64 x.length, .slice x.la x.lines.length x.lc, .int .i64 x.pipe, .int .i64 x.arbor, .int .i64 x.purchase, .int .i64 x.most, .int .i64 x.brake, .slice x.ia x.items.length x.ic, .slice x.ba x.bricks.length x.bc] 84)).heap.size := by simp
   have hb2 := hb1.trans (hbn.mono hb1.size)
   clear k0 k1 k2 k3 m0 m1 m2 m3 m4 hbn hb1
   obtain ⟨B, hBe⟩ : ∃ b, w1.heap.size = b := ⟨_, rfl⟩
   simp only [hBe] at hx hzs ⊢
   generalize w1.alloc (.cells #[.string x.name, .int .i64 x.depth, .int .i64 x.low, .int .i64 x.high, .int .i64 x.length, .slice x.la x.lines.length x.lc, .int .i64 x.pipe, .int .i64 x.arbor, .int .i64 x.purchase, .int .i64 x.most, .int .i64 x.brake, .slice x.ia x.items.length x.ic, .slice x.ba x.bricks.length x.bc] 84) = W2 at *
   have HX : Hid (∀ wx, Below W2.heap.size W2 wx → SetAt wx B x) := Lib.hid fun wx q => hx.below q hzs
   have HM2 : Hid (∀ wx, Below W2.heap.size W2 wx → MvAt wx (w.heap.size + 1) m) := Lib.hid fun wx q => MAT.out.carry (hb2.trans (q.mono hb2.size))
   obtain ⟨d0, d1, d2, d3, d4, d5, d6, d7, d8, d9, d10, d11, d12⟩ := hx
   obtain ⟨m0, m1, m2, m3, m4⟩ := HM2.out _ (Below.refl _ _)
   go_wp2_with (go_at_call 46; (with_reducible refine (reaches_any x f _).mono ?_); rintro e w3 ⟨rfl, hb3⟩; rw [HR1.out]; clear d0 d1 d2 d3 d4 d5 d6 d7 d8 d9 d10 d11 d12 m0 m1 m2 m3 m4; obtain ⟨d0, d1, d2, d3, d4, d5, d6, d7, d8, d9, d10, d11, d12⟩ := HX.out _ hb3; obtain ⟨m0, m1, m2, m3, m4⟩ := HM2.out _ hb3)
   go_ret2
   exact ⟨rfl, hW0.trans ((hb2.trans (hb3.mono hb2.size)).mono hW0.size)⟩
  have HR1 := Lib.hid r1
  cases r2 : reachB x m.to
  ·have HR2 := Lib.hid r2
   have HO : Hid (mgE h f m = 2 ∧ mgR h f m = 0) := Lib.hid (by
    have e2 : mgE h f m = 2 := by rw [HMG.out, if_pos rfl, if_neg (fun q => by rw [r2] at q; exact absurd q.2 (by decide))]
    exact ⟨e2, by unfold mgR; rw [if_neg (by rw [e2]; decide)]⟩)
   rw [HO.out.1, HO.out.2]
   clear r1 r2 hx he
   go_enter Try.func21, Try.ntmps21
   go_upto_region 1 with (fail)
   have hat1 := (HouseAt.new w h 25).carry (below_new (w.alloc (.cells #[.string h.name, .int .i64 h.height, .slice h.sa h.sets.length h.sc, .slice h.ra h.roofs.length h.rc] 25)) (.cells #[.string m.name, .int .i64 m.to, .int .i64 m.spd, .int .i64 m.rise, .int .i64 m.fall] 27))
   have mat1 := MvAt.new (w.alloc (.cells #[.string h.name, .int .i64 h.height, .slice h.sa h.sets.length h.sc, .slice h.ra h.roofs.length h.rc] 25)) m 27
   have hW0 := (below_new w (.cells #[.string h.name, .int .i64 h.height, .slice h.sa h.sets.length h.sc, .slice h.ra h.roofs.length h.rc] 25)).alloc (by simp) (.cells #[.string m.name, .int .i64 m.to, .int .i64 m.spd, .int .i64 m.rise, .int .i64 m.fall] 27)
   have hm1 : (w.alloc (.cells #[.string h.name, .int .i64 h.height, .slice h.sa h.sets.length h.sc, .slice h.ra h.roofs.length h.rc] 25)).heap.size = w.heap.size + 1 := by simp
   rw [hm1] at mat1
   generalize ((w.alloc (.cells #[.string h.name, .int .i64 h.height, .slice h.sa h.sets.length h.sc, .slice h.ra h.roofs.length h.rc] 25)).alloc (.cells #[.string m.name, .int .i64 m.to, .int .i64 m.spd, .int .i64 m.rise, .int .i64 m.fall] 27)) = W0 at *
   have HAT := Lib.hid hat1
   have MAT := Lib.hid mat1
   clear hat1 mat1 hm1
   obtain ⟨k0, k1, k2, k3⟩ := HAT.out
   obtain ⟨m0, m1, m2, m3, m4⟩ := MAT.out
   go_upto_region 2 with (go_at_call 45; (with_reducible refine (HMS.out _ hW0).mono ?_); rintro e w1 ⟨rfl, hb1⟩)
   have hbn := below_new w1 (.cells #[.string x.name, .int .i64 x.depth, .int .i64 x.low, .int .i64 x.high, .int .i64 x.length, .slice x.la x.lines.length x.lc, .int .i64 x.pipe, .int .i64 x.arbor, .int .i64 x.purchase, .int .i64 x.most, .int .i64 x.brake, .slice x.ia x.items.length x.ic, .slice x.ba x.bricks.length x.bc] 84)
   have hx := SetAt.new w1 x 84
   have hzs : w1.heap.size < (w1.alloc (.cells #[.string x.name, .int .i64 x.depth, .int .i64 x.low, .int .i64 x.high, .int .i64 x.length, .slice x.la x.lines.length x.lc, .int .i64 x.pipe, .int .i64 x.arbor, .int .i64 x.purchase, .int .i64 x.most, .int .i64 x.brake, .slice x.ia x.items.length x.ic, .slice x.ba x.bricks.length x.bc] 84)).heap.size := by simp
   have hb2 := hb1.trans (hbn.mono hb1.size)
   clear k0 k1 k2 k3 m0 m1 m2 m3 m4 hbn hb1
   obtain ⟨B, hBe⟩ : ∃ b, w1.heap.size = b := ⟨_, rfl⟩
   simp only [hBe] at hx hzs ⊢
   generalize w1.alloc (.cells #[.string x.name, .int .i64 x.depth, .int .i64 x.low, .int .i64 x.high, .int .i64 x.length, .slice x.la x.lines.length x.lc, .int .i64 x.pipe, .int .i64 x.arbor, .int .i64 x.purchase, .int .i64 x.most, .int .i64 x.brake, .slice x.ia x.items.length x.ic, .slice x.ba x.bricks.length x.bc] 84) = W2 at *
   have HX : Hid (∀ wx, Below W2.heap.size W2 wx → SetAt wx B x) := Lib.hid fun wx q => hx.below q hzs
   have HM2 : Hid (∀ wx, Below W2.heap.size W2 wx → MvAt wx (w.heap.size + 1) m) := Lib.hid fun wx q => MAT.out.carry (hb2.trans (q.mono hb2.size))
   obtain ⟨d0, d1, d2, d3, d4, d5, d6, d7, d8, d9, d10, d11, d12⟩ := hx
   obtain ⟨m0, m1, m2, m3, m4⟩ := HM2.out _ (Below.refl _ _)
   go_wp2_with (first
    | (go_at_call 46; (with_reducible refine (reaches_any x f _).mono ?_); rintro e w3 ⟨rfl, hb3⟩; rw [HR1.out]; clear d0 d1 d2 d3 d4 d5 d6 d7 d8 d9 d10 d11 d12 m0 m1 m2 m3 m4; obtain ⟨d0, d1, d2, d3, d4, d5, d6, d7, d8, d9, d10, d11, d12⟩ := HX.out _ hb3; obtain ⟨m0, m1, m2, m3, m4⟩ := HM2.out _ hb3)
    | (go_at_call 46; (with_reducible refine (reaches_any x m.to _).mono ?_); rintro e w4 ⟨rfl, hb4⟩; rw [HR2.out]; have hb34 := hb3.trans (hb4.mono hb3.size); clear d0 d1 d2 d3 d4 d5 d6 d7 d8 d9 d10 d11 d12 m0 m1 m2 m3 m4; obtain ⟨m0, m1, m2, m3, m4⟩ := HM2.out _ hb34))
   go_ret2
   exact ⟨rfl, hW0.trans ((hb2.trans (hb34.mono hb2.size)).mono hW0.size)⟩
  have HR2 := Lib.hid r2
  have e2 : mgE h f m = 0 := by rw [HMG.out, if_pos rfl, if_pos ⟨r1, r2⟩]
  obtain ⟨_, _, f0, f1, t0, t1, _, d0, d1, hD⟩ := mg_ok e2
  rw [e2, hD]
  have u1 : IntKind.i64.wrap (m.to - f) = m.to - f := IntWalk.i64_in _ (by omega)
  have u2 : IntKind.i64.wrap (f - m.to) = f - m.to := IntWalk.i64_in _ (by omega)
  have HDD : Hid (mgD f m = max (m.to - f) (f - m.to)) := Lib.hid (by unfold mgD; split <;> omega)
  have HDI : Hid (mgD f m = if m.to - f ≤ f - m.to then f - m.to else m.to - f) := Lib.hid (by unfold mgD; split <;> split <;> omega)
  clear r1 r2 hx he e2 hD d0 d1
  go_enter Try.func21, Try.ntmps21
  go_upto_region 1 with (fail)
  have hat1 := (HouseAt.new w h 25).carry (below_new (w.alloc (.cells #[.string h.name, .int .i64 h.height, .slice h.sa h.sets.length h.sc, .slice h.ra h.roofs.length h.rc] 25)) (.cells #[.string m.name, .int .i64 m.to, .int .i64 m.spd, .int .i64 m.rise, .int .i64 m.fall] 27))
  have mat1 := MvAt.new (w.alloc (.cells #[.string h.name, .int .i64 h.height, .slice h.sa h.sets.length h.sc, .slice h.ra h.roofs.length h.rc] 25)) m 27
  have hW0 := (below_new w (.cells #[.string h.name, .int .i64 h.height, .slice h.sa h.sets.length h.sc, .slice h.ra h.roofs.length h.rc] 25)).alloc (by simp) (.cells #[.string m.name, .int .i64 m.to, .int .i64 m.spd, .int .i64 m.rise, .int .i64 m.fall] 27)
  have hm1 : (w.alloc (.cells #[.string h.name, .int .i64 h.height, .slice h.sa h.sets.length h.sc, .slice h.ra h.roofs.length h.rc] 25)).heap.size = w.heap.size + 1 := by simp
  rw [hm1] at mat1
  generalize ((w.alloc (.cells #[.string h.name, .int .i64 h.height, .slice h.sa h.sets.length h.sc, .slice h.ra h.roofs.length h.rc] 25)).alloc (.cells #[.string m.name, .int .i64 m.to, .int .i64 m.spd, .int .i64 m.rise, .int .i64 m.fall] 27)) = W0 at *
  have HAT := Lib.hid hat1
  have MAT := Lib.hid mat1
  clear hat1 mat1 hm1
  obtain ⟨k0, k1, k2, k3⟩ := HAT.out
  obtain ⟨m0, m1, m2, m3, m4⟩ := MAT.out
  go_upto_region 2 with (go_at_call 45; (with_reducible refine (HMS.out _ hW0).mono ?_); rintro e w1 ⟨rfl, hb1⟩)
  have hbn := below_new w1 (.cells #[.string x.name, .int .i64 x.depth, .int .i64 x.low, .int .i64 x.high, .int .i64 x.length, .slice x.la x.lines.length x.lc, .int .i64 x.pipe, .int .i64 x.arbor, .int .i64 x.purchase, .int .i64 x.most, .int .i64 x.brake, .slice x.ia x.items.length x.ic, .slice x.ba x.bricks.length x.bc] 84)
  have hx := SetAt.new w1 x 84
  have hzs : w1.heap.size < (w1.alloc (.cells #[.string x.name, .int .i64 x.depth, .int .i64 x.low, .int .i64 x.high, .int .i64 x.length, .slice x.la x.lines.length x.lc, .int .i64 x.pipe, .int .i64 x.arbor, .int .i64 x.purchase, .int .i64 x.most, .int .i64 x.brake, .slice x.ia x.items.length x.ic, .slice x.ba x.bricks.length x.bc] 84)).heap.size := by simp
  have hb2 := hb1.trans (hbn.mono hb1.size)
  clear k0 k1 k2 k3 m0 m1 m2 m3 m4 hbn hb1
  obtain ⟨B, hBe⟩ : ∃ b, w1.heap.size = b := ⟨_, rfl⟩
  simp only [hBe] at hx hzs ⊢
  generalize w1.alloc (.cells #[.string x.name, .int .i64 x.depth, .int .i64 x.low, .int .i64 x.high, .int .i64 x.length, .slice x.la x.lines.length x.lc, .int .i64 x.pipe, .int .i64 x.arbor, .int .i64 x.purchase, .int .i64 x.most, .int .i64 x.brake, .slice x.ia x.items.length x.ic, .slice x.ba x.bricks.length x.bc] 84) = W2 at *
  have HX : Hid (∀ wx, Below W2.heap.size W2 wx → SetAt wx B x) := Lib.hid fun wx q => hx.below q hzs
  have HM2 : Hid (∀ wx, Below W2.heap.size W2 wx → MvAt wx (w.heap.size + 1) m) := Lib.hid fun wx q => MAT.out.carry (hb2.trans (q.mono hb2.size))
  obtain ⟨d0, d1, d2, d3, d4, d5, d6, d7, d8, d9, d10, d11, d12⟩ := hx
  obtain ⟨m0, m1, m2, m3, m4⟩ := HM2.out _ (Below.refl _ _)
  go_wp2_with (first
   | (go_at_call 46; (with_reducible refine (reaches_any x f _).mono ?_); rintro e w3 ⟨rfl, hb3⟩; rw [HR1.out]; clear d0 d1 d2 d3 d4 d5 d6 d7 d8 d9 d10 d11 d12 m0 m1 m2 m3 m4; obtain ⟨d0, d1, d2, d3, d4, d5, d6, d7, d8, d9, d10, d11, d12⟩ := HX.out _ hb3; obtain ⟨m0, m1, m2, m3, m4⟩ := HM2.out _ hb3)
   | (go_at_call 46; (with_reducible refine (reaches_any x m.to _).mono ?_); rintro e w4 ⟨rfl, hb4⟩; rw [HR2.out]; have hb34 := hb3.trans (hb4.mono hb3.size); clear d0 d1 d2 d3 d4 d5 d6 d7 d8 d9 d10 d11 d12 m0 m1 m2 m3 m4; obtain ⟨m0, m1, m2, m3, m4⟩ := HM2.out _ hb34))
  all_goals go_ret2
  all_goals refine ⟨?_, hW0.trans ((hb2.trans (hb34.mono hb2.size)).mono hW0.size)⟩
  all_goals first
   | (rw [HDD.out]; rfl)
   | (rw [show mgD f m = m.to - f by (rw [HDD.out]; omega)]; rfl)
   | (rw [show mgD f m = f - m.to by (rw [HDD.out]; omega)]; rfl)
 ·have HO : Hid (mgE h f m = e ∧ mgR h f m = 0) := Lib.hid (by
   have e2 : mgE h f m = e := by rw [HMG.out, if_neg z]
   exact ⟨e2, by unfold mgR; rw [if_neg (by rw [e2]; exact z)]⟩)
  rw [HO.out.1, HO.out.2]
  have z1 : (e != 0) = true := by simpa using z
  clear hx he z
  go_enter Try.func21, Try.ntmps21
  go_upto_region 1 with (fail)
  have hat1 := (HouseAt.new w h 25).carry (below_new (w.alloc (.cells #[.string h.name, .int .i64 h.height, .slice h.sa h.sets.length h.sc, .slice h.ra h.roofs.length h.rc] 25)) (.cells #[.string m.name, .int .i64 m.to, .int .i64 m.spd, .int .i64 m.rise, .int .i64 m.fall] 27))
  have mat1 := MvAt.new (w.alloc (.cells #[.string h.name, .int .i64 h.height, .slice h.sa h.sets.length h.sc, .slice h.ra h.roofs.length h.rc] 25)) m 27
  have hW0 := (below_new w (.cells #[.string h.name, .int .i64 h.height, .slice h.sa h.sets.length h.sc, .slice h.ra h.roofs.length h.rc] 25)).alloc (by simp) (.cells #[.string m.name, .int .i64 m.to, .int .i64 m.spd, .int .i64 m.rise, .int .i64 m.fall] 27)
  have hm1 : (w.alloc (.cells #[.string h.name, .int .i64 h.height, .slice h.sa h.sets.length h.sc, .slice h.ra h.roofs.length h.rc] 25)).heap.size = w.heap.size + 1 := by simp
  rw [hm1] at mat1
  generalize ((w.alloc (.cells #[.string h.name, .int .i64 h.height, .slice h.sa h.sets.length h.sc, .slice h.ra h.roofs.length h.rc] 25)).alloc (.cells #[.string m.name, .int .i64 m.to, .int .i64 m.spd, .int .i64 m.rise, .int .i64 m.fall] 27)) = W0 at *
  have HAT := Lib.hid hat1
  have MAT := Lib.hid mat1
  clear hat1 mat1 hm1
  obtain ⟨k0, k1, k2, k3⟩ := HAT.out
  obtain ⟨m0, m1, m2, m3, m4⟩ := MAT.out
  go_upto_region 2 with (go_at_call 45; (with_reducible refine (HMS.out _ hW0).mono ?_); rintro e w1 ⟨rfl, hb1⟩)
  have hbn := below_new w1 (.cells #[.string x.name, .int .i64 x.depth, .int .i64 x.low, .int .i64 x.high, .int .i64 x.length, .slice x.la x.lines.length x.lc, .int .i64 x.pipe, .int .i64 x.arbor, .int .i64 x.purchase, .int .i64 x.most, .int .i64 x.brake, .slice x.ia x.items.length x.ic, .slice x.ba x.bricks.length x.bc] 84)
  have hx := SetAt.new w1 x 84
  have hzs : w1.heap.size < (w1.alloc (.cells #[.string x.name, .int .i64 x.depth, .int .i64 x.low, .int .i64 x.high, .int .i64 x.length, .slice x.la x.lines.length x.lc, .int .i64 x.pipe, .int .i64 x.arbor, .int .i64 x.purchase, .int .i64 x.most, .int .i64 x.brake, .slice x.ia x.items.length x.ic, .slice x.ba x.bricks.length x.bc] 84)).heap.size := by simp
  have hb2 := hb1.trans (hbn.mono hb1.size)
  clear k0 k1 k2 k3 m0 m1 m2 m3 m4 hbn hb1
  obtain ⟨B, hBe⟩ : ∃ b, w1.heap.size = b := ⟨_, rfl⟩
  simp only [hBe] at hx hzs ⊢
  generalize w1.alloc (.cells #[.string x.name, .int .i64 x.depth, .int .i64 x.low, .int .i64 x.high, .int .i64 x.length, .slice x.la x.lines.length x.lc, .int .i64 x.pipe, .int .i64 x.arbor, .int .i64 x.purchase, .int .i64 x.most, .int .i64 x.brake, .slice x.ia x.items.length x.ic, .slice x.ba x.bricks.length x.bc] 84) = W2 at *
  have HX : Hid (∀ wx, Below W2.heap.size W2 wx → SetAt wx B x) := Lib.hid fun wx q => hx.below q hzs
  have HM2 : Hid (∀ wx, Below W2.heap.size W2 wx → MvAt wx (w.heap.size + 1) m) := Lib.hid fun wx q => MAT.out.carry (hb2.trans (q.mono hb2.size))
  obtain ⟨d0, d1, d2, d3, d4, d5, d6, d7, d8, d9, d10, d11, d12⟩ := hx
  obtain ⟨m0, m1, m2, m3, m4⟩ := HM2.out _ (Below.refl _ _)
  go_wp2_with fail
  go_ret2
  exact ⟨rfl, hW0.trans (hb2.mono hW0.size)⟩
end Go.Proofs.Ytbgkgahmicepdaa
namespace Go.Proofs.Ytbgkgahmicepdaa
open Go.RowKit Go.Shelf
attribute [local go_sem] Oper.semAt_some
open Classical in
noncomputable def endP (h : HouseR) (f : Int) (m : Mv) (t : Int) : Int × Int := if mgE h f m = 0 then timeP (mgD f m) m t else (0, 0)
set_option maxRecDepth 100000 in
set_option maxHeartbeats 16000000 in
theorem mend_any (h : HouseR) (f : Int) (m : Mv) (t : Int) (ht : mgE h f m = 0 → IsTop (mgD f m) m.spd m.rise m.fall t) (w : World) (hh : HouseIn w h) :
  Calls Try.prog 9 #[.agg #[.string h.name, .int .i64 h.height, .slice h.sa h.sets.length h.sc, .slice h.ra h.roofs.length h.rc], .int .i64 f, .agg #[.string m.name, .int .i64 m.to, .int .i64 m.spd, .int .i64 m.rise, .int .i64 m.fall]] w fun e w' => e = .returned (.tuple #[.agg #[.int .i64 (endP h f m t).1, .int .i64 (endP h f m t).2], .int .i64 (mgE h f m)]) ∧ Below w.heap.size w w' := by
 obtain ⟨e, he⟩ : ∃ e, mgE h f m = e := ⟨_, rfl⟩
 obtain ⟨d, hd⟩ : ∃ d, mgR h f m = d := ⟨_, rfl⟩
 have HG : Hid (∀ w' : World, Below w.heap.size w w' → Calls Try.prog 21 #[.agg #[.string h.name, .int .i64 h.height, .slice h.sa h.sets.length h.sc, .slice h.ra h.roofs.length h.rc], .int .i64 f, .agg #[.string m.name, .int .i64 m.to, .int .i64 m.spd, .int .i64 m.rise, .int .i64 m.fall]] w' fun z w2 => z = .returned (.tuple #[.int .i64 d, .int .i64 e]) ∧ Below w'.heap.size w' w2) := Lib.hid fun w' hb => by
  have := mgiven_any h f m w' (hh.grow hb)
  rw [hd, he] at this
  exact this
 clear hh
 by_cases z : e = 0
 ·subst z
  obtain ⟨_, _, _, _, _, _, gd, _, _, hD⟩ := mg_ok he
  have HT := Time_any (mgD f m) m t (fun _ => ht he)
  obtain ⟨P, hP⟩ : ∃ P, timeP (mgD f m) m t = P := ⟨_, rfl⟩
  rw [gd, hP] at HT
  have HR : Hid (endP h f m t = P) := Lib.hid (by unfold endP; rw [if_pos he, hP])
  rw [he, HR.out]
  obtain rfl : mgD f m = d := hD.symm.trans hd
  obtain ⟨d, hdd⟩ : ∃ d, mgD f m = d := ⟨_, rfl⟩
  rw [hdd] at HG HT
  have HTT := Lib.hid HT
  clear HT hD hd hP ht gd he hdd
  go_enter Try.func9, Try.ntmps9
  go_upto_region 1 with (fail)
  have hat1 := ((HouseAt.new w h 25).carry (below_new (w.alloc (.cells #[.string h.name, .int .i64 h.height, .slice h.sa h.sets.length h.sc, .slice h.ra h.roofs.length h.rc] 25)) (.cells #[.string m.name, .int .i64 m.to, .int .i64 m.spd, .int .i64 m.rise, .int .i64 m.fall] 27))).carry (below_new ((w.alloc (.cells #[.string h.name, .int .i64 h.height, .slice h.sa h.sets.length h.sc, .slice h.ra h.roofs.length h.rc] 25)).alloc (.cells #[.string m.name, .int .i64 m.to, .int .i64 m.spd, .int .i64 m.rise, .int .i64 m.fall] 27)) (.cells #[.int .i64 0, .int .i64 0] 29))
  have mat1 := (MvAt.new (w.alloc (.cells #[.string h.name, .int .i64 h.height, .slice h.sa h.sets.length h.sc, .slice h.ra h.roofs.length h.rc] 25)) m 27).carry (below_new ((w.alloc (.cells #[.string h.name, .int .i64 h.height, .slice h.sa h.sets.length h.sc, .slice h.ra h.roofs.length h.rc] 25)).alloc (.cells #[.string m.name, .int .i64 m.to, .int .i64 m.spd, .int .i64 m.rise, .int .i64 m.fall] 27)) (.cells #[.int .i64 0, .int .i64 0] 29))
  have hf := FI.new ((w.alloc (.cells #[.string h.name, .int .i64 h.height, .slice h.sa h.sets.length h.sc, .slice h.ra h.roofs.length h.rc] 25)).alloc (.cells #[.string m.name, .int .i64 m.to, .int .i64 m.spd, .int .i64 m.rise, .int .i64 m.fall] 27)) 29
  have hW0 := ((below_new w (.cells #[.string h.name, .int .i64 h.height, .slice h.sa h.sets.length h.sc, .slice h.ra h.roofs.length h.rc] 25)).alloc (by simp) (.cells #[.string m.name, .int .i64 m.to, .int .i64 m.spd, .int .i64 m.rise, .int .i64 m.fall] 27)).alloc (by simp <;> omega) (.cells #[.int .i64 0, .int .i64 0] 29)
  have hm1 : (w.alloc (.cells #[.string h.name, .int .i64 h.height, .slice h.sa h.sets.length h.sc, .slice h.ra h.roofs.length h.rc] 25)).heap.size = w.heap.size + 1 := by simp
  have hm2 : ((w.alloc (.cells #[.string h.name, .int .i64 h.height, .slice h.sa h.sets.length h.sc, .slice h.ra h.roofs.length h.rc] 25)).alloc (.cells #[.string m.name, .int .i64 m.to, .int .i64 m.spd, .int .i64 m.rise, .int .i64 m.fall] 27)).heap.size = w.heap.size + 1 + 1 := by simp
  rw [hm1] at mat1
  rw [hm2] at hf
  generalize (((w.alloc (.cells #[.string h.name, .int .i64 h.height, .slice h.sa h.sets.length h.sc, .slice h.ra h.roofs.length h.rc] 25)).alloc (.cells #[.string m.name, .int .i64 m.to, .int .i64 m.spd, .int .i64 m.rise, .int .i64 m.fall] 27)).alloc (.cells #[.int .i64 0, .int .i64 0] 29)) = W0 at *
  have HAT := Lib.hid hat1
  have MAT := Lib.hid mat1
  clear hat1 mat1 hm1 hm2
  obtain ⟨k0, k1, k2, k3⟩ := HAT.out
  obtain ⟨m0, m1, m2, m3, m4⟩ := MAT.out
  go_wp2_with (first
   | (go_at_call 21; (with_reducible refine (HG.out _ hW0).mono ?_); rintro e w1 ⟨rfl, hb1⟩; clear k0 k1 k2 k3 m0 m1 m2 m3 m4; obtain ⟨m0, m1, m2, m3, m4⟩ := MAT.out.carry hb1; obtain ⟨q0, q1, q2, q3, q4⟩ := hf.carry hb1)
   | (go_at_call 22; (with_reducible refine (HTT.out _).mono ?_); rintro e w2 ⟨rfl, hb2⟩; clear q0 q1 q2 q3 q4; obtain ⟨q0, q1, q2, q3, q4⟩ := (hf.carry hb1).carry hb2))
  have l0 := (two_cells (v0 := .int .i64 P.1) (v1 := .int .i64 P.2) q0 q1).1
  have l1 := (two_cells (v0 := .int .i64 P.1) (v1 := .int .i64 P.2) q0 q1).2
  refine bodyPost_ret (v := .tuple #[.agg #[.int .i64 P.1, .int .i64 P.2], .int .i64 0]) (by simp [results, Try.results9, go_sem, l0, l1]) rfl ⟨rfl, ?_⟩
  exact below_s _ _ (below_s _ _ (hW0.trans ((hb1.trans (hb2.mono hb1.size)).mono hW0.size)) (show w.heap.size ≤ w.heap.size + 1 + 1 by omega)) (show w.heap.size ≤ w.heap.size + 1 + 1 by omega)
 ·have HR : Hid (endP h f m t = (0, 0)) := Lib.hid (by unfold endP; rw [if_neg (by rw [he]; exact z)])
  rw [he, HR.out]
  have z1 : (e != 0) = true := by simpa using z
  clear z he hd ht
  go_enter Try.func9, Try.ntmps9
  go_upto_region 1 with (fail)
  have hat1 := ((HouseAt.new w h 25).carry (below_new (w.alloc (.cells #[.string h.name, .int .i64 h.height, .slice h.sa h.sets.length h.sc, .slice h.ra h.roofs.length h.rc] 25)) (.cells #[.string m.name, .int .i64 m.to, .int .i64 m.spd, .int .i64 m.rise, .int .i64 m.fall] 27))).carry (below_new ((w.alloc (.cells #[.string h.name, .int .i64 h.height, .slice h.sa h.sets.length h.sc, .slice h.ra h.roofs.length h.rc] 25)).alloc (.cells #[.string m.name, .int .i64 m.to, .int .i64 m.spd, .int .i64 m.rise, .int .i64 m.fall] 27)) (.cells #[.int .i64 0, .int .i64 0] 29))
  have mat1 := (MvAt.new (w.alloc (.cells #[.string h.name, .int .i64 h.height, .slice h.sa h.sets.length h.sc, .slice h.ra h.roofs.length h.rc] 25)) m 27).carry (below_new ((w.alloc (.cells #[.string h.name, .int .i64 h.height, .slice h.sa h.sets.length h.sc, .slice h.ra h.roofs.length h.rc] 25)).alloc (.cells #[.string m.name, .int .i64 m.to, .int .i64 m.spd, .int .i64 m.rise, .int .i64 m.fall] 27)) (.cells #[.int .i64 0, .int .i64 0] 29))
  have hf := FI.new ((w.alloc (.cells #[.string h.name, .int .i64 h.height, .slice h.sa h.sets.length h.sc, .slice h.ra h.roofs.length h.rc] 25)).alloc (.cells #[.string m.name, .int .i64 m.to, .int .i64 m.spd, .int .i64 m.rise, .int .i64 m.fall] 27)) 29
  have hW0 := ((below_new w (.cells #[.string h.name, .int .i64 h.height, .slice h.sa h.sets.length h.sc, .slice h.ra h.roofs.length h.rc] 25)).alloc (by simp) (.cells #[.string m.name, .int .i64 m.to, .int .i64 m.spd, .int .i64 m.rise, .int .i64 m.fall] 27)).alloc (by simp <;> omega) (.cells #[.int .i64 0, .int .i64 0] 29)
  have hm1 : (w.alloc (.cells #[.string h.name, .int .i64 h.height, .slice h.sa h.sets.length h.sc, .slice h.ra h.roofs.length h.rc] 25)).heap.size = w.heap.size + 1 := by simp
  have hm2 : ((w.alloc (.cells #[.string h.name, .int .i64 h.height, .slice h.sa h.sets.length h.sc, .slice h.ra h.roofs.length h.rc] 25)).alloc (.cells #[.string m.name, .int .i64 m.to, .int .i64 m.spd, .int .i64 m.rise, .int .i64 m.fall] 27)).heap.size = w.heap.size + 1 + 1 := by simp
  rw [hm1] at mat1
  rw [hm2] at hf
  generalize (((w.alloc (.cells #[.string h.name, .int .i64 h.height, .slice h.sa h.sets.length h.sc, .slice h.ra h.roofs.length h.rc] 25)).alloc (.cells #[.string m.name, .int .i64 m.to, .int .i64 m.spd, .int .i64 m.rise, .int .i64 m.fall] 27)).alloc (.cells #[.int .i64 0, .int .i64 0] 29)) = W0 at *
  have HAT := Lib.hid hat1
  have MAT := Lib.hid mat1
  clear hat1 mat1 hm1 hm2
  obtain ⟨k0, k1, k2, k3⟩ := HAT.out
  obtain ⟨m0, m1, m2, m3, m4⟩ := MAT.out
  go_wp2_with (go_at_call 21; (with_reducible refine (HG.out _ hW0).mono ?_); rintro e w1 ⟨rfl, hb1⟩; clear k0 k1 k2 k3 m0 m1 m2 m3 m4; obtain ⟨m0, m1, m2, m3, m4⟩ := MAT.out.carry hb1; obtain ⟨q0, q1, q2, q3, q4⟩ := hf.carry hb1)
  have l0 := (two_cells (v0 := .int .i64 0) (v1 := .int .i64 0) q0 q1).1
  have l1 := (two_cells (v0 := .int .i64 0) (v1 := .int .i64 0) q0 q1).2
  refine bodyPost_ret (v := .tuple #[.agg #[.int .i64 0, .int .i64 0], .int .i64 e]) (by simp [results, Try.results9, go_sem, l0, l1]) rfl ⟨rfl, ?_⟩
  exact below_s _ _ (below_s _ _ (hW0.trans (hb1.mono hW0.size)) (show w.heap.size ≤ w.heap.size + 1 + 1 by omega)) (show w.heap.size ≤ w.heap.size + 1 + 1 by omega)
end Go.Proofs.Ytbgkgahmicepdaa
namespace Go.Proofs.Ytbgkgahmicepdaa
theorem time_num (d R F t : Int) : 2 * F * (t * t) + kP d R F t + 2 * R * (t * t) = tN d R F t := by
 unfold kP tN
 rw [Int.mul_add]
 have e1 : 2 * F * (t * t) = 2 * (t * t * F) := by ac_rfl
 have e2 : 2 * R * (t * t) = 2 * (t * t * R) := by ac_rfl
 rw [e1, e2]
 omega
theorem time_zero {m : Mv} {t : Int} (hg : givenP 0 m = 0) : timeP 0 m t = (0, 1) := by
 unfold timeP
 rw [if_pos hg]
 rfl
theorem time_pos {d : Int} {m : Mv} {t : Int} (hg : givenP d m = 0) (hd : ¬ d = 0) : timeP d m t = (lowN (tN d m.rise m.fall t) (tD m.rise m.fall t), lowD (tN d m.rise m.fall t) (tD m.rise m.fall t)) := by
 have hl := curveL_len d m.rise m.fall t
 unfold timeP
 rw [if_pos hg]
 unfold knotsL
 rw [knTo_len, knTo_at _ _ _ (by omega)]
 unfold curveL
 rw [if_neg hd, time_num]
 split <;> rfl
theorem low_cmp {n1 d1 n2 d2 : Int} (h1 : 0 < d1) (h2 : 0 < d2) (h : n1 * d2 ≤ n2 * d1) : lowN n1 d1 * lowD n2 d2 ≤ lowN n2 d2 * lowD n1 d1 := by
 have a := lowN_mul n1 d1
 have b := lowD_mul n1 d1
 have c := lowN_mul n2 d2
 have e := lowD_mul n2 d2
 have g1 := gcd_posR (n := n1) h1
 have g2 := gcd_posR (n := n2) h2
 refine le_of_mul_pos (Int.mul_pos g1 g2) ?_
 calc lowN n1 d1 * lowD n2 d2 * ((Int.gcd n1 d1 : Int) * (Int.gcd n2 d2 : Int)) = (lowN n1 d1 * (Int.gcd n1 d1 : Int)) * (lowD n2 d2 * (Int.gcd n2 d2 : Int)) := by ac_rfl
  _ = n1 * d2 := by rw [a, e]
  _ ≤ n2 * d1 := h
  _ = (lowN n2 d2 * (Int.gcd n2 d2 : Int)) * (lowD n1 d1 * (Int.gcd n1 d1 : Int)) := by rw [c, b]
  _ = lowN n2 d2 * lowD n1 d1 * ((Int.gcd n1 d1 : Int) * (Int.gcd n2 d2 : Int)) := by ac_rfl
theorem cmp_le {x y : Int} (h : x ≤ y) : decide (cmpP x y ≤ 0) = true := by
 unfold cmpP
 split
 ·decide
 ·rw [if_pos (by omega)]; decide
theorem cmp_ge {x y : Int} (h : y ≤ x) : decide (0 ≤ cmpP x y) = true := by
 unfold cmpP
 split
 ·decide
 ·rw [if_neg (by omega)]; decide
theorem faster_all {d : Int} {m n : Mv} {t u : Int} (hg : givenP d m = 0) (ht : IsTop d m.spd m.rise m.fall t) (hg' : givenP d n = 0) (hu : IsTop d n.spd n.rise n.fall u) (h1 : m.spd ≤ n.spd) (h2 : m.rise ≤ n.rise) (h3 : m.fall ≤ n.fall) :
  (timeP d n u).1 * (timeP d m t).2 ≤ (timeP d m t).1 * (timeP d n u).2 := by
 by_cases hd : d = 0
 ·subst hd
  rw [time_zero hg, time_zero hg']
  decide
 ·rw [time_pos hg hd, time_pos hg' hd]
  obtain ⟨hv, hdd⟩ := given_ok hg
  obtain ⟨V0, V1, R0, R1, F0, F1⟩ := valid_bds hv
  obtain ⟨d1, d2⟩ := inB_iff.1 hdd
  obtain ⟨hv', _⟩ := given_ok hg'
  obtain ⟨V0', V1', R0', R1', F0', F1'⟩ := valid_bds hv'
  have dp : 1 ≤ d := by omega
  obtain ⟨s1, hs1⟩ := top_exI (d := d) (V := n.spd) (R := m.rise) (F := m.fall) (by omega) (by omega) d1 (by omega)
  obtain ⟨s2, hs2⟩ := top_exI (d := d) (V := n.spd) (R := n.rise) (F := m.fall) (by omega) (by omega) d1 (by omega)
  have tp := top_pos dp R0 F0 V0 ht
  have p1 := top_pos dp R0 F0 V0' hs1
  have p2 := top_pos dp R0' F0 V0' hs2
  have up := top_pos dp R0' F0' V0' hu
  have a1 := fast_speed R0 F0 tp h1 ht hs1
  have a2 := fast_rise R0 F0 p1 h2 hs1 hs2
  have a3 := fast_fall R0' F0 p2 h3 hs2 hu
  have D0 : 0 < tD m.rise m.fall t := by unfold tD; exact Int.mul_pos (posD R0 F0) (by omega)
  have D1 : 0 < tD m.rise m.fall s1 := by unfold tD; exact Int.mul_pos (posD R0 F0) (by omega)
  have D2 : 0 < tD n.rise m.fall s2 := by unfold tD; exact Int.mul_pos (posD R0' F0) (by omega)
  have D3 : 0 < tD n.rise n.fall u := by unfold tD; exact Int.mul_pos (posD R0' F0') (by omega)
  refine low_cmp D3 D0 ?_
  generalize tN d m.rise m.fall t = N0 at *
  generalize tN d m.rise m.fall s1 = N1 at *
  generalize tN d n.rise m.fall s2 = N2 at *
  generalize tN d n.rise n.fall u = N3 at *
  generalize tD m.rise m.fall t = E0 at *
  generalize tD m.rise m.fall s1 = E1 at *
  generalize tD n.rise m.fall s2 = E2 at *
  generalize tD n.rise n.fall u = E3 at *
  have b1 : N2 * E0 ≤ N0 * E2 := by
   refine le_of_mul_pos D1 ?_
   have x := Int.mul_le_mul_of_nonneg_right a2 (Int.le_of_lt D0)
   have y := Int.mul_le_mul_of_nonneg_right a1 (Int.le_of_lt D2)
   calc N2 * E0 * E1 = N2 * E1 * E0 := by ac_rfl
    _ ≤ N1 * E2 * E0 := x
    _ = N1 * E0 * E2 := by ac_rfl
    _ ≤ N0 * E1 * E2 := y
    _ = N0 * E2 * E1 := by ac_rfl
  refine le_of_mul_pos D2 ?_
  have x := Int.mul_le_mul_of_nonneg_right a3 (Int.le_of_lt D0)
  have y := Int.mul_le_mul_of_nonneg_right b1 (Int.le_of_lt D3)
  calc N3 * E0 * E2 = N3 * E2 * E0 := by ac_rfl
   _ ≤ N2 * E3 * E0 := x
   _ = N2 * E0 * E3 := by ac_rfl
   _ ≤ N0 * E2 * E3 := y
   _ = N0 * E3 * E2 := by ac_rfl
theorem top_some (d : Int) (m : Mv) : ∃ t, givenP d m = 0 → IsTop d m.spd m.rise m.fall t := by
 by_cases hg : givenP d m = 0
 ·obtain ⟨hv, hd⟩ := given_ok hg
  obtain ⟨V0, V1, R0, R1, F0, F1⟩ := valid_bds hv
  obtain ⟨t, ht⟩ := top_exI (d := d) (V := m.spd) (R := m.rise) (F := m.fall) (by omega) (by omega) (inB_iff.1 hd).1 (by omega)
  exact ⟨t, fun _ => ht⟩
 ·exact ⟨0, fun h => absurd h hg⟩
theorem top_some35 (h : HouseR) (f : Int) (m : Mv) : ∃ t, mgE h f m = 0 → IsTop (mgD f m) m.spd m.rise m.fall t := by
 obtain ⟨t, ht⟩ := top_some (mgD f m) m
 refine ⟨t, fun e => ht ?_⟩
 obtain ⟨_, _, _, _, _, _, gd, _⟩ := mg_ok e
 exact gd
theorem mg_err {h : HouseR} {f : Int} {m n : Mv} (e : mgE h f m = 0) (h1 : n.name = m.name) (h2 : n.to = m.to) : mgE h f n = 0 ∨ mgE h f n = 1 := by
 have hB := mg_ok e
 unfold mgE at e ⊢
 by_cases c : setE h m = 0
 ·rw [if_pos c] at e
  by_cases vn : validM n = true
  ·have en : setI h n = setI h m := by unfold setI; rw [h1]
   have c' : setE h n = 0 := by
    unfold setE at c ⊢
    rw [if_pos ⟨hB.1, hB.2.1⟩] at c
    rw [if_pos ⟨hB.1, vn⟩, en]
    exact c
   have o' : setO h n = setO h m := by unfold setO; rw [if_pos c, if_pos c', en]
   rw [if_pos c', o', h2]
   by_cases r : reachB (setO h m) f = true ∧ reachB (setO h m) m.to = true
   ·rw [if_pos r]; exact .inl rfl
   ·rw [if_neg r] at e; cases e
  ·have c' : setE h n = 1 := by unfold setE; rw [if_neg fun q => vn q.2]
   rw [c', if_neg (by decide)]; exact .inr rfl
 ·rw [if_neg c] at e; exact absurd e c
def turnedM (m : Mv) : Mv := ⟨m.name, m.to, m.spd, m.fall, m.rise⟩
theorem turned_given {d : Int} {m : Mv} : givenP d (turnedM m) = givenP d m := by
 unfold givenP turnedM
 have : validM ⟨m.name, m.to, m.spd, m.fall, m.rise⟩ = validM m := by
  unfold validM
  simp only
  cases inB m.rise 1 16384 <;> cases inB m.fall 1 16384 <;> simp
 rw [this]
theorem turned_time {d : Int} {m : Mv} {t : Int} (hg : givenP d m = 0) : timeP d (turnedM m) t = timeP d m t := by
 by_cases hd : d = 0
 ·subst hd
  rw [time_zero hg, time_zero (turned_given.trans hg)]
 ·rw [time_pos hg hd, time_pos (turned_given.trans hg) hd]
  show (lowN (tN d m.fall m.rise t) (tD m.fall m.rise t), lowD (tN d m.fall m.rise t) (tD m.fall m.rise t)) = _
  rw [← tN_swap, ← tD_swap]
end Go.Proofs.Ytbgkgahmicepdaa
