/-
  PLAIN LAWS over any program: a row of stores into a block; the block of a set that a call returns.
-/
import Derived.Test.YtbgkgahmicepdaaGreatP17
import Derived.Test.YtbgkgahmicepdaaGreatP6
namespace Go.Proofs.YtbgkgahmicepdaaGreat
set_option maxRecDepth 100000
set_option maxHeartbeats 80000000
section
open Go.RowKit Go.Shelf
def setFrom (w : World) (b : Nat) : Nat → List Value → World
 | _, [] => w
 | j, v :: vs => setFrom (w.setCell ⟨b, j, none⟩ v) b (j + 1) vs
theorem below_from {m b : Nat} {W : World} : ∀ (vs : List Value) (w : World) (j : Nat), Below m W w → m ≤ b → Below m W (setFrom w b j vs)
 | [], _, _, h, _ => h
 | v :: vs, _, j, h, hb => below_from vs _ (j + 1) (h.setCell (p := ⟨b, j, none⟩) hb v) hb
theorem far_from : ∀ (vs : List Value) (w : World) (b j i : Nat), i < j → (setFrom w b j vs).cell? ⟨b, i, none⟩ = w.cell? ⟨b, i, none⟩
 | [], _, _, _, _, _ => rfl
 | v :: vs, w, b, j, i, h => (far_from vs _ b (j + 1) i (by omega)).trans (World.cell?_setCell_other _ _ _ _ (by intro q; injection q with _ q; omega))
theorem read_from : ∀ (vs : List Value) (w : World) (b j : Nat), (∀ i, i < vs.length → (w.cell? ⟨b, j + i, none⟩).isSome = true) → ∀ i (h : i < vs.length), (setFrom w b j vs).cell? ⟨b, j + i, none⟩ = some vs[i]
 | [], _, _, _, _, i, h => absurd h (Nat.not_lt_zero _)
 | v :: vs, w, b, j, hs, i, h => by
  have h0 := hs 0 (by simp);obtain ⟨u, hu⟩ := Option.isSome_iff_exists.1 h0
  match i, h with
  | 0, _ => exact (far_from vs _ b (j + 1) (j + 0) (by omega)).trans (World.cell?_setCell_same _ _ _ hu)
  | i + 1, h =>
   have := read_from vs (w.setCell ⟨b, j, none⟩ v) b (j + 1) (fun k hk => by
    rw [World.cell?_setCell_other _ _ _ _ (by intro q; injection q with _ q; omega), show j + 1 + k = j + (k + 1) by omega];exact hs (k + 1) (by simpa using hk)) i (by simpa using h)
   rw [show j + (i + 1) = j + 1 + i by omega];exact this
def MvAt (w : World) (B : Nat) (m : Mv) : Prop := w.cell? ⟨B, 0, none⟩ = some (.string m.name) ∧ w.cell? ⟨B, 1, none⟩ = some (.int .i64 m.to) ∧ w.cell? ⟨B, 2, none⟩ = some (.int .i64 m.spd) ∧ w.cell? ⟨B, 3, none⟩ = some (.int .i64 m.rise) ∧ w.cell? ⟨B, 4, none⟩ = some (.int .i64 m.fall)
theorem MvAt.carry {W w : World} {B : Nat} {m : Mv} (c : MvAt W B m) (h : Below W.heap.size W w) : MvAt w B m := by
 have hz : B < W.heap.size := wl c.1;exact ⟨(h.cell (p := ⟨B, 0, none⟩) hz).trans c.1, (h.cell (p := ⟨B, 1, none⟩) hz).trans c.2.1, (h.cell (p := ⟨B, 2, none⟩) hz).trans c.2.2.1, (h.cell (p := ⟨B, 3, none⟩) hz).trans c.2.2.2.1, (h.cell (p := ⟨B, 4, none⟩) hz).trans c.2.2.2.2⟩
theorem MvAt.new (W : World) (m : Mv) (t : TypeId) : MvAt (W.alloc (.cells #[.string m.name, .int .i64 m.to, .int .i64 m.spd, .int .i64 m.rise, .int .i64 m.fall] t)) W.heap.size m := ⟨by simp, by simp, by simp, by simp, by simp⟩
end
section
open Go.RowKit Go.Shelf
attribute [local go_sem] Oper.semAt_some
def zeroS : SetR := ⟨⟨#[]⟩, 0, 0, 0, 0, none, [], 0, 0, 0, 0, 0, 0, none, [], 0, none, [], 0⟩
structure ZeroS (w : World) (b : Nat) : Prop where
 at0 : SetAt w b zeroS
 free : ∀ i, w.frozen? ⟨b, i, none⟩ = false
 lt : b < w.heap.size
theorem ZeroS.carry {w w' : World} {b : Nat} (z : ZeroS w b) (hb : Below w.heap.size w w') : ZeroS w' b :=
 ⟨z.at0.below hb z.lt, fun i => (hb.frozen (p := ⟨b, i, none⟩) z.lt).trans (z.free i), Nat.lt_of_lt_of_le z.lt hb.size⟩
theorem ZeroS.new (w : World) : ZeroS (w.alloc (.cells #[.string ⟨#[]⟩, .int .i64 0, .int .i64 0, .int .i64 0, .int .i64 0, .slice none 0 0, .int .i64 0, .int .i64 0, .int .i64 0, .int .i64 0, .int .i64 0, .slice none 0 0, .slice none 0 0] 54)) w.heap.size := by
 refine ⟨?_, fun i => by simp, by simp⟩;unfold SetAt zeroS
 simp
theorem setAt_from (x : SetR) {w : World} {b : Nat} (z : ZeroS w b) : SetAt (setFrom w b 0 [.string x.name, .int .i64 x.depth, .int .i64 x.low, .int .i64 x.high, .int .i64 x.length, .slice x.la x.lines.length x.lc, .int .i64 x.pipe, .int .i64 x.arbor, .int .i64 x.purchase, .int .i64 x.most, .int .i64 x.brake, .slice x.ia x.items.length x.ic, .slice x.ba x.bricks.length x.bc]) b x := by
 have h : ∀ i, i < ([.string x.name, .int .i64 x.depth, .int .i64 x.low, .int .i64 x.high, .int .i64 x.length, .slice x.la x.lines.length x.lc, .int .i64 x.pipe, .int .i64 x.arbor, .int .i64 x.purchase, .int .i64 x.most, .int .i64 x.brake, .slice x.ia x.items.length x.ic, .slice x.ba x.bricks.length x.bc] : List Value).length → (w.cell? ⟨b, 0 + i, none⟩).isSome = true := by
  intro i hi;have hi' : i < 13 := hi;obtain ⟨a0, a1, a2, a3, a4, a5, a6, a7, a8, a9, a10, a11, a12⟩ := z.at0;rw [Nat.zero_add];obtain rfl | rfl | rfl | rfl | rfl | rfl | rfl | rfl | rfl | rfl | rfl | rfl | rfl : i = 0 ∨ i = 1 ∨ i = 2 ∨ i = 3 ∨ i = 4 ∨ i = 5 ∨ i = 6 ∨ i = 7 ∨ i = 8 ∨ i = 9 ∨ i = 10 ∨ i = 11 ∨ i = 12 := by omega
  ·rw [a0]; rfl
  ·rw [a1]; rfl
  ·rw [a2]; rfl
  ·rw [a3]; rfl
  ·rw [a4]; rfl
  ·rw [a5]; rfl
  ·rw [a6]; rfl
  ·rw [a7]; rfl
  ·rw [a8]; rfl
  ·rw [a9]; rfl
  ·rw [a10]; rfl
  ·rw [a11]; rfl
  ·rw [a12]; rfl
 have r := read_from ([.string x.name, .int .i64 x.depth, .int .i64 x.low, .int .i64 x.high, .int .i64 x.length, .slice x.la x.lines.length x.lc, .int .i64 x.pipe, .int .i64 x.arbor, .int .i64 x.purchase, .int .i64 x.most, .int .i64 x.brake, .slice x.ia x.items.length x.ic, .slice x.ba x.bricks.length x.bc] : List Value) w b 0 h;exact ⟨r 0 (by simp), r 1 (by simp), r 2 (by simp), r 3 (by simp), r 4 (by simp), r 5 (by simp), r 6 (by simp), r 7 (by simp), r 8 (by simp), r 9 (by simp), r 10 (by simp), r 11 (by simp), r 12 (by simp)⟩
def setI (h : HouseR) (m : Mv) : Int := findS h.sets m.name
open Classical in
noncomputable def setE (h : HouseR) (m : Mv) : Int := if houseB h = true ∧ validM m = true then (if setI h m < 0 then 9 else 0) else 1
open Classical in
noncomputable def setO (h : HouseR) (m : Mv) : SetR := if setE h m = 0 then hg h.sets (setI h m).toNat else zeroS
theorem set_ok {h : HouseR} {m : Mv} (e : setE h m = 0) : houseB h = true ∧ validM m = true ∧ 0 ≤ setI h m ∧ (setI h m).toNat < h.sets.length ∧ setO h m = hg h.sets (setI h m).toNat := by
 have e0 := e;unfold setE at e
 by_cases c : houseB h = true ∧ validM m = true
 ·rw [if_pos c] at e
  by_cases d : setI h m < 0
  ·rw [if_pos d] at e; cases e
  ·refine ⟨c.1, c.2, by omega, ?_, by unfold setO; rw [if_pos e0]⟩
   rcases set_first_cases h.sets (fun y => decide (y.name = m.name)) with ⟨q, _⟩ | ⟨i, hi, q, _⟩
   ·have : setI h m = -1 := q
    omega
   ·have : setI h m = (i : Int) := q
    omega
 ·rw [if_neg c] at e; cases e
theorem ent_mset (args : Array Value) (w : World) : (callFunc 93 args).run Tryz.prog w = .ok (.enter 93 args) w := enters_of Tryz.func93 (by kernel_rfl) rfl args w
theorem msame_any (b : Nat) (m : Mv) (y : SetR) (w : World) (h : MvAt w b m) :
  Calls Tryz.prog 93 #[.agg #[.string y.name, .int .i64 y.depth, .int .i64 y.low, .int .i64 y.high, .int .i64 y.length, .slice y.la y.lines.length y.lc, .int .i64 y.pipe, .int .i64 y.arbor, .int .i64 y.purchase, .int .i64 y.most, .int .i64 y.brake, .slice y.ia y.items.length y.ic, .slice y.ba y.bricks.length y.bc], .pointer (some ⟨b, 0, none⟩)] w fun e w' => e = .returned (.bool (decide (y.name = m.name))) ∧ Below w.heap.size w w' := by
 have h0 := h.1;have hlt : b < w.heap.size := wl h0
 go_enter Tryz.func93, Tryz.ntmps93
 go_wp2_with fail
 go_ret;exact ⟨ret_bool (str_eq _ _), below_new _ _⟩
theorem asks_mset {w : World} {b : Nat} {m : Mv} (h : MvAt w b m) : AsksSet 93 #[.pointer (some ⟨b, 0, none⟩)] w.heap.size w (fun y => decide (y.name = m.name)) := by
 intro W r hb;exact msame_any b m r W (h.carry hb)
def reachB (s : SetR) (z : Int) : Bool := decide (s.low ≤ z) && decide (z ≤ s.high)
theorem reaches_any (s : SetR) (z : Int) (w : World) : Calls Tryz.prog 49 #[.agg #[.string s.name, .int .i64 s.depth, .int .i64 s.low, .int .i64 s.high, .int .i64 s.length, .slice s.la s.lines.length s.lc, .int .i64 s.pipe, .int .i64 s.arbor, .int .i64 s.purchase, .int .i64 s.most, .int .i64 s.brake, .slice s.ia s.items.length s.ic, .slice s.ba s.bricks.length s.bc], .int .i64 z] w fun e w' => e = .returned (.bool (reachB s z)) ∧ Below w.heap.size w w' := by
 by_cases c : s.low ≤ z
 ·have g := decide_eq_true c
  have HR : Hid (reachB s z = decide (z ≤ s.high)) := lh (by unfold reachB; rw [g]; rfl);rw [HR.out];clear c
  go_enter Tryz.func49, Tryz.ntmps49
  go_wp2_with fail
  go_ret;exact ⟨rfl, below_new _ _⟩
 ·have g := decide_eq_false c
  have HR : Hid (reachB s z = false) := lh (by unfold reachB; rw [g]; rfl);rw [HR.out];clear c
  go_enter Tryz.func49, Tryz.ntmps49
  go_wp2_with fail
  go_ret;exact ⟨rfl, below_new _ _⟩
theorem mset_any (h : HouseR) (m : Mv) (w : World) (hh : HouseIn w h) :
  Calls Tryz.prog 48 #[.agg #[.string h.name, .int .i64 h.height, .slice h.sa h.sets.length h.sc, .slice h.ra h.roofs.length h.rc], .agg #[.string m.name, .int .i64 m.to, .int .i64 m.spd, .int .i64 m.rise, .int .i64 m.fall]] w fun e w' => e = .returned (.tuple #[setV (setO h m), .int .i64 (setE h m)]) ∧ Below w.heap.size w w' := by
 have HH := lh hh;have hcap := hh.scap;have hsl := hh.slen;have hat := HouseAt.new w h 25;have HHV0 : Hid (∀ w' : World, Below w.heap.size w w' → Calls Tryz.prog 58 #[.agg #[.string h.name, .int .i64 h.height, .slice h.sa h.sets.length h.sc, .slice h.ra h.roofs.length h.rc]] w' fun e w2 => e = .returned (.bool (houseB h)) ∧ Below w'.heap.size w' w2) := lh fun w' hb => housevalid_any h w' (hh.grow hb);obtain ⟨sa, hsa⟩ := nm (h.sa);have HSA := lh hsa;have HHV := HHV0;rw [hsa] at hat HHV ⊢;clear hh hsa HHV0;obtain ⟨e, he⟩ := nm (setE h m);have HE := lh he;rw [he]
 cases h1 : houseB h
 case false =>
  have H1 := lh h1
  have HO : Hid (e = 1 ∧ setO h m = zeroS) := lh (by
   have e1 : setE h m = 1 := by unfold setE; rw [if_neg (fun q => by rw [h1] at q; exact absurd q.1 (by decide))]
   exact ⟨he.symm.trans e1, by unfold setO; rw [if_neg (by rw [e1]; decide)]⟩)
  obtain rfl := HO.out.1;rw [HO.out.2];clear h1 he
  go_enter Tryz.func48, Tryz.ntmps48
  go_upto_region 1 with (fail)
  have hat1 := hat.carry (below_new (w.alloc (.cells #[.string h.name, .int .i64 h.height, .slice sa h.sets.length h.sc, .slice h.ra h.roofs.length h.rc] 25)) (.cells #[.string m.name, .int .i64 m.to, .int .i64 m.spd, .int .i64 m.rise, .int .i64 m.fall] 27));have mat1 := MvAt.new (w.alloc (.cells #[.string h.name, .int .i64 h.height, .slice sa h.sets.length h.sc, .slice h.ra h.roofs.length h.rc] 25)) m 27;have hW0 := (below_new w (.cells #[.string h.name, .int .i64 h.height, .slice sa h.sets.length h.sc, .slice h.ra h.roofs.length h.rc] 25)).alloc (by simp) (.cells #[.string m.name, .int .i64 m.to, .int .i64 m.spd, .int .i64 m.rise, .int .i64 m.fall] 27);have hm1 : (w.alloc (.cells #[.string h.name, .int .i64 h.height, .slice sa h.sets.length h.sc, .slice h.ra h.roofs.length h.rc] 25)).heap.size = w.heap.size + 1 := by simp
  rw [hm1] at mat1;have hm2 : (((w.alloc (.cells #[.string h.name, .int .i64 h.height, .slice sa h.sets.length h.sc, .slice h.ra h.roofs.length h.rc] 25)).alloc (.cells #[.string m.name, .int .i64 m.to, .int .i64 m.spd, .int .i64 m.rise, .int .i64 m.fall] 27))).heap.size = w.heap.size + 1 + 1 := by simp
  generalize ((w.alloc (.cells #[.string h.name, .int .i64 h.height, .slice sa h.sets.length h.sc, .slice h.ra h.roofs.length h.rc] 25)).alloc (.cells #[.string m.name, .int .i64 m.to, .int .i64 m.spd, .int .i64 m.rise, .int .i64 m.fall] 27)) = W0 at *;have hz := ZeroS.new W0;have hbn := below_new W0 (.cells #[.string ⟨#[]⟩, .int .i64 0, .int .i64 0, .int .i64 0, .int .i64 0, .slice none 0 0, .int .i64 0, .int .i64 0, .int .i64 0, .int .i64 0, .int .i64 0, .slice none 0 0, .slice none 0 0] 54);rw [hm2] at hz;have HAT := lh (hat1.carry hbn);have MAT := lh (mat1.carry hbn);have hW1 := hW0.trans (hbn.mono hW0.size);clear hat1 mat1 hW0 hbn hm1 hm2 hat;generalize W0.alloc (.cells #[.string ⟨#[]⟩, .int .i64 0, .int .i64 0, .int .i64 0, .int .i64 0, .slice none 0 0, .int .i64 0, .int .i64 0, .int .i64 0, .int .i64 0, .int .i64 0, .slice none 0 0, .slice none 0 0] 54) = W1 at *;obtain ⟨k0, k1, k2, k3⟩ := HAT.out;rw [HSA.out] at k2
  go_wp2_with (go_at_call 58; (with_reducible refine (HHV.out _ hW1).mono ?_); rintro e w1 ⟨rfl, hb1⟩; rw [H1.out]; clear k0 k1 k2 k3; obtain ⟨k0, k1, k2, k3⟩ := HAT.out.carry hb1; rw [HSA.out] at k2; obtain ⟨m0, m1, m2, m3, m4⟩ := MAT.out.carry hb1; (try clear zf z0 z1 z2 z3 z4 z5 z6 z7 z8 z9 z10 z11 z12); have zf := (hz.carry hb1).free; obtain ⟨z0, z1, z2, z3, z4, z5, z6, z7, z8, z9, z10, z11, z12⟩ := (hz.carry hb1).at0; simp only [zeroS, List.length_nil] at z0 z1 z2 z3 z4 z5 z6 z7 z8 z9 z10 z11 z12)
  have HZZ := lh (hz.carry hb1);have hf := setAt_from zeroS HZZ.out;have hB := below_from (m := w.heap.size) (b := w.heap.size + 1 + 1) (W := w) [.string ⟨#[]⟩, .int .i64 0, .int .i64 0, .int .i64 0, .int .i64 0, .slice none 0 0, .int .i64 0, .int .i64 0, .int .i64 0, .int .i64 0, .int .i64 0, .slice none 0 0, .slice none 0 0] w1 0 (hW1.trans (hb1.mono hW1.size)) (by omega);show bodyPost _ _ _ Exit.ret _ (setFrom w1 (w.heap.size + 1 + 1) 0 [.string ⟨#[]⟩, .int .i64 0, .int .i64 0, .int .i64 0, .int .i64 0, .slice none 0 0, .int .i64 0, .int .i64 0, .int .i64 0, .int .i64 0, .int .i64 0, .slice none 0 0, .slice none 0 0]);have hf : SetAt (setFrom w1 (w.heap.size + 1 + 1) 0 [.string ⟨#[]⟩, .int .i64 0, .int .i64 0, .int .i64 0, .int .i64 0, .slice none 0 0, .int .i64 0, .int .i64 0, .int .i64 0, .int .i64 0, .int .i64 0, .slice none 0 0, .slice none 0 0]) (w.heap.size + 1 + 1) zeroS := hf;generalize setFrom w1 (w.heap.size + 1 + 1) 0 [.string ⟨#[]⟩, .int .i64 0, .int .i64 0, .int .i64 0, .int .i64 0, .slice none 0 0, .int .i64 0, .int .i64 0, .int .i64 0, .int .i64 0, .int .i64 0, .slice none 0 0, .slice none 0 0] = WF at *;obtain ⟨f0, f1, f2, f3, f4, f5, f6, f7, f8, f9, f10, f11, f12⟩ := hf;simp only [zeroS, List.length_nil] at f0 f1 f2 f3 f4 f5 f6 f7 f8 f9 f10 f11 f12;refine bodyPost_ret (v := .tuple #[.agg #[.string ⟨#[]⟩, .int .i64 0, .int .i64 0, .int .i64 0, .int .i64 0, .slice none 0 0, .int .i64 0, .int .i64 0, .int .i64 0, .int .i64 0, .int .i64 0, .slice none 0 0, .slice none 0 0], .int .i64 1]) (by simp [results, Tryz.results48, go_sem, f0, f1, f2, f3, f4, f5, f6, f7, f8, f9, f10, f11, f12]) rfl ⟨?_, hB⟩
  rfl
 have H1 := lh h1
 cases h2 : validM m
 case false =>
  have H2 := lh h2
  have HO : Hid (e = 1 ∧ setO h m = zeroS) := lh (by
   have e1 : setE h m = 1 := by unfold setE; rw [if_neg (fun q => by rw [h2] at q; exact absurd q.2 (by decide))]
   exact ⟨he.symm.trans e1, by unfold setO; rw [if_neg (by rw [e1]; decide)]⟩)
  obtain rfl := HO.out.1;rw [HO.out.2];clear h1 h2 he
  go_enter Tryz.func48, Tryz.ntmps48
  go_upto_region 1 with (fail)
  have hat1 := hat.carry (below_new (w.alloc (.cells #[.string h.name, .int .i64 h.height, .slice sa h.sets.length h.sc, .slice h.ra h.roofs.length h.rc] 25)) (.cells #[.string m.name, .int .i64 m.to, .int .i64 m.spd, .int .i64 m.rise, .int .i64 m.fall] 27));have mat1 := MvAt.new (w.alloc (.cells #[.string h.name, .int .i64 h.height, .slice sa h.sets.length h.sc, .slice h.ra h.roofs.length h.rc] 25)) m 27;have hW0 := (below_new w (.cells #[.string h.name, .int .i64 h.height, .slice sa h.sets.length h.sc, .slice h.ra h.roofs.length h.rc] 25)).alloc (by simp) (.cells #[.string m.name, .int .i64 m.to, .int .i64 m.spd, .int .i64 m.rise, .int .i64 m.fall] 27);have hm1 : (w.alloc (.cells #[.string h.name, .int .i64 h.height, .slice sa h.sets.length h.sc, .slice h.ra h.roofs.length h.rc] 25)).heap.size = w.heap.size + 1 := by simp
  rw [hm1] at mat1;have hm2 : (((w.alloc (.cells #[.string h.name, .int .i64 h.height, .slice sa h.sets.length h.sc, .slice h.ra h.roofs.length h.rc] 25)).alloc (.cells #[.string m.name, .int .i64 m.to, .int .i64 m.spd, .int .i64 m.rise, .int .i64 m.fall] 27))).heap.size = w.heap.size + 1 + 1 := by simp
  generalize ((w.alloc (.cells #[.string h.name, .int .i64 h.height, .slice sa h.sets.length h.sc, .slice h.ra h.roofs.length h.rc] 25)).alloc (.cells #[.string m.name, .int .i64 m.to, .int .i64 m.spd, .int .i64 m.rise, .int .i64 m.fall] 27)) = W0 at *;have hz := ZeroS.new W0;have hbn := below_new W0 (.cells #[.string ⟨#[]⟩, .int .i64 0, .int .i64 0, .int .i64 0, .int .i64 0, .slice none 0 0, .int .i64 0, .int .i64 0, .int .i64 0, .int .i64 0, .int .i64 0, .slice none 0 0, .slice none 0 0] 54);rw [hm2] at hz;have HAT := lh (hat1.carry hbn);have MAT := lh (mat1.carry hbn);have hW1 := hW0.trans (hbn.mono hW0.size);clear hat1 mat1 hW0 hbn hm1 hm2 hat;generalize W0.alloc (.cells #[.string ⟨#[]⟩, .int .i64 0, .int .i64 0, .int .i64 0, .int .i64 0, .slice none 0 0, .int .i64 0, .int .i64 0, .int .i64 0, .int .i64 0, .int .i64 0, .slice none 0 0, .slice none 0 0] 54) = W1 at *;obtain ⟨k0, k1, k2, k3⟩ := HAT.out;rw [HSA.out] at k2
  go_wp2_with (first
   | (go_at_call 58; (with_reducible refine (HHV.out _ hW1).mono ?_); rintro e w1 ⟨rfl, hb1⟩; rw [H1.out]; clear k0 k1 k2 k3; obtain ⟨k0, k1, k2, k3⟩ := HAT.out.carry hb1; rw [HSA.out] at k2; obtain ⟨m0, m1, m2, m3, m4⟩ := MAT.out.carry hb1; (try clear zf z0 z1 z2 z3 z4 z5 z6 z7 z8 z9 z10 z11 z12); have zf := (hz.carry hb1).free; obtain ⟨z0, z1, z2, z3, z4, z5, z6, z7, z8, z9, z10, z11, z12⟩ := (hz.carry hb1).at0; simp only [zeroS, List.length_nil] at z0 z1 z2 z3 z4 z5 z6 z7 z8 z9 z10 z11 z12)
   | (go_at_call 59; (with_reducible refine (valid_anyM m _).mono ?_); rintro e w2 ⟨rfl, hb2⟩; rw [H2.out]; have hb12 := hb1.trans (hb2.mono hb1.size); clear k0 k1 k2 k3 m0 m1 m2 m3 m4; obtain ⟨k0, k1, k2, k3⟩ := HAT.out.carry hb12; rw [HSA.out] at k2; obtain ⟨m0, m1, m2, m3, m4⟩ := MAT.out.carry hb12; (try clear zf z0 z1 z2 z3 z4 z5 z6 z7 z8 z9 z10 z11 z12); have zf := (hz.carry hb12).free; obtain ⟨z0, z1, z2, z3, z4, z5, z6, z7, z8, z9, z10, z11, z12⟩ := (hz.carry hb12).at0; simp only [zeroS, List.length_nil] at z0 z1 z2 z3 z4 z5 z6 z7 z8 z9 z10 z11 z12))
  have HZZ := lh (hz.carry hb12);have hf := setAt_from zeroS HZZ.out;have hB := below_from (m := w.heap.size) (b := w.heap.size + 1 + 1) (W := w) [.string ⟨#[]⟩, .int .i64 0, .int .i64 0, .int .i64 0, .int .i64 0, .slice none 0 0, .int .i64 0, .int .i64 0, .int .i64 0, .int .i64 0, .int .i64 0, .slice none 0 0, .slice none 0 0] w2 0 (hW1.trans (hb12.mono hW1.size)) (by omega);show bodyPost _ _ _ Exit.ret _ (setFrom w2 (w.heap.size + 1 + 1) 0 [.string ⟨#[]⟩, .int .i64 0, .int .i64 0, .int .i64 0, .int .i64 0, .slice none 0 0, .int .i64 0, .int .i64 0, .int .i64 0, .int .i64 0, .int .i64 0, .slice none 0 0, .slice none 0 0]);have hf : SetAt (setFrom w2 (w.heap.size + 1 + 1) 0 [.string ⟨#[]⟩, .int .i64 0, .int .i64 0, .int .i64 0, .int .i64 0, .slice none 0 0, .int .i64 0, .int .i64 0, .int .i64 0, .int .i64 0, .int .i64 0, .slice none 0 0, .slice none 0 0]) (w.heap.size + 1 + 1) zeroS := hf;generalize setFrom w2 (w.heap.size + 1 + 1) 0 [.string ⟨#[]⟩, .int .i64 0, .int .i64 0, .int .i64 0, .int .i64 0, .slice none 0 0, .int .i64 0, .int .i64 0, .int .i64 0, .int .i64 0, .int .i64 0, .slice none 0 0, .slice none 0 0] = WF at *;obtain ⟨f0, f1, f2, f3, f4, f5, f6, f7, f8, f9, f10, f11, f12⟩ := hf;simp only [zeroS, List.length_nil] at f0 f1 f2 f3 f4 f5 f6 f7 f8 f9 f10 f11 f12;refine bodyPost_ret (v := .tuple #[.agg #[.string ⟨#[]⟩, .int .i64 0, .int .i64 0, .int .i64 0, .int .i64 0, .slice none 0 0, .int .i64 0, .int .i64 0, .int .i64 0, .int .i64 0, .int .i64 0, .slice none 0 0, .slice none 0 0], .int .i64 1]) (by simp [results, Tryz.results48, go_sem, f0, f1, f2, f3, f4, f5, f6, f7, f8, f9, f10, f11, f12]) rfl ⟨?_, hB⟩
  rfl
 have H2 := lh h2
 have HIX : Hid (∀ w' : World, Below w.heap.size w w' → ∀ B, MvAt w' B m → Calls Tryz.prog 92 #[.slice sa h.sets.length h.sc, .func (.func 93) #[] #[.pointer (some ⟨B, 0, none⟩)]] w' fun e w2 => e = .returned (.int .i64 (setI h m)) ∧ Below w'.heap.size w' w2) := lh fun w' hb B hB => by
  have := set_indexFunc h.sa h.sets h.sc _ _ _ (fun y => decide (y.name = m.name)) w' ent_mset (by omega) (Nat.le_refl _) ((HH.out.sets).grow hb) (asks_mset hB);rw [HSA.out] at this;exact this
 obtain ⟨I, hI⟩ := nm (setI h m);rw [hI] at HIX
 by_cases h3 : I < 0
 ·have g3 := decide_eq_true h3
  have HO : Hid (e = 9 ∧ setO h m = zeroS) := lh (by
   have e1 : setE h m = 9 := by unfold setE; rw [if_pos ⟨h1, h2⟩, hI, if_pos h3]
   exact ⟨he.symm.trans e1, by unfold setO; rw [if_neg (by rw [e1]; decide)]⟩)
  obtain rfl := HO.out.1;rw [HO.out.2];clear h1 h2 h3 he hI
  go_enter Tryz.func48, Tryz.ntmps48
  go_upto_region 1 with (fail)
  have hat1 := hat.carry (below_new (w.alloc (.cells #[.string h.name, .int .i64 h.height, .slice sa h.sets.length h.sc, .slice h.ra h.roofs.length h.rc] 25)) (.cells #[.string m.name, .int .i64 m.to, .int .i64 m.spd, .int .i64 m.rise, .int .i64 m.fall] 27));have mat1 := MvAt.new (w.alloc (.cells #[.string h.name, .int .i64 h.height, .slice sa h.sets.length h.sc, .slice h.ra h.roofs.length h.rc] 25)) m 27;have hW0 := (below_new w (.cells #[.string h.name, .int .i64 h.height, .slice sa h.sets.length h.sc, .slice h.ra h.roofs.length h.rc] 25)).alloc (by simp) (.cells #[.string m.name, .int .i64 m.to, .int .i64 m.spd, .int .i64 m.rise, .int .i64 m.fall] 27);have hm1 : (w.alloc (.cells #[.string h.name, .int .i64 h.height, .slice sa h.sets.length h.sc, .slice h.ra h.roofs.length h.rc] 25)).heap.size = w.heap.size + 1 := by simp
  rw [hm1] at mat1;have hm2 : (((w.alloc (.cells #[.string h.name, .int .i64 h.height, .slice sa h.sets.length h.sc, .slice h.ra h.roofs.length h.rc] 25)).alloc (.cells #[.string m.name, .int .i64 m.to, .int .i64 m.spd, .int .i64 m.rise, .int .i64 m.fall] 27))).heap.size = w.heap.size + 1 + 1 := by simp
  generalize ((w.alloc (.cells #[.string h.name, .int .i64 h.height, .slice sa h.sets.length h.sc, .slice h.ra h.roofs.length h.rc] 25)).alloc (.cells #[.string m.name, .int .i64 m.to, .int .i64 m.spd, .int .i64 m.rise, .int .i64 m.fall] 27)) = W0 at *;have hz := ZeroS.new W0;have hbn := below_new W0 (.cells #[.string ⟨#[]⟩, .int .i64 0, .int .i64 0, .int .i64 0, .int .i64 0, .slice none 0 0, .int .i64 0, .int .i64 0, .int .i64 0, .int .i64 0, .int .i64 0, .slice none 0 0, .slice none 0 0] 54);rw [hm2] at hz;have HAT := lh (hat1.carry hbn);have MAT := lh (mat1.carry hbn);have hW1 := hW0.trans (hbn.mono hW0.size);clear hat1 mat1 hW0 hbn hm1 hm2 hat;generalize W0.alloc (.cells #[.string ⟨#[]⟩, .int .i64 0, .int .i64 0, .int .i64 0, .int .i64 0, .slice none 0 0, .int .i64 0, .int .i64 0, .int .i64 0, .int .i64 0, .int .i64 0, .slice none 0 0, .slice none 0 0] 54) = W1 at *;obtain ⟨k0, k1, k2, k3⟩ := HAT.out;rw [HSA.out] at k2
  go_wp2_with (first
   | (go_at_call 58; (with_reducible refine (HHV.out _ hW1).mono ?_); rintro e w1 ⟨rfl, hb1⟩; rw [H1.out]; clear k0 k1 k2 k3; obtain ⟨k0, k1, k2, k3⟩ := HAT.out.carry hb1; rw [HSA.out] at k2; obtain ⟨m0, m1, m2, m3, m4⟩ := MAT.out.carry hb1; (try clear zf z0 z1 z2 z3 z4 z5 z6 z7 z8 z9 z10 z11 z12); have zf := (hz.carry hb1).free; obtain ⟨z0, z1, z2, z3, z4, z5, z6, z7, z8, z9, z10, z11, z12⟩ := (hz.carry hb1).at0; simp only [zeroS, List.length_nil] at z0 z1 z2 z3 z4 z5 z6 z7 z8 z9 z10 z11 z12)
   | (go_at_call 59; (with_reducible refine (valid_anyM m _).mono ?_); rintro e w2 ⟨rfl, hb2⟩; rw [H2.out]; have hb12 := hb1.trans (hb2.mono hb1.size); clear k0 k1 k2 k3 m0 m1 m2 m3 m4; obtain ⟨k0, k1, k2, k3⟩ := HAT.out.carry hb12; rw [HSA.out] at k2; obtain ⟨m0, m1, m2, m3, m4⟩ := MAT.out.carry hb12; (try clear zf z0 z1 z2 z3 z4 z5 z6 z7 z8 z9 z10 z11 z12); have zf := (hz.carry hb12).free; obtain ⟨z0, z1, z2, z3, z4, z5, z6, z7, z8, z9, z10, z11, z12⟩ := (hz.carry hb12).at0; simp only [zeroS, List.length_nil] at z0 z1 z2 z3 z4 z5 z6 z7 z8 z9 z10 z11 z12)
   | (go_at_call 92; (with_reducible refine (HIX.out _ (hW1.trans (hb12.mono hW1.size)) _ (MAT.out.carry hb12)).mono ?_); rintro e w3 ⟨rfl, hb3⟩; have hb13 := hb12.trans (hb3.mono hb12.size); (try clear zf z0 z1 z2 z3 z4 z5 z6 z7 z8 z9 z10 z11 z12); have zf := (hz.carry hb13).free; obtain ⟨z0, z1, z2, z3, z4, z5, z6, z7, z8, z9, z10, z11, z12⟩ := (hz.carry hb13).at0; simp only [zeroS, List.length_nil] at z0 z1 z2 z3 z4 z5 z6 z7 z8 z9 z10 z11 z12))
  have HZZ := lh (hz.carry hb13);have hf := setAt_from zeroS HZZ.out;have hB := below_from (m := w.heap.size) (b := w.heap.size + 1 + 1) (W := w) [.string ⟨#[]⟩, .int .i64 0, .int .i64 0, .int .i64 0, .int .i64 0, .slice none 0 0, .int .i64 0, .int .i64 0, .int .i64 0, .int .i64 0, .int .i64 0, .slice none 0 0, .slice none 0 0] w3 0 (hW1.trans (hb13.mono hW1.size)) (by omega);show bodyPost _ _ _ Exit.ret _ (setFrom w3 (w.heap.size + 1 + 1) 0 [.string ⟨#[]⟩, .int .i64 0, .int .i64 0, .int .i64 0, .int .i64 0, .slice none 0 0, .int .i64 0, .int .i64 0, .int .i64 0, .int .i64 0, .int .i64 0, .slice none 0 0, .slice none 0 0]);have hf : SetAt (setFrom w3 (w.heap.size + 1 + 1) 0 [.string ⟨#[]⟩, .int .i64 0, .int .i64 0, .int .i64 0, .int .i64 0, .slice none 0 0, .int .i64 0, .int .i64 0, .int .i64 0, .int .i64 0, .int .i64 0, .slice none 0 0, .slice none 0 0]) (w.heap.size + 1 + 1) zeroS := hf;generalize setFrom w3 (w.heap.size + 1 + 1) 0 [.string ⟨#[]⟩, .int .i64 0, .int .i64 0, .int .i64 0, .int .i64 0, .slice none 0 0, .int .i64 0, .int .i64 0, .int .i64 0, .int .i64 0, .int .i64 0, .slice none 0 0, .slice none 0 0] = WF at *;obtain ⟨f0, f1, f2, f3, f4, f5, f6, f7, f8, f9, f10, f11, f12⟩ := hf;simp only [zeroS, List.length_nil] at f0 f1 f2 f3 f4 f5 f6 f7 f8 f9 f10 f11 f12;refine bodyPost_ret (v := .tuple #[.agg #[.string ⟨#[]⟩, .int .i64 0, .int .i64 0, .int .i64 0, .int .i64 0, .slice none 0 0, .int .i64 0, .int .i64 0, .int .i64 0, .int .i64 0, .int .i64 0, .slice none 0 0, .slice none 0 0], .int .i64 9]) (by simp [results, Tryz.results48, go_sem, f0, f1, f2, f3, f4, f5, f6, f7, f8, f9, f10, f11, f12]) rfl ⟨?_, hB⟩
  rfl
 ·have g3 := decide_eq_false h3
  have e1 : setE h m = 0 := by unfold setE; rw [if_pos ⟨h1, h2⟩, hI, if_neg h3]
  obtain ⟨_, _, q0, q1, q2⟩ := set_ok e1;obtain ⟨k, rfl⟩ : ∃ k : Nat, I = (k : Int) := ⟨I.toNat, by omega⟩;rw [hI] at q1 q2;rw [Int.toNat_natCast] at q1 q2;have HO : Hid (e = 0 ∧ setO h m = hg h.sets k) := lh ⟨he.symm.trans e1, q2⟩;obtain rfl := HO.out.1;rw [HO.out.2];have i0 : (0 : Int) ≤ (k : Int) := by omega
  have i1 : (k : Int) < (h.sets.length : Int) := by omega
  obtain ⟨b, off, esa, hb, hc⟩ := HH.out.sets (by omega);obtain rfl : sa = some ⟨b, off, none⟩ := HSA.out.symm.trans esa;have HC := lh (hc k q1);clear h1 h2 h3 he hI hc esa e1 q0 q2;generalize hg h.sets k = x at *
  go_enter Tryz.func48, Tryz.ntmps48
  go_upto_region 1 with (fail)
  have hat1 := hat.carry (below_new (w.alloc (.cells #[.string h.name, .int .i64 h.height, .slice (some ⟨b, off, none⟩) h.sets.length h.sc, .slice h.ra h.roofs.length h.rc] 25)) (.cells #[.string m.name, .int .i64 m.to, .int .i64 m.spd, .int .i64 m.rise, .int .i64 m.fall] 27));have mat1 := MvAt.new (w.alloc (.cells #[.string h.name, .int .i64 h.height, .slice (some ⟨b, off, none⟩) h.sets.length h.sc, .slice h.ra h.roofs.length h.rc] 25)) m 27;have hW0 := (below_new w (.cells #[.string h.name, .int .i64 h.height, .slice (some ⟨b, off, none⟩) h.sets.length h.sc, .slice h.ra h.roofs.length h.rc] 25)).alloc (by simp) (.cells #[.string m.name, .int .i64 m.to, .int .i64 m.spd, .int .i64 m.rise, .int .i64 m.fall] 27);have hm1 : (w.alloc (.cells #[.string h.name, .int .i64 h.height, .slice (some ⟨b, off, none⟩) h.sets.length h.sc, .slice h.ra h.roofs.length h.rc] 25)).heap.size = w.heap.size + 1 := by simp
  rw [hm1] at mat1;have hm2 : (((w.alloc (.cells #[.string h.name, .int .i64 h.height, .slice (some ⟨b, off, none⟩) h.sets.length h.sc, .slice h.ra h.roofs.length h.rc] 25)).alloc (.cells #[.string m.name, .int .i64 m.to, .int .i64 m.spd, .int .i64 m.rise, .int .i64 m.fall] 27))).heap.size = w.heap.size + 1 + 1 := by simp
  generalize ((w.alloc (.cells #[.string h.name, .int .i64 h.height, .slice (some ⟨b, off, none⟩) h.sets.length h.sc, .slice h.ra h.roofs.length h.rc] 25)).alloc (.cells #[.string m.name, .int .i64 m.to, .int .i64 m.spd, .int .i64 m.rise, .int .i64 m.fall] 27)) = W0 at *;have hz := ZeroS.new W0;have hbn := below_new W0 (.cells #[.string ⟨#[]⟩, .int .i64 0, .int .i64 0, .int .i64 0, .int .i64 0, .slice none 0 0, .int .i64 0, .int .i64 0, .int .i64 0, .int .i64 0, .int .i64 0, .slice none 0 0, .slice none 0 0] 54);rw [hm2] at hz;have HAT := lh (hat1.carry hbn);have MAT := lh (mat1.carry hbn);have hW1 := hW0.trans (hbn.mono hW0.size);clear hat1 mat1 hW0 hbn hm1 hm2 hat;generalize W0.alloc (.cells #[.string ⟨#[]⟩, .int .i64 0, .int .i64 0, .int .i64 0, .int .i64 0, .slice none 0 0, .int .i64 0, .int .i64 0, .int .i64 0, .int .i64 0, .int .i64 0, .slice none 0 0, .slice none 0 0] 54) = W1 at *;obtain ⟨k0, k1, k2, k3⟩ := HAT.out;rw [HSA.out] at k2
  go_wp2_with (first
   | (go_at_call 58; (with_reducible refine (HHV.out _ hW1).mono ?_); rintro e w1 ⟨rfl, hb1⟩; rw [H1.out]; clear k0 k1 k2 k3; obtain ⟨k0, k1, k2, k3⟩ := HAT.out.carry hb1; rw [HSA.out] at k2; obtain ⟨m0, m1, m2, m3, m4⟩ := MAT.out.carry hb1; (try clear zf z0 z1 z2 z3 z4 z5 z6 z7 z8 z9 z10 z11 z12); have zf := (hz.carry hb1).free; obtain ⟨z0, z1, z2, z3, z4, z5, z6, z7, z8, z9, z10, z11, z12⟩ := (hz.carry hb1).at0; simp only [zeroS, List.length_nil] at z0 z1 z2 z3 z4 z5 z6 z7 z8 z9 z10 z11 z12)
   | (go_at_call 59; (with_reducible refine (valid_anyM m _).mono ?_); rintro e w2 ⟨rfl, hb2⟩; rw [H2.out]; have hb12 := hb1.trans (hb2.mono hb1.size); clear k0 k1 k2 k3 m0 m1 m2 m3 m4; obtain ⟨k0, k1, k2, k3⟩ := HAT.out.carry hb12; rw [HSA.out] at k2; obtain ⟨m0, m1, m2, m3, m4⟩ := MAT.out.carry hb12; (try clear zf z0 z1 z2 z3 z4 z5 z6 z7 z8 z9 z10 z11 z12); have zf := (hz.carry hb12).free; obtain ⟨z0, z1, z2, z3, z4, z5, z6, z7, z8, z9, z10, z11, z12⟩ := (hz.carry hb12).at0; simp only [zeroS, List.length_nil] at z0 z1 z2 z3 z4 z5 z6 z7 z8 z9 z10 z11 z12)
   | (go_at_call 92; (with_reducible refine (HIX.out _ (hW1.trans (hb12.mono hW1.size)) _ (MAT.out.carry hb12)).mono ?_); rintro e w3 ⟨rfl, hb3⟩; have hb13 := hb12.trans (hb3.mono hb12.size); clear k0 k1 k2 k3 m0 m1 m2 m3 m4; obtain ⟨k0, k1, k2, k3⟩ := HAT.out.carry hb13; rw [HSA.out] at k2; obtain ⟨c0, c1, c2, c3, c4, c5, c6, c7, c8, c9, c10, c11, c12⟩ := HC.out; have hbw := hW1.trans (hb13.mono hW1.size); replace c0 := (hbw.cell (p := ⟨b, _, none⟩) hb).trans c0; replace c1 := (hbw.cell (p := ⟨b, _, none⟩) hb).trans c1; replace c2 := (hbw.cell (p := ⟨b, _, none⟩) hb).trans c2; replace c3 := (hbw.cell (p := ⟨b, _, none⟩) hb).trans c3; replace c4 := (hbw.cell (p := ⟨b, _, none⟩) hb).trans c4; replace c5 := (hbw.cell (p := ⟨b, _, none⟩) hb).trans c5; replace c6 := (hbw.cell (p := ⟨b, _, none⟩) hb).trans c6; replace c7 := (hbw.cell (p := ⟨b, _, none⟩) hb).trans c7; replace c8 := (hbw.cell (p := ⟨b, _, none⟩) hb).trans c8; replace c9 := (hbw.cell (p := ⟨b, _, none⟩) hb).trans c9; replace c10 := (hbw.cell (p := ⟨b, _, none⟩) hb).trans c10; replace c11 := (hbw.cell (p := ⟨b, _, none⟩) hb).trans c11; replace c12 := (hbw.cell (p := ⟨b, _, none⟩) hb).trans c12; (try clear zf z0 z1 z2 z3 z4 z5 z6 z7 z8 z9 z10 z11 z12); have zf := (hz.carry hb13).free; obtain ⟨z0, z1, z2, z3, z4, z5, z6, z7, z8, z9, z10, z11, z12⟩ := (hz.carry hb13).at0; simp only [zeroS, List.length_nil] at z0 z1 z2 z3 z4 z5 z6 z7 z8 z9 z10 z11 z12))
  have HZZ := lh (hz.carry hb13);have hf := setAt_from x HZZ.out;have hB := below_from (m := w.heap.size) (b := w.heap.size + 1 + 1) (W := w) [.string x.name, .int .i64 x.depth, .int .i64 x.low, .int .i64 x.high, .int .i64 x.length, .slice x.la x.lines.length x.lc, .int .i64 x.pipe, .int .i64 x.arbor, .int .i64 x.purchase, .int .i64 x.most, .int .i64 x.brake, .slice x.ia x.items.length x.ic, .slice x.ba x.bricks.length x.bc] w3 0 (hW1.trans (hb13.mono hW1.size)) (by omega);show bodyPost _ _ _ Exit.ret _ (setFrom w3 (w.heap.size + 1 + 1) 0 [.string x.name, .int .i64 x.depth, .int .i64 x.low, .int .i64 x.high, .int .i64 x.length, .slice x.la x.lines.length x.lc, .int .i64 x.pipe, .int .i64 x.arbor, .int .i64 x.purchase, .int .i64 x.most, .int .i64 x.brake, .slice x.ia x.items.length x.ic, .slice x.ba x.bricks.length x.bc]);have hf : SetAt (setFrom w3 (w.heap.size + 1 + 1) 0 [.string x.name, .int .i64 x.depth, .int .i64 x.low, .int .i64 x.high, .int .i64 x.length, .slice x.la x.lines.length x.lc, .int .i64 x.pipe, .int .i64 x.arbor, .int .i64 x.purchase, .int .i64 x.most, .int .i64 x.brake, .slice x.ia x.items.length x.ic, .slice x.ba x.bricks.length x.bc]) (w.heap.size + 1 + 1) x := hf;generalize setFrom w3 (w.heap.size + 1 + 1) 0 [.string x.name, .int .i64 x.depth, .int .i64 x.low, .int .i64 x.high, .int .i64 x.length, .slice x.la x.lines.length x.lc, .int .i64 x.pipe, .int .i64 x.arbor, .int .i64 x.purchase, .int .i64 x.most, .int .i64 x.brake, .slice x.ia x.items.length x.ic, .slice x.ba x.bricks.length x.bc] = WF at *;obtain ⟨f0, f1, f2, f3, f4, f5, f6, f7, f8, f9, f10, f11, f12⟩ := hf;refine bodyPost_ret (v := .tuple #[.agg #[.string x.name, .int .i64 x.depth, .int .i64 x.low, .int .i64 x.high, .int .i64 x.length, .slice x.la x.lines.length x.lc, .int .i64 x.pipe, .int .i64 x.arbor, .int .i64 x.purchase, .int .i64 x.most, .int .i64 x.brake, .slice x.ia x.items.length x.ic, .slice x.ba x.bricks.length x.bc], .int .i64 0]) (by simp [results, Tryz.results48, go_sem, f0, f1, f2, f3, f4, f5, f6, f7, f8, f9, f10, f11, f12]) rfl ⟨?_, hB⟩
  rfl
end
section
open Go.RowKit
structure Sm (b : Nat) (e : Int) (w w' : World) : Prop where
 os : w'.os = w.os
 tape : w'.tape = w.tape
 output : w'.output = w.output
 size : w.heap.size ≤ w'.heap.size
 block : ∀ k, k < w.heap.size → k ≠ b → w'.heap[k]? = w.heap[k]?
 cell : w'.cell? ⟨b, 0, none⟩ = some (.int .i64 e)
 free : w'.frozen? ⟨b, 0, none⟩ = false
theorem Sm.of {b : Nat} {e : Int} {w w' : World} (h : Below w.heap.size w w') (hc : w.cell? ⟨b, 0, none⟩ = some (.int .i64 e)) (hf : w.frozen? ⟨b, 0, none⟩ = false) : Sm b e w w' := by
 have hb : b < w.heap.size := wl hc;exact ⟨h.os, h.tape, h.output, h.size, fun k hk _ => h.block k hk, (h.cell (p := ⟨b, 0, none⟩) hb).trans hc, (h.frozen (p := ⟨b, 0, none⟩) hb).trans hf⟩
theorem Sm.refl {b : Nat} {e : Int} {w : World} (hc : w.cell? ⟨b, 0, none⟩ = some (.int .i64 e)) (hf : w.frozen? ⟨b, 0, none⟩ = false) : Sm b e w w := Sm.of br hc hf
theorem Sm.trans {b : Nat} {e e' : Int} {w w1 w2 : World} (h : Sm b e w w1) (k : Sm b e' w1 w2) : Sm b e' w w2 :=
 ⟨k.os.trans h.os, k.tape.trans h.tape, k.output.trans h.output, Nat.le_trans h.size k.size, fun i hi hne => (k.block i (Nat.lt_of_lt_of_le hi h.size) hne).trans (h.block i hi hne), k.cell, k.free⟩
theorem Sm.lt {b : Nat} {e : Int} {w w' : World} (h : Sm b e w w') : b < w'.heap.size := wl h.cell
theorem Sm.then {b : Nat} {e : Int} {w w1 w2 : World} (h : Sm b e w w1) (k : Below w1.heap.size w1 w2) : Sm b e w w2 := h.trans (Sm.of k h.cell h.free)
theorem Sm.below {b n : Nat} {e : Int} {w w' : World} (h : Sm b e w w') (hn : n ≤ b) (hw : n ≤ w.heap.size) : Below n w w' :=
 ⟨h.os, h.tape, h.output, h.size, fun k hk => h.block k (by omega) (by omega)⟩
theorem Sm.other {b : Nat} {e : Int} {w w' : World} (h : Sm b e w w') {p : Addr} (hp : p.block < w.heap.size) (hne : p.block ≠ b) : w'.cell? p = w.cell? p := World.cell?_of_block (w := w) (h.block p.block hp hne)
theorem Sm.otherF {b : Nat} {e : Int} {w w' : World} (h : Sm b e w w') {p : Addr} (hp : p.block < w.heap.size) (hne : p.block ≠ b) : w'.frozen? p = w.frozen? p := World.frozen?_of_block (w := w) (h.block p.block hp hne)
theorem Sm.set {b : Nat} {e : Int} {w : World} (e' : Int) (hc : w.cell? ⟨b, 0, none⟩ = some (.int .i64 e)) (hf : w.frozen? ⟨b, 0, none⟩ = false) : Sm b e' w (w.setCell ⟨b, 0, none⟩ (.int .i64 e')) :=
 ⟨rfl, rfl, rfl, by simp [World.setCell], fun k _ hne => Below.heap_setCell _ _ _ _ hne, World.cell?_setCell_same _ _ _ hc, by simpa using hf⟩
theorem Sm.from {b : Nat} {e : Int} {w w1 w2 : World} (h : Below w.heap.size w w1) (_ : b < w.heap.size) (k : Sm b e w1 w2) : Sm b e w w2 :=
 ⟨k.os.trans h.os, k.tape.trans h.tape, k.output.trans h.output, Nat.le_trans h.size k.size, fun i hi hne => (k.block i (Nat.lt_of_lt_of_le hi h.size) hne).trans (h.block i hi), k.cell, k.free⟩
theorem Sm.drew {b : Nat} {e : Int} {w w' : World} (h : Sm b e w w') : Sm b e w w'.drew := ⟨h.os, h.tape, h.output, h.size, h.block, h.cell, h.free⟩
theorem Sm.setCell {b : Nat} {e : Int} {w w' : World} (h : Sm b e w w') {p : Addr} (hp : w.heap.size ≤ p.block) (hb : b < w.heap.size) (u : Value) : Sm b e w (w'.setCell p u) :=
 ⟨h.os, h.tape, h.output, by have := h.size; simp [World.setCell]; omega, fun k hk hne => (Below.heap_setCell _ _ _ _ (by omega)).trans (h.block k hk hne), (World.cell?_setCell_other _ _ _ _ (fun x => by have := congrArg Addr.block x; simp at this; omega)).trans h.cell, by simpa using h.free⟩
theorem Sm.alloc {b : Nat} {e : Int} {w w' : World} (h : Sm b e w w') (o : Obj) : Sm b e w (w'.alloc o) := h.then ((br).alloc (Nat.le_refl _) o)
end
section
open Go.RowKit Go.Shelf
def FI (w : World) (B : Nat) (h l : Int) : Prop := w.cell? ⟨B, 0, none⟩ = some (.int .i64 h) ∧ w.cell? ⟨B, 1, none⟩ = some (.int .i64 l) ∧ w.frozen? ⟨B, 0, none⟩ = false ∧ w.frozen? ⟨B, 1, none⟩ = false ∧ B < w.heap.size
theorem FI.carry {W w : World} {B : Nat} {x y : Int} (f : FI W B x y) (h : Below W.heap.size W w) : FI w B x y :=
 ⟨(h.cell (p := ⟨B, 0, none⟩) f.2.2.2.2).trans f.1, (h.cell (p := ⟨B, 1, none⟩) f.2.2.2.2).trans f.2.1, (h.frozen (p := ⟨B, 0, none⟩) f.2.2.2.2).trans f.2.2.1, (h.frozen (p := ⟨B, 1, none⟩) f.2.2.2.2).trans f.2.2.2.1, Nat.lt_of_lt_of_le f.2.2.2.2 h.size⟩
theorem FI.sm {W w : World} {B b : Nat} {x y e : Int} (f : FI W B x y) (h : Sm b e W w) (hne : B ≠ b) : FI w B x y :=
 ⟨(h.other (p := ⟨B, 0, none⟩) f.2.2.2.2 hne).trans f.1, (h.other (p := ⟨B, 1, none⟩) f.2.2.2.2 hne).trans f.2.1, (h.otherF (p := ⟨B, 0, none⟩) f.2.2.2.2 hne).trans f.2.2.1, (h.otherF (p := ⟨B, 1, none⟩) f.2.2.2.2 hne).trans f.2.2.2.1, Nat.lt_of_lt_of_le f.2.2.2.2 h.size⟩
theorem FI.set {w : World} {B : Nat} {x y : Int} (f : FI w B x y) (h l : Int) : FI ((w.setCell ⟨B, 0, none⟩ (.int .i64 h)).setCell ⟨B, 1, none⟩ (.int .i64 l)) B h l := by
 obtain ⟨d0, d1⟩ := two_cells (v0 := .int .i64 h) (v1 := .int .i64 l) f.1 f.2.1;exact ⟨d0, d1, by simpa using f.2.2.1, by simpa using f.2.2.2.1, by simpa using f.2.2.2.2⟩
theorem FI.other {w : World} {B C : Nat} {x y : Int} (f : FI w C x y) (hne : C ≠ B) (u v : Value) : FI ((w.setCell ⟨B, 0, none⟩ u).setCell ⟨B, 1, none⟩ v) C x y :=
 ⟨(two_other hne _ _ _).trans f.1, (two_other hne _ _ _).trans f.2.1, by simpa using f.2.2.1, by simpa using f.2.2.2.1, by simpa using f.2.2.2.2⟩
theorem FI.new (w : World) (t : TypeId) : FI (w.alloc (.cells #[.int .i64 0, .int .i64 0] t)) w.heap.size 0 0 := ⟨by simp, by simp, by simp, by simp, by simp⟩
theorem FI.put (w : World) (x y : Int) (t : TypeId) : FI (w.alloc (.cells #[.int .i64 x, .int .i64 y] t)) w.heap.size x y := ⟨by simp, by simp, by simp, by simp, by simp⟩
end
section
open Go.RowKit Go.Shelf
attribute [local go_sem] Oper.semAt_some
theorem lwhole_any (n : Int) (w : World) : Calls Tryz.prog 23 #[.int .i64 n] w fun e w' => e = .returned (.agg #[.int .i64 n, .int .i64 1]) ∧ Below w.heap.size w w' := by
 go_enter Tryz.func23, Tryz.ntmps23
 go_wp2_with fail
 refine bodyPost_ret (v := .agg #[.int .i64 n, .int .i64 1]) (by simp [results, Tryz.results23, go_sem]) rfl ⟨rfl, ?_⟩;exact below_new _ _
noncomputable def fewB (h : HouseR) (m : Mv) : Bool := smallHB h 8 && decide ((m.name.size : Int) ≤ 60)
theorem few_in {w : World} {h : HouseR} {m : Mv} (x : HouseIn0 w h) (s : fewB h m = true) : HouseIn w h := smallH_in (by decide) x (smallH_iff.1 (Bool.and_eq_true_iff.1 s).1)
theorem few_any (h : HouseR) (m : Mv) (w : World) (hh : HouseIn0 w h) :
  Calls Tryz.prog 6 #[.agg #[.string h.name, .int .i64 h.height, .slice h.sa h.sets.length h.sc, .slice h.ra h.roofs.length h.rc], .agg #[.string m.name, .int .i64 m.to, .int .i64 m.spd, .int .i64 m.rise, .int .i64 m.fall]] w fun e w' => e = .returned (.bool (fewB h m)) ∧ Below w.heap.size w w' := by
 obtain ⟨b, hb⟩ := nm (smallHB h 8)
 have HS : Hid (∀ w' : World, Below w.heap.size w w' → Calls Tryz.prog 24 #[.agg #[.string h.name, .int .i64 h.height, .slice h.sa h.sets.length h.sc, .slice h.ra h.roofs.length h.rc], .int .i64 8] w' fun e w2 => e = .returned (.bool b) ∧ Below w'.heap.size w' w2) := lh fun w' hb' => by
  have := smallH_any h 8 (by decide) (by decide) w' (hh.grow hb')
  rwa [hb] at this
 have HE : Hid (fewB h m = (b && decide ((m.name.size : Int) ≤ 60))) := lh (by unfold fewB; rw [hb]);rw [HE.out];clear hh hb HE
 go_enter Tryz.func6, Tryz.ntmps6
 go_upto_region 1 with (fail)
 have hat1 := (HouseAt.new w h 25).carry (below_new (w.alloc (LHo h)) (.cells #[.string m.name, .int .i64 m.to, .int .i64 m.spd, .int .i64 m.rise, .int .i64 m.fall] 27));have mat1 := MvAt.new (w.alloc (LHo h)) m 27;have hW0 := (below_new w (LHo h)).alloc (by simp) (.cells #[.string m.name, .int .i64 m.to, .int .i64 m.spd, .int .i64 m.rise, .int .i64 m.fall] 27);have hm1 : (w.alloc (LHo h)).heap.size = w.heap.size + 1 := by simp
 rw [hm1] at mat1;generalize ((w.alloc (LHo h)).alloc (.cells #[.string m.name, .int .i64 m.to, .int .i64 m.spd, .int .i64 m.rise, .int .i64 m.fall] 27)) = W0 at *;have HAT := lh hat1;have MAT := lh mat1;clear hat1 mat1 hm1;obtain ⟨k0, k1, k2, k3⟩ := HAT.out;have hz : w.heap.size + 1 < W0.heap.size := wl MAT.out.1;have KM : ∀ w1 : World, Below W0.heap.size W0 w1 → w1.cell? ⟨w.heap.size + 1, 0, none⟩ = some (.string m.name) := fun w1 h1 => (MAT.out.carry h1).1
 cases b
 ·go_wp2_with (go_at_call 24; (with_reducible refine (HS.out _ hW0).mono ?_); rintro e w1 ⟨rfl, hb1⟩; have m0 := KM _ hb1)
  go_ret;exact ⟨rfl, hW0.trans (hb1.mono hW0.size)⟩
 ·go_wp2_with (go_at_call 24; (with_reducible refine (HS.out _ hW0).mono ?_); rintro e w1 ⟨rfl, hb1⟩; have m0 := KM _ hb1)
  go_ret;exact ⟨by simp, hW0.trans (hb1.mono hW0.size)⟩
def exS (a : Option Addr) : SetR := ⟨⟨#[115]⟩, 0, 0, 5000, 1000, a, [0, 1000], 2, 0, 0, 1, 1, 0, none, [], 0, none, [], 0⟩
def exH (a s : Option Addr) : HouseR := ⟨⟨#[104]⟩, 5000, s, [exS a], 1, none, [], 0⟩
def exV : Mv := ⟨⟨#[115]⟩, 1000, 100, 50, 100⟩
theorem exS_ok (a : Option Addr) : setB (exS a) = true := by rfl
theorem exH_ok (a s : Option Addr) : houseB (exH a s) = true := by
 refine houseB_iff.2 ⟨by rfl, by show (1 : Int) ≤ 5000; decide, by show (5000 : Int) ≤ 1048576; decide, by show 1 ≤ 60; decide, ⟨by show 0 ≤ 20; decide, fun k hk => absurd hk (Nat.not_lt_zero _)⟩, fun k hk => ?_⟩;obtain rfl : k = 0 := Nat.lt_one_iff.1 hk;exact ⟨exS_ok a, by show (5000 : Int) ≤ 5000; decide, fun j hj => absurd hj (Nat.not_lt_zero _)⟩
theorem exH_in (w : World) (b1 b2 : Nat) (l1 : b1 < w.heap.size) (l2 : b2 < w.heap.size) (c0 : w.cell? ⟨b1, 0, none⟩ = some (.int .i64 0)) (c1 : w.cell? ⟨b1, 1, none⟩ = some (.int .i64 1000))
  (s : SetAt w b2 (exS (some ⟨b1, 0, none⟩))) : HouseIn w (exH (some ⟨b1, 0, none⟩) (some ⟨b2, 0, none⟩)) := by
 obtain ⟨s0, s1, s2, s3, s4, s5, s6, s7, s8, s9, s10, s11, s12⟩ := s
 have hs : SetIn0 w (exS (some ⟨b1, 0, none⟩)) := ⟨fun _ => ⟨b1, 0, rfl, l1, fun i hi => by
  rcases (show i = 0 ∨ i = 1 from by have : i < 2 := hi; omega) with rfl | rfl
  ·exact c0
  ·exact c1⟩, Items.nil, Bricks.nil, by show 2 ≤ 2; decide, by show 0 ≤ 0; decide, by show 0 ≤ 0; decide, (fun e => by cases e), fun _ => rfl, fun _ => rfl⟩
 refine ⟨⟨fun _ => ⟨b2, 0, rfl, l2, fun i hi => ?_⟩, Roofs.nil, fun i hi => ?_, by show 1 ≤ 1; decide, by show 0 ≤ 0; decide, fun e => (by cases e), fun _ => rfl⟩, fun i hi => ?_, by show 1 ≤ 1000; decide, by show 0 ≤ 1000; decide⟩
 ·obtain rfl : i = 0 := Nat.lt_one_iff.1 hi
  exact ⟨s0, s1, s2, s3, s4, s5, s6, s7, s8, s9, s10, s11, s12⟩
 ·obtain rfl : i = 0 := Nat.lt_one_iff.1 hi
  exact hs
 ·obtain rfl : i = 0 := Nat.lt_one_iff.1 hi
  exact ⟨hs, fun x hx => absurd hx (by simp [exS, exH, hg]), fun x hx => absurd hx (by simp [exS, exH, hg])⟩
theorem ex_world (n : Nat) (W2 : World) (o : Obj) (h2 : W2.heap.size = n) (ti : TypeId) (t : TypeId) :
  HouseIn (((W2.alloc (.cells #[.int .i64 0, .int .i64 1000] ti)).alloc o).alloc (.cells #[.string ⟨#[115]⟩, .int .i64 0, .int .i64 0, .int .i64 5000, .int .i64 1000, .slice (some ⟨n, 0, none⟩) 2 2, .int .i64 0, .int .i64 0, .int .i64 1, .int .i64 1, .int .i64 0, .slice none 0 0, .slice none 0 0] t)) (exH (some ⟨n, 0, none⟩) (some ⟨n + 1 + 1, 0, none⟩)) := by
 subst h2;have s := SetAt.new ((W2.alloc (.cells #[.int .i64 0, .int .i64 1000] ti)).alloc o) (exS (some ⟨W2.heap.size, 0, none⟩)) t;have hz : ((W2.alloc (.cells #[.int .i64 0, .int .i64 1000] ti)).alloc o).heap.size = W2.heap.size + 1 + 1 := by simp
 rw [hz] at s;have c0 : (W2.alloc (.cells #[.int .i64 0, .int .i64 1000] ti)).cell? ⟨W2.heap.size, 0, none⟩ = some (.int .i64 0) := by simp
 have c1 : (W2.alloc (.cells #[.int .i64 0, .int .i64 1000] ti)).cell? ⟨W2.heap.size, 1, none⟩ = some (.int .i64 1000) := by simp
 have hl : W2.heap.size < (W2.alloc (.cells #[.int .i64 0, .int .i64 1000] ti)).heap.size := by simp
 have hb := (below_new (W2.alloc (.cells #[.int .i64 0, .int .i64 1000] ti)) o).alloc (by simp) (.cells #[.string ⟨#[115]⟩, .int .i64 0, .int .i64 0, .int .i64 5000, .int .i64 1000, .slice (some ⟨W2.heap.size, 0, none⟩) 2 2, .int .i64 0, .int .i64 0, .int .i64 1, .int .i64 1, .int .i64 0, .slice none 0 0, .slice none 0 0] t);exact exH_in _ _ _ (by simp <;> omega) (by simp <;> omega) ((hb.cell (p := ⟨W2.heap.size, 0, none⟩) hl).trans c0) ((hb.cell (p := ⟨W2.heap.size, 1, none⟩) hl).trans c1) s
theorem example_any (w : World) : Calls Tryz.prog 22 #[] w fun e w' => Hid (∃ a s, e = .returned (.tuple #[.agg #[.string ⟨#[104]⟩, .int .i64 5000, .slice s 1 1, .slice none 0 0], .agg #[.string ⟨#[115]⟩, .int .i64 1000, .int .i64 100, .int .i64 50, .int .i64 100]]) ∧ HouseIn w' (exH a s)) ∧ Below w.heap.size w w' := by
 go_enter Tryz.func22, Tryz.ntmps22
 go_wp2_with fail
 refine bodyPost_ret (v := .tuple #[.agg #[.string ⟨#[104]⟩, .int .i64 5000, .slice (some ⟨w.heap.size + 1 + 1 + 1 + 1, 0, none⟩) 1 1, .slice none 0 0], .agg #[.string ⟨#[115]⟩, .int .i64 1000, .int .i64 100, .int .i64 50, .int .i64 100]]) (by simp [results, Tryz.results22, go_sem]) rfl ⟨lh ⟨some ⟨w.heap.size + 1 + 1, 0, none⟩, some ⟨w.heap.size + 1 + 1 + 1 + 1, 0, none⟩, rfl, ex_world _ _ _ (by simp) _ _⟩, ?_⟩;exact (((((below_new w _).alloc (by simp) _).alloc (by simp <;> omega) _).alloc (by simp <;> omega) _).alloc (by simp <;> omega) _)
end
section
def tN (d R F t : Int) : Int := 2 * R * F * d + t * t * (R + F)
def tD (R F t : Int) : Int := 2 * R * F * t
theorem posD {R F : Int} (hR : 1 ≤ R) (hF : 1 ≤ F) : 0 < 2 * R * F := Int.mul_pos (Int.mul_pos (by decide) (by omega)) (by omega)
end
end Go.Proofs.YtbgkgahmicepdaaGreat
