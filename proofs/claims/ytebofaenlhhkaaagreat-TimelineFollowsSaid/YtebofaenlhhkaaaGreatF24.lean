/-
  THE WALKS of the reference 02: Div where the high words are 0, Made and Make where the fraction fits.
-/
import Derived.Test.YtebofaenlhhkaaaGreatF23
import Derived.Test.YtebofaenlhhkaaaGreatF14
namespace Go.Proofs.YtebofaenlhhkaaaGreat
set_option maxRecDepth 100000
set_option maxHeartbeats 80000000
set_option linter.unusedSimpArgs false
section
open Go.RowKit Go.Shelf
def NewI6 (w : World) (b : Nat) : Prop := w.cell? ⟨b, 0, none⟩ = some (.int .i64 0) ∧ w.cell? ⟨b, 1, none⟩ = some (.int .i64 0) ∧ w.frozen? ⟨b, 0, none⟩ = false ∧ w.frozen? ⟨b, 1, none⟩ = false ∧ b < w.heap.size
theorem NewI6.new (W : World) (t : TypeId) : NewI6 (W.alloc (.cells #[.int .i64 0, .int .i64 0] t)) W.heap.size := ⟨by simp, by simp, by simp, by simp, by simp⟩
theorem NewI6.carry {W w : World} {b : Nat} (f : NewI6 W b) (h : Below W.heap.size W w) : NewI6 w b :=
 ⟨(h.cell (p := ⟨b, 0, none⟩) f.2.2.2.2).trans f.1, (h.cell (p := ⟨b, 1, none⟩) f.2.2.2.2).trans f.2.1, (h.frozen (p := ⟨b, 0, none⟩) f.2.2.2.2).trans f.2.2.1, (h.frozen (p := ⟨b, 1, none⟩) f.2.2.2.2).trans f.2.2.2.1, Nat.lt_of_lt_of_le f.2.2.2.2 h.size⟩
theorem time_sums {d : Int} {m : Mv} {t : Int} (hg : givenP d m = 0) (ht : IsTop d m.spd m.rise m.fall t) :
  0 ≤ t ∧ t ≤ 8192 ∧ 0 ≤ t * t ∧ t * t ≤ 67108864 ∧ 0 ≤ t * t * (m.rise + m.fall) ∧ t * t * (m.rise + m.fall) ≤ 2199023255552 ∧ 0 ≤ 2 * m.rise * m.fall ∧ 2 * m.rise * m.fall ≤ 536870912 ∧ 0 ≤ 2 * m.rise * m.fall * d ∧ 2 * m.rise * m.fall * d ≤ 562949953421312 ∧ 0 ≤ 2 * m.rise * m.fall * t ∧ 2 * m.rise * m.fall * t ≤ 4398046511104 := by
 obtain ⟨hv, hdd⟩ := given_ok hg;obtain ⟨V0, V1, R0, R1, F0, F1⟩ := valid_bds hv;obtain ⟨d1, d2⟩ := inB_iff.1 hdd;have t0 := ht.1;have t1 := ht.2.1;obtain ⟨B1, B2, B3, B4, _, _, _, _, _, B5, B6⟩ := room_bd (d := d) (R := m.rise) (F := m.fall) (w := t) d1 d2 (by omega) R1 (by omega) F1 (by omega) (by omega);have B7 : 2 * m.rise * m.fall * d ≤ 536870912 * 1048576 := Int.mul_le_mul B6 d2 d1 (by decide);have B8 := Int.mul_nonneg B5 d1;have B9 : 2 * m.rise * m.fall * t ≤ 536870912 * 8192 := Int.mul_le_mul B6 (by omega) (by omega) (by decide);have B10 := Int.mul_nonneg B5 t0;refine ⟨t0, by omega, B1, B2, B3, B4, B5, B6, B8, by omega, B10, by omega⟩
def kp (e : Int) (r : Int × Int × Int) : (Int × Int) × Int := if r.2.2 = 0 then ((r.1, r.2.1), e) else ((0, 1), if e = 0 then r.2.2 else e)
def kAdd (e : Int) (a b : Int × Int) : (Int × Int) × Int := kp e (addP a.1 a.2 b.1 b.2)
def kSub (e : Int) (a b : Int × Int) : (Int × Int) × Int := kp e (addP a.1 a.2 (-b.1) b.2)
def kMul (e : Int) (a b : Int × Int) : (Int × Int) × Int := kp e (mulP a.1 a.2 b.1 b.2)
def kVal (e : Int) (A B C u : Int × Int) : (Int × Int) × Int := kAdd (kMul (kAdd (kMul e C u).2 B (kMul e C u).1).2 (kAdd (kMul e C u).2 B (kMul e C u).1).1 u).2 A (kMul (kAdd (kMul e C u).2 B (kMul e C u).1).2 (kAdd (kMul e C u).2 B (kMul e C u).1).1 u).1
def kSlope (e : Int) (B C u : Int × Int) : (Int × Int) × Int := kAdd (kMul (kMul e C u).2 (2, 1) (kMul e C u).1).2 B (kMul (kMul e C u).2 (2, 1) (kMul e C u).1).1
def vF (a : Int × Int) : Bool := validF a.1 a.2
theorem fit_ok {p q : Int} (hq : 0 < q) (c : Int.gcd p q = 1) (h : (fitP p q).2.2 = 0) : fitP p q = (p, q, 0) ∧ validF p q = true := by
 unfold fitP at *
 split at h
 ·cases h
 next hn =>
  rw [if_neg hn];exact ⟨rfl, (validF_iff _ _).2 ⟨by omega, by omega, by omega, by omega, c⟩⟩
theorem vF_zero : vF (0, 1) = true := (validF_iff _ _).2 ⟨by decide, by decide, by decide, by decide, by decide⟩
theorem kp_valid {e p q : Int} (hq : 0 < q) (c : Int.gcd p q = 1) : vF (kp e (fitP p q)).1 = true := by
 unfold kp
 by_cases h : (fitP p q).2.2 = 0
 ·rw [if_pos h, (fit_ok hq c h).1]
  exact (fit_ok hq c h).2
 ·rw [if_neg h]; exact vF_zero
theorem den_pos {a : Int × Int} (h : vF a = true) : 0 < a.2 := by have := (validF_iff _ _).1 h; omega
theorem kAdd_valid {e : Int} {a b : Int × Int} (ha : vF a = true) (hb : vF b = true) : vF (kAdd e a b).1 = true := kp_valid (lowD_pos (Int.mul_pos (den_pos ha) (den_pos hb))) (low_cop (Int.mul_pos (den_pos ha) (den_pos hb)))
theorem kSub_valid {e : Int} {a b : Int × Int} (ha : vF a = true) (hb : vF b = true) : vF (kSub e a b).1 = true := kp_valid (lowD_pos (Int.mul_pos (den_pos ha) (den_pos hb))) (low_cop (Int.mul_pos (den_pos ha) (den_pos hb)))
theorem kMul_valid {e : Int} {a b : Int × Int} (ha : vF a = true) (hb : vF b = true) : vF (kMul e a b).1 = true := kp_valid (lowD_pos (Int.mul_pos (den_pos ha) (den_pos hb))) (low_cop (Int.mul_pos (den_pos ha) (den_pos hb)))
theorem vF_two : vF (2, 1) = true := (validF_iff _ _).2 ⟨by decide, by decide, by decide, by decide, by decide⟩
theorem kVal_valid {e : Int} {A B C u : Int × Int} (hA : vF A = true) (hB : vF B = true) (hC : vF C = true) (hu : vF u = true) : vF (kVal e A B C u).1 = true := kAdd_valid hA (kMul_valid (kAdd_valid hB (kMul_valid hC hu)) hu)
theorem kSlope_valid {e : Int} {B C u : Int × Int} (hB : vF B = true) (hC : vF C = true) (hu : vF u = true) : vF (kSlope e B C u).1 = true := kAdd_valid hB (kMul_valid vF_two (kMul_valid hC hu))
end
section
open Go.RowKit
noncomputable def topV (d : Int) (m : Mv) : Int := @dite _ (∃ t, IsTop d m.spd m.rise m.fall t) (Classical.propDecidable _) (fun h => h.choose) (fun _ => 0)
theorem top_is {d : Int} {m : Mv} (hg : givenP d m = 0) : IsTop d m.spd m.rise m.fall (topV d m) := by
 have ex : ∃ t, IsTop d m.spd m.rise m.fall t := by
  obtain ⟨hv, hd⟩ := given_ok hg;have a := valid_bds hv;have b := inB_iff.1 hd;exact top_exI (by omega) (by omega) (by omega) (by omega)
 unfold topV;rw [dif_pos ex];exact ex.choose_spec
noncomputable def tmF (d : Int) (m : Mv) : Int × Int := timeP d m (topV d m)
structure TmOK (x : Int × Int) : Prop where
 ok : vF x = true
 pos : 0 ≤ x.1
 most : 1000 * x.1 ≤ 1152921504606846976
theorem tm_zero : TmOK (0, 1) := ⟨vF_zero, by decide, by decide⟩
theorem tm_ok {d : Int} {m : Mv} (hg : givenP d m = 0) : TmOK (tmF d m) := by
 have ht := top_is hg;unfold tmF
 by_cases hd : d = 0
 ·subst hd
  rw [time_zero hg];exact tm_zero
 ·have tb := time_bd hg ht
  obtain ⟨s1, s2, s3, s4, s5, s6, s7, s8, s9, s10, s11, s12⟩ := time_sums hg ht;rw [time_pos hg hd] at tb ⊢;obtain ⟨hv, hdd⟩ := given_ok hg;obtain ⟨V0, V1, R0, R1, F0, F1⟩ := valid_bds hv;obtain ⟨d1, d2⟩ := inB_iff.1 hdd;have tp := top_pos (show 1 ≤ d by omega) R0 F0 V0 ht;have q0 : 0 < tD m.rise m.fall (topV d m) := by unfold tD; exact Int.mul_pos (posD R0 F0) (by omega)
  have n1 : tN d m.rise m.fall (topV d m) ≤ 565148976676864 := by unfold tN; omega
  have n0 : 0 ≤ tN d m.rise m.fall (topV d m) := by unfold tN; omega
  have a := lowN_le (tN d m.rise m.fall (topV d m)) (tD m.rise m.fall (topV d m));refine ⟨(validF_iff _ _).2 ⟨tb.2.2.1, tb.2.2.2, by have := tb.1; omega, tb.2.1, low_cop q0⟩, tb.1, ?_⟩;show 1000 * lowN (tN d m.rise m.fall (topV d m)) (tD m.rise m.fall (topV d m)) ≤ _;omega
def moveD (h : HouseR) (t : List Int) (m : Mv) : Int := if m.to - ig t (findS h.sets m.name).toNat < 0 then 0 - (m.to - ig t (findS h.sets m.name).toNat) else m.to - ig t (findS h.sets m.name).toNat
theorem move_within {h : HouseR} {t : List Int} {M : List Mv} {i : Nat} (hb : houseB h = true) (ht : TrimOK h t) (hm : MoveOK h M i) : 0 ≤ (mg M i).to ∧ (mg M i).to ≤ 1048576 ∧ 0 ≤ ig t (findS h.sets (mg M i).name).toNat ∧ ig t (findS h.sets (mg M i).name).toNat ≤ 1048576 := by
 obtain ⟨_, h0, h1, h2, _⟩ := hm;obtain ⟨hk, _⟩ := find_name h0;have so := (house_set hb hk).1;have t1 := ht.2 (findS h.sets (mg M i).name).toNat (by have := ht.1; omega);have lo := so.low;unfold setM at h1 h2;omega
theorem move_given {h : HouseR} {t : List Int} {M : List Mv} {i : Nat} (hb : houseB h = true) (ht : TrimOK h t) (hm : MoveOK h M i) : givenP (moveD h t (mg M i)) (mg M i) = 0 := by
 have w := move_within hb ht hm;unfold givenP;rw [if_pos hm.1, if_pos (inB_iff.2 ?_)];unfold moveD
 split <;> omega
def moreF (a b : Int × Int) : Int × Int := if 0 < cmpP (a.1 * b.2) (b.1 * a.2) then a else b
noncomputable def lenTo (h : HouseR) (t : List Int) (M : List Mv) : Int × Int := M.foldl (fun b m => moreF (tmF (moveD h t m) m) b) (0, 1)
theorem lenTo_snoc (h : HouseR) (t : List Int) (M : List Mv) {k : Nat} (hk : k < M.length) : lenTo h t (M.take (k + 1)) = moreF (tmF (moveD h t (mg M k)) (mg M k)) (lenTo h t (M.take k)) := by
 unfold lenTo;rw [List.take_succ_eq_append_getElem hk, List.foldl_append, mg_eq M k hk]
 rfl
theorem len_ok {h : HouseR} {t : List Int} {M : List Mv} (hb : houseB h = true) (ht : TrimOK h t) (hM : ∀ i, i < M.length → MoveOK h M i) : ∀ k, k ≤ M.length → TmOK (lenTo h t (M.take k))
 | 0, _ => by rw [List.take_zero]; exact tm_zero
 | k + 1, hk => by
  rw [lenTo_snoc h t M (by omega)];unfold moreF
  split
  ·exact tm_ok (move_given hb ht (hM k (by omega)))
  ·exact len_ok hb ht hM k (by omega)
def ceilI (n d : Int) : Int := -((-n) / d)
def msF (x : Int × Int) : Int := ceilI (lowN (1000 * x.1) x.2) (lowD (1000 * x.1) x.2)
theorem ms_low {x : Int × Int} (ok : TmOK x) : 0 ≤ lowN (1000 * x.1) x.2 ∧ lowN (1000 * x.1) x.2 ≤ 1152921504606846976 ∧ 0 < lowD (1000 * x.1) x.2 ∧ lowD (1000 * x.1) x.2 ≤ 1152921504606846976 ∧ Int.gcd (lowN (1000 * x.1) x.2) (lowD (1000 * x.1) x.2) = 1 := by
 obtain ⟨a, b, c⟩ := ok;have d := (validF_iff _ _).1 a;have d0 : 0 < x.2 := by omega
 have e := lowN_le (1000 * x.1) x.2;have f := lowD_le (n := 1000 * x.1) d0;have g := lowD_pos (n := 1000 * x.1) d0;have s := low_sign (n := 1000 * x.1) d0;exact ⟨by omega, by omega, g, by omega, low_cop d0⟩
theorem ms_mul {x : Int × Int} (ok : TmOK x) : mulP 1000 1 x.1 x.2 = (lowN (1000 * x.1) x.2, lowD (1000 * x.1) x.2, 0) := by
 obtain ⟨a, b, c, d, _⟩ := ms_low ok;unfold mulP;rw [Int.one_mul];unfold fitP;rw [if_neg (by omega)]
theorem ms_valid {x : Int × Int} (ok : TmOK x) : validF (lowN (1000 * x.1) x.2) (lowD (1000 * x.1) x.2) = true := by
 obtain ⟨a, b, c, d, e⟩ := ms_low ok;exact (validF_iff _ _).2 ⟨by omega, d, by omega, b, e⟩
theorem ceil_bd {n d : Int} (hn : 0 ≤ n) (hd : 0 < d) : 0 ≤ ceilI n d ∧ ceilI n d ≤ n := by
 unfold ceilI;have a := Int.ediv_mul_le (-n) (show d ≠ 0 by omega);have b := Int.lt_ediv_add_one_mul_self (-n) hd;obtain ⟨q, hq⟩ := nm (-n / d);rw [hq] at a b ⊢;refine ⟨?_, ?_⟩
 ·rcases Int.lt_or_le 0 q with l | l
  ·have : 0 < q * d := Int.mul_pos l hd
   omega
  ·omega
 ·rcases Int.lt_or_le q (-n) with l | l
  ·have : (q + 1) * d ≤ (q + 1) * 1 := Int.mul_le_mul_of_nonpos_left (by omega) (by omega)
   omega
  ·omega
theorem ms_bd {x : Int × Int} (ok : TmOK x) : 0 ≤ msF x ∧ msF x ≤ 1152921504606846976 := by
 obtain ⟨a, b, c, _⟩ := ms_low ok;have := ceil_bd a c;unfold msF;omega
noncomputable def lensL (h : HouseR) (C : List CueR) (n : Nat) : List Int := (List.range n).map fun k => msF (lenTo h (trimL h C k) (cg C k).moves)
theorem lensL_snoc (h : HouseR) (C : List CueR) (n : Nat) : lensL h C (n + 1) = lensL h C n ++ [msF (lenTo h (trimL h C n) (cg C n).moves)] := by
 unfold lensL;rw [List.range_succ, List.map_append]
 rfl
theorem lensL_len (h : HouseR) (C : List CueR) (n : Nat) : (lensL h C n).length = n := by unfold lensL; rw [List.length_map, List.length_range]
structure Sm (b : Nat) (e : Int) (w w' : World) : Prop where
 os : w'.os = w.os
 tape : w'.tape = w.tape
 output : w'.output = w.output
 size : w.heap.size ≤ w'.heap.size
 block : ∀ k, k < w.heap.size → k ≠ b → w'.heap[k]? = w.heap[k]?
 cell : w'.cell? ⟨b, 0, none⟩ = some (.int .i64 e)
 free : w'.frozen? ⟨b, 0, none⟩ = false
theorem Sm.of {b : Nat} {e : Int} {w w' : World} (h : Below w.heap.size w w') (hc : w.cell? ⟨b, 0, none⟩ = some (.int .i64 e)) (hf : w.frozen? ⟨b, 0, none⟩ = false) : Sm b e w w' := by
 have hb : b < w.heap.size := wl hc;exact ⟨h.os, h.tape, h.output, h.size, fun k hk _ => h.block k hk, (h.cell (p := ⟨b, 0, none⟩) hb).trans hc, (h.frozen (p := ⟨b, 0, none⟩) hb).trans hf⟩
theorem Sm.refl {b : Nat} {e : Int} {w : World} (hc : w.cell? ⟨b, 0, none⟩ = some (.int .i64 e)) (hf : w.frozen? ⟨b, 0, none⟩ = false) : Sm b e w w := Sm.of br hc hf
theorem Sm.trans {b : Nat} {e e' : Int} {w w1 w2 : World} (h : Sm b e w w1) (k : Sm b e' w1 w2) : Sm b e' w w2 :=
 ⟨k.os.trans h.os, k.tape.trans h.tape, k.output.trans h.output, Nat.le_trans h.size k.size, fun i hi hne => (k.block i (Nat.lt_of_lt_of_le hi h.size) hne).trans (h.block i hi hne), k.cell, k.free⟩
theorem Sm.lt {b : Nat} {e : Int} {w w' : World} (h : Sm b e w w') : b < w'.heap.size := wl h.cell
theorem Sm.then {b : Nat} {e : Int} {w w1 w2 : World} (h : Sm b e w w1) (k : Below w1.heap.size w1 w2) : Sm b e w w2 := h.trans (Sm.of k h.cell h.free)
theorem Sm.below {b n : Nat} {e : Int} {w w' : World} (h : Sm b e w w') (hn : n ≤ b) (hw : n ≤ w.heap.size) : Below n w w' :=
 ⟨h.os, h.tape, h.output, h.size, fun k hk => h.block k (by omega) (by omega)⟩
theorem Sm.other {b : Nat} {e : Int} {w w' : World} (h : Sm b e w w') {p : Addr} (hp : p.block < w.heap.size) (hne : p.block ≠ b) : w'.cell? p = w.cell? p := World.cell?_of_block (w := w) (h.block p.block hp hne)
theorem Sm.otherF {b : Nat} {e : Int} {w w' : World} (h : Sm b e w w') {p : Addr} (hp : p.block < w.heap.size) (hne : p.block ≠ b) : w'.frozen? p = w.frozen? p := World.frozen?_of_block (w := w) (h.block p.block hp hne)
theorem Sm.set {b : Nat} {e : Int} {w : World} (e' : Int) (hc : w.cell? ⟨b, 0, none⟩ = some (.int .i64 e)) (hf : w.frozen? ⟨b, 0, none⟩ = false) : Sm b e' w (w.setCell ⟨b, 0, none⟩ (.int .i64 e')) :=
 ⟨rfl, rfl, rfl, by simp [World.setCell], fun k _ hne => Below.heap_setCell _ _ _ _ hne, World.cell?_setCell_same _ _ _ hc, by simpa using hf⟩
theorem Sm.from {b : Nat} {e : Int} {w w1 w2 : World} (h : Below w.heap.size w w1) (_ : b < w.heap.size) (k : Sm b e w1 w2) : Sm b e w w2 :=
 ⟨k.os.trans h.os, k.tape.trans h.tape, k.output.trans h.output, Nat.le_trans h.size k.size, fun i hi hne => (k.block i (Nat.lt_of_lt_of_le hi h.size) hne).trans (h.block i hi), k.cell, k.free⟩
theorem Sm.drew {b : Nat} {e : Int} {w w' : World} (h : Sm b e w w') : Sm b e w w'.drew := ⟨h.os, h.tape, h.output, h.size, h.block, h.cell, h.free⟩
theorem Sm.setCell {b : Nat} {e : Int} {w w' : World} (h : Sm b e w w') {p : Addr} (hp : w.heap.size ≤ p.block) (hb : b < w.heap.size) (u : Value) : Sm b e w (w'.setCell p u) :=
 ⟨h.os, h.tape, h.output, by have := h.size; simp [World.setCell]; omega, fun k hk hne => (Below.heap_setCell _ _ _ _ (by omega)).trans (h.block k hk hne), (World.cell?_setCell_other _ _ _ _ (fun x => by have := congrArg Addr.block x; simp at this; omega)).trans h.cell, by simpa using h.free⟩
theorem Sm.alloc {b : Nat} {e : Int} {w w' : World} (h : Sm b e w w') (o : Obj) : Sm b e w (w'.alloc o) := h.then ((br).alloc (Nat.le_refl _) o)
end
section
open Go.RowKit Go.Shelf
def FI (w : World) (B : Nat) (h l : Int) : Prop := w.cell? ⟨B, 0, none⟩ = some (.int .i64 h) ∧ w.cell? ⟨B, 1, none⟩ = some (.int .i64 l) ∧ w.frozen? ⟨B, 0, none⟩ = false ∧ w.frozen? ⟨B, 1, none⟩ = false ∧ B < w.heap.size
theorem FI.carry {W w : World} {B : Nat} {x y : Int} (f : FI W B x y) (h : Below W.heap.size W w) : FI w B x y :=
 ⟨(h.cell (p := ⟨B, 0, none⟩) f.2.2.2.2).trans f.1, (h.cell (p := ⟨B, 1, none⟩) f.2.2.2.2).trans f.2.1, (h.frozen (p := ⟨B, 0, none⟩) f.2.2.2.2).trans f.2.2.1, (h.frozen (p := ⟨B, 1, none⟩) f.2.2.2.2).trans f.2.2.2.1, Nat.lt_of_lt_of_le f.2.2.2.2 h.size⟩
theorem FI.set {w : World} {B : Nat} {x y : Int} (f : FI w B x y) (h l : Int) : FI ((w.setCell ⟨B, 0, none⟩ (.int .i64 h)).setCell ⟨B, 1, none⟩ (.int .i64 l)) B h l := by
 obtain ⟨d0, d1⟩ := two_cells (v0 := .int .i64 h) (v1 := .int .i64 l) f.1 f.2.1;exact ⟨d0, d1, by simpa using f.2.2.1, by simpa using f.2.2.2.1, by simpa using f.2.2.2.2⟩
theorem FI.other {w : World} {B C : Nat} {x y : Int} (f : FI w C x y) (hne : C ≠ B) (u v : Value) : FI ((w.setCell ⟨B, 0, none⟩ u).setCell ⟨B, 1, none⟩ v) C x y :=
 ⟨(two_other hne _ _ _).trans f.1, (two_other hne _ _ _).trans f.2.1, by simpa using f.2.2.1, by simpa using f.2.2.2.1, by simpa using f.2.2.2.2⟩
theorem FI.new (w : World) (t : TypeId) : FI (w.alloc (.cells #[.int .i64 0, .int .i64 0] t)) w.heap.size 0 0 := ⟨by simp, by simp, by simp, by simp, by simp⟩
theorem FI.put (w : World) (x y : Int) (t : TypeId) : FI (w.alloc (.cells #[.int .i64 x, .int .i64 y] t)) w.heap.size x y := ⟨by simp, by simp, by simp, by simp, by simp⟩
end
section
open Go.RowKit Go.Shelf
attribute [local go_sem] Oper.semAt_some
theorem clen_any (h : HouseR) (q : CueR) (ta : Option Addr) (t : List Int) (tc : Nat) (w : World) (hh : HouseIn w h) (hm : Movs w.heap.size w q.ma q.moves) (hml : q.moves.length ≤ 1000) (hmc : q.moves.length ≤ q.mc) (ht : Nums w.heap.size w ta t) (hb : houseB h = true) (hr : rightB h q = true) (hto : TrimOK h t) :
  Calls Tryz.prog 74 #[.agg #[.string h.name, .int .i64 h.height, .slice h.sa h.sets.length h.sc, .slice h.ra h.roofs.length h.rc], .slice ta t.length tc, .agg #[.string q.name, .string q.after, .int .i64 q.link, .int .i64 q.delay, .slice q.ma q.moves.length q.mc, .int .i64 q.crew, .int .i64 q.power]] w fun e w' => e = .returned (.tuple #[.agg #[.int .i64 (lenTo h t q.moves).1, .int .i64 (lenTo h t q.moves).2], .int .i64 0]) ∧ Below w.heap.size w w' := by
 have hb0 : Below w.heap.size w (((w.alloc (LHo h)).alloc (LCu q)).alloc (.cells #[.int .i64 0, .int .i64 0] 49)) := ((below_new w _).alloc (by simp) _).alloc (by simp; omega) _
 have HX : Hid (∀ w', Below (((w.alloc (LHo h)).alloc (LCu q)).alloc (.cells #[.int .i64 0, .int .i64 0] 49)).heap.size (((w.alloc (LHo h)).alloc (LCu q)).alloc (.cells #[.int .i64 0, .int .i64 0] 49)) w' → HouseAt w' w.heap.size h ∧ CueAt w' (w.heap.size + 1) q ∧ HouseIn w' h ∧ Movs w'.heap.size w' q.ma q.moves ∧ Nums w'.heap.size w' ta t) := lh fun w' z =>
  ⟨(((HouseAt.new w h _).carry (below_new _ _)).carry (below_new _ _)).carry z, ((CueAt.new (w.alloc _) q _ _ (by simp)).carry (below_new _ _)).carry z, (hh.grow hb0).grow z, (hm.grow hb0).grow z, (ht.grow hb0).grow z⟩
 have HW : Hid (∀ w', Below (((w.alloc (LHo h)).alloc (LCu q)).alloc (.cells #[.int .i64 0, .int .i64 0] 49)).heap.size (((w.alloc (LHo h)).alloc (LCu q)).alloc (.cells #[.int .i64 0, .int .i64 0] 49)) w' → Below w.heap.size w w') := lh fun w' z => hb0.trans (z.mono hb0.size);have HCV := lh fun (w' : World) (z : HouseIn w' h) (z2 : Movs w'.heap.size w' q.ma q.moves) (z3 : Nums w'.heap.size w' ta t) => cgiven_yes h q ta t tc w' z z2 hml hmc z3 hb hr hto;have hsl := hh.slen;have HSL := lh hsl;have HB := lh hb;have HOK := lh (rightB_iff.1 hr).2;have HTO := lh hto;clear hh hm ht hb0 hb hr hto hsl
 go_enter Tryz.func74, Tryz.ntmps74
 go_upto_region 1 with (fail)
 have hN6 : NewI6 (((w.alloc (LHo h)).alloc (LCu q)).alloc (.cells #[.int .i64 0, .int .i64 0] 49)) (w.heap.size + 1 + 1) := by
  have e := NewI6.new ((w.alloc (LHo h)).alloc (LCu q)) 49;rw [show ((w.alloc (LHo h)).alloc (LCu q)).heap.size = w.heap.size + 1 + 1 by simp] at e;exact e
 obtain ⟨W0, hW0⟩ := nm ((((w.alloc (LHo h)).alloc (LCu q)).alloc (.cells #[.int .i64 0, .int .i64 0] 49)) : World);simp only [hW0] at HX HW hN6 ⊢;clear hW0;obtain ⟨B1, hB1⟩ := nm (w.heap.size);obtain ⟨B2, hB2⟩ := nm (w.heap.size + 1);obtain ⟨B3, hB3⟩ := nm (w.heap.size + 1 + 1);rw [hB3] at hN6 ⊢;rw [hB2] at HX ⊢;rw [hB1] at HX ⊢;have HB3 : Hid (w.heap.size ≤ B3) := lh (by omega);clear hB1 hB2 hB3;obtain ⟨n₀, hn0⟩ := nm (W0.heap.size);have HN6 := lh hN6;obtain ⟨qa, hqa⟩ := nm (q.ma);have HQA := lh hqa;rw [hqa] at HX HCV ⊢;clear hqa hN6;obtain ⟨⟨a0, a1, a2, a3⟩, ⟨c0, c1, c2, c3, c4, c5, c6⟩, -, -, -⟩ := HX.out _ br;rw [HQA.out] at c4
 go_upto_region 5 with (go_at_call 107; (with_reducible refine (HCV.out _ (HX.out _ br).2.2.1 (HX.out _ br).2.2.2.1 (HX.out _ br).2.2.2.2).mono ?_); rintro e w1 ⟨rfl, hb1⟩; rw [hn0] at hb1)
 have HXX : Hid (∀ w', Below n₀ W0 w' → HouseAt w' B1 h ∧ CueAt w' B2 q ∧ HouseIn w' h ∧ Movs w'.heap.size w' qa q.moves ∧ Nums w'.heap.size w' ta t) := lh fun w' z => by rw [← hn0] at z; exact HX.out w' z
 have HWW : Hid (∀ w', Below n₀ W0 w' → Below w.heap.size w w') := lh fun w' z => by rw [← hn0] at z; exact HW.out w' z
 have HNN : Hid (∀ w', Below n₀ W0 w' → NewI6 w' B3) := lh fun w' z => by rw [← hn0] at z; exact HN6.out.carry z
 have hn1 : n₀ ≤ w1.heap.size := by have := hb1.size; omega
 clear a0 a1 a2 a3 c0 c1 c2 c3 c4 c5 c6 HX HW HCV HN6 hn0;have hb2 := hb1.alloc hn1 (.cells #[.int .i64 0, .int .i64 1] 49);have hF2 := FI.put w1 0 1 49;have hn2 : n₀ ≤ (w1.alloc (.cells #[.int .i64 0, .int .i64 1] 49)).heap.size := by simp; omega
 generalize w1.alloc (.cells #[.int .i64 0, .int .i64 1] 49) = W2 at *;obtain ⟨B9, hB9⟩ := nm (w1.heap.size);rw [hB9] at hF2 hn1 ⊢;clear hb1 hB9;obtain ⟨-, ⟨c0, c1, c2, c3, c4, c5, c6⟩, -, -, -⟩ := HXX.out _ hb2;rw [HQA.out] at c4
 go_upto_region 6 with (fail)
 clear c0 c1 c2 c3 c4 c5 c6
 go_loopw [11, 12, 13, 14, 15, 16, 29] (fun _ _ _ _ _ _ iv wr => ∃ (k : Nat) (b : Int × Int), iv = .int .i64 k ∧ k ≤ q.moves.length ∧ Below n₀ W0 wr ∧ n₀ ≤ wr.heap.size ∧ Hid (b = lenTo h t (q.moves.take k)) ∧ Hid (FI wr B9 b.1 b.2)) (fun _ _ _ _ _ _ iv _ => q.moves.length - (intOf iv).toNat)
 case atStart => exact ⟨0, (0, 1), rfl, Nat.zero_le _, hb2, hn2, lh (by rw [List.take_zero]; rfl), lh hF2⟩
 case round =>
  clear hb2 hF2 hn2;obtain ⟨k, b, rfl, hk, hB, hnw, HBK, HF⟩ := hrel
  by_cases hlt : k < q.moves.length
  ·obtain ⟨⟨a0, a1, a2, a3⟩, -, hhi, hmv, hnm⟩ := HXX.out _ hB
   obtain ⟨mb, mo, hma, hmb, hmx⟩ := hmv (by omega);subst hma;obtain ⟨d0, d1, d2, d3, d4⟩ := hmx k hlt;have HSN := lh (lenTo_snoc h t q.moves hlt);have HTK : Hid (TmOK b) := lh (by rw [HBK.out]; exact len_ok HB.out HTO.out HOK.out k (by omega));have HMG := lh (move_given HB.out HTO.out (HOK.out k hlt));have HMW := move_within HB.out HTO.out (HOK.out k hlt);have hf0 := (HOK.out k hlt).2.1;have hf1 := (find_name hf0).1;have hft : (findS h.sets (mg q.moves k).name).toNat < t.length := by have := HTO.out.1; omega
   obtain ⟨tb, tf, hta, htb, htx⟩ := hnm (by omega);subst hta;obtain ⟨x, hx⟩ := nm (mg q.moves k);rw [hx] at d0 d1 d2 d3 d4 HSN HMG HMW hf0 hf1 hft;rw [← HBK.out] at HSN;obtain ⟨f, hf⟩ := nm (findS h.sets x.name);have HFN := lh hf;rw [hf] at HMW hf0 hf1 hft;have hf2 : f < (t.length : Int) := by omega
   obtain ⟨v, hv⟩ := nm (ig t f.toNat);have HDV : Hid (moveD h t x = if x.to - v < 0 then 0 - (x.to - v) else x.to - v) := lh (by unfold moveD; rw [hf, hv]);rw [hv] at HMW;obtain ⟨D, hD⟩ := nm (x.to - v);rw [hD] at HDV;have hsub : IntKind.i64.wrap (x.to - v) = D := by rw [← hD]; simp only [IntKind.wrap_i64]; omega
   have hneg : IntKind.i64.wrap (-D) = -D := by simp only [IntKind.wrap_i64]; omega
   obtain ⟨dd, hdd⟩ := nm (moveD h t x);rw [hdd] at HSN HMG HDV;have HTM := lh fun (w' : World) => Time_any dd x (topV dd x) (fun _ => top_is HMG.out) w';rw [HMG.out, show timeP dd x (topV dd x) = tmF dd x from rfl] at HTM;have HTP := lh (tm_ok HMG.out);have HMX : Hid (max D (-D) = dd) := lh (by rw [HDV.out]; split <;> omega);obtain ⟨p, hp⟩ := nm (tmF dd x);rw [hp] at HSN HTM HTP;have HCM := lh fun (w' : World) => cmp_all p.1 p.2 b.1 b.2 HTP.out.ok HTK.out.ok w';clear hdd hp;clear hhi hmv hnm hmx hx hf HMW hD;have HSETC := lh fun (w' : World) (z : HouseIn0 w' h) => cset_any h x.name w' z HSL.out;have hBX := (hB.alloc hnw (.cells #[.string x.name, .int .i64 x.to, .int .i64 x.spd, .int .i64 x.rise, .int .i64 x.fall] 94));have HAX : Hid (MvAt (wr.alloc (.cells #[.string x.name, .int .i64 x.to, .int .i64 x.spd, .int .i64 x.rise, .int .i64 x.fall] 94)) wr.heap.size x) := lh (MvAt.new wr x _);have HF3 := lh (HF.out.carry (below_new wr (.cells #[.string x.name, .int .i64 x.to, .int .i64 x.spd, .int .i64 x.rise, .int .i64 x.fall] 94)));have hnx : n₀ ≤ (wr.alloc (.cells #[.string x.name, .int .i64 x.to, .int .i64 x.spd, .int .i64 x.rise, .int .i64 x.fall] 94)).heap.size := by simp; omega
   clear HF hB
   go_upto_region 8 with (fail)
   generalize wr.alloc (.cells #[.string x.name, .int .i64 x.to, .int .i64 x.spd, .int .i64 x.rise, .int .i64 x.fall] 94) = W3 at *;obtain ⟨B4, hB4⟩ := nm (wr.heap.size);rw [hB4] at HAX ⊢;clear hB4 d0 d1 d2 d3 d4 a0 a1 a2 a3 hnw;have hn6 : n₀ ≤ W3.drew.heap.size := hnx;have F6 := HF3.out.carry (br).drew;have x0 : ∀ w', HeldM n₀ W0 B4 x w' → w'.cell? ⟨B1, 0, none⟩ = some (.string h.name) := fun w' z => (HXX.out w' z.old).1.1;have x1 : ∀ w', HeldM n₀ W0 B4 x w' → w'.cell? ⟨B1, 1, none⟩ = some (.int .i64 h.height) := fun w' z => (HXX.out w' z.old).1.2.1;have x2 : ∀ w', HeldM n₀ W0 B4 x w' → w'.cell? ⟨B1, 2, none⟩ = some (.slice h.sa h.sets.length h.sc) := fun w' z => (HXX.out w' z.old).1.2.2.1;have x3 : ∀ w', HeldM n₀ W0 B4 x w' → w'.cell? ⟨B1, 3, none⟩ = some (.slice h.ra h.roofs.length h.rc) := fun w' z => (HXX.out w' z.old).1.2.2.2;have y0 : ∀ w', HeldM n₀ W0 B4 x w' → w'.cell? ⟨B4, 0, none⟩ = some (.string x.name) := fun w' z => z.mv.1;have y1 : ∀ w', HeldM n₀ W0 B4 x w' → w'.cell? ⟨B4, 1, none⟩ = some (.int .i64 x.to) := fun w' z => z.mv.2.1
   have z0 : ∀ w', HeldM n₀ W0 B4 x w' → w'.cell? ⟨tb, tf + f.toNat, none⟩ = some (.int .i64 v) := fun w' z => by
    obtain ⟨tb', tf', e, _, ex⟩ := (HXX.out w' z.old).2.2.2.2 (by omega)
    cases e
    rw [← hv];exact ex _ hft
   clear hv htx;refine wp_region_held_drew (S := (HeldM n₀ W0 B4 x)) (by kernel_rfl) (⟨hBX.drew, HAX.out.carry (br).drew⟩) (fun hHeld => ?_);refine tk 0 ?_; refine tk 1 ?_; refine tk 2 ?_; refine tk 3 ?_; refine tk 4 ?_; refine tk 5 ?_;refine r1 6 (fun K hK => ?_)
   try simp only [s_4, s_5, s_6]
   go_simp
   (go_at_call 98; go_split_ands; (with_reducible refine (HSETC.out _ (HXX.out _ hHeld.old).2.2.1.toHouseIn0).mono ?_); rintro e w6 ⟨rfl, hb6⟩; rw [HFN.out]; have how : n₀ ≤ w6.heap.size := Nat.le_trans hn6 hb6.size; have hHeld6 := hHeld.old.trans (hb6.mono hn6); have hMv6 := hHeld.mv.carry hb6; have F7 := F6.carry hb6)
   go_wp2_with fail
   refine hK.out _ _ (⟨hHeld6, hMv6⟩) (fun hHeld => ?_);clear hK K
   try simp only [Act.put, s_1, s_2, s_3, s_4, s_5, s_6]
   refine tk 7 ?_; refine tk 8 ?_; refine tk 9 ?_; refine tk 10 ?_;refine wpAnyH_done (by kernel_rfl) ?_ _;clear x0 x1 x2 x3 y0 y1 z0 hHeld hsub;obtain ⟨m0, m1, m2, m3, m4⟩ := hMv6;have hmax := HMX.out
   go_upto_region 10 with (first
    | (go_at_call 108; (with_reducible refine (HTM.out _).mono ?_); rintro e w7 ⟨rfl, hb7⟩; have hB7 := hHeld6.trans (hb7.mono how); have hn7 : n₀ ≤ w7.heap.size := Nat.le_trans how hb7.size; have F8 := F7.carry hb7))
   clear hmax hneg m0 m1 m2 m3 m4;have hB8 := hB7.alloc hn7 (.cells #[.int .i64 p.1, .int .i64 p.2] 49);have hn8 : n₀ ≤ (w7.alloc (.cells #[.int .i64 p.1, .int .i64 p.2] 49)).heap.size := by simp; omega
   have F9 := F8.carry (below_new w7 (.cells #[.int .i64 p.1, .int .i64 p.2] 49));have P9 := FI.put w7 p.1 p.2 49;generalize w7.alloc (.cells #[.int .i64 p.1, .int .i64 p.2] 49) = W8 at *;obtain ⟨B13, hB13⟩ := nm (w7.heap.size);rw [hB13] at P9 hn7 ⊢;have hne : B13 ≠ B9 := by rw [← hB13]; have := F8.2.2.2.2; omega
   clear hB13 hb7 F8 F7 hb6;obtain ⟨q0, q1, q2, q3, q4⟩ := P9;obtain ⟨s0, s1, s2, s3, s4⟩ := F9
   by_cases hcc : 0 < cmpP (p.1 * b.2) (b.1 * p.2)
   ·have HMF : Hid (moreF p b = p) := lh (by unfold moreF; rw [if_pos hcc])
    have hdc : decide (0 < cmpP (p.1 * b.2) (b.1 * p.2)) = true := decide_eq_true hcc
    go_wp2_with (go_at_call 109; (with_reducible refine (HCM.out _).mono ?_); rintro e w9 ⟨rfl, hb9⟩; have hB9 := hB8.trans (hb9.mono hn8); have hn9 : n₀ ≤ w9.heap.size := Nat.le_trans hn8 hb9.size; obtain ⟨r0, r1, r2, r3, r4⟩ := FI.carry ⟨q0, q1, q2, q3, q4⟩ hb9; have F10 := lh (show FI w9 B9 b.1 b.2 from FI.carry ⟨s0, s1, s2, s3, s4⟩ hb9); obtain ⟨v0, v1, v2, v3, v4⟩ := F10.out)
    have F11 := lh (F10.out.set p.1 p.2);have hs11 : n₀ ≤ ((w9.setCell ⟨B9, 0, none⟩ (.int .i64 p.1)).setCell ⟨B9, 1, none⟩ (.int .i64 p.2)).heap.size := by simp; omega
    have hB11 := (hB9.setCell (show n₀ ≤ (⟨B9, 0, none⟩ : Addr).block from hn1) (.int .i64 p.1)).setCell (show n₀ ≤ (⟨B9, 1, none⟩ : Addr).block from hn1) (.int .i64 p.2);go_roundw
    case rel => exact ⟨k + 1, p, by go_num, by omega, hB11, hs11, lh (by rw [HSN.out, HMF.out]), F11⟩
    case measure => simp [intOf]; omega
   ·have HMF : Hid (moreF p b = b) := lh (by unfold moreF; rw [if_neg hcc])
    have hdc : decide (0 < cmpP (p.1 * b.2) (b.1 * p.2)) = false := decide_eq_false hcc
    go_wp2_with (go_at_call 109; (with_reducible refine (HCM.out _).mono ?_); rintro e w9 ⟨rfl, hb9⟩; have hB9 := hB8.trans (hb9.mono hn8); have hn9 : n₀ ≤ w9.heap.size := Nat.le_trans hn8 hb9.size; have F10 := FI.carry ⟨s0, s1, s2, s3, s4⟩ hb9)
    go_roundw
    case rel => exact ⟨k + 1, b, by go_num, by omega, hB9, hn9, lh (by rw [HSN.out, HMF.out]), lh F10⟩
    case measure => simp [intOf]; omega
  ·obtain rfl : k = q.moves.length := by omega
   rw [List.take_length] at HBK;obtain ⟨s0, s1, s2, s3, s4⟩ := HF.out;obtain ⟨t0, t1, t2, t3, t4⟩ := HNN.out _ hB
   go_wp2_with fail
   have hr := two_cells (v0 := .int .i64 b.1) (v1 := .int .i64 b.2) t0 t1;refine bodyPost_ret (v := .tuple #[.agg #[.int .i64 b.1, .int .i64 b.2], .int .i64 0]) (by simp [results, Tryz.results74, go_sem, hr.1, hr.2]) rfl ⟨by rw [HBK.out], ?_⟩;exact ((HWW.out _ hB).setCell (show w.heap.size ≤ (⟨B3, 0, none⟩ : Addr).block from HB3.out) _).setCell (show w.heap.size ≤ (⟨B3, 1, none⟩ : Addr).block from HB3.out) _
end
end Go.Proofs.YtebofaenlhhkaaaGreat
