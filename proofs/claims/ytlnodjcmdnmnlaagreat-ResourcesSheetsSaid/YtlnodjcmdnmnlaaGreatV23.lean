/-
  THE WALKS of ratio.floor, ratio.Ceil and timeline.whole.
-/
import Derived.BigRegion
import Derived.Test.YtlnodjcmdnmnlaaGreatV22
import Derived.Test.YtlnodjcmdnmnlaaGreatV4
namespace Go.Proofs.YtlnodjcmdnmnlaaGreat
set_option maxRecDepth 100000
set_option linter.unusedSimpArgs false
set_option maxHeartbeats 80000000
theorem p2 {α : Type _} {a b : α} {s : List α} : (a :: s).set 0 b = b :: s := rfl
theorem p3 {α : Type _} {a b : α} {n : Nat} {s : List α} : (a :: s).set (n + 1) b = a :: s.set n b := rfl
theorem p4 {α : Type _} {s : List α} {i : Nat} (h : i < s.toArray.size) : s.toArray[i] = s[i]'h := rfl
theorem p5 {α : Type _} {a : α} {s : List α} {i : Nat} (h : i + 1 < (a :: s).length) : (a :: s)[i + 1] = s[i]'(Nat.lt_of_succ_lt_succ h) := rfl
theorem p6 {α : Type _} {a : α} {s : List α} (h : 0 < (a :: s).length) : (a :: s)[0] = a := rfl
section
open Go.RowKit Go.Shelf
attribute [local go_sem] Oper.semAt_some
theorem tdiv_floor (n : Int) {d : Int} (hd : 0 < d) : n / d = if n.tmod d < 0 then n.tdiv d - 1 else n.tdiv d := by
 have e := Int.mul_tdiv_add_tmod n d;have l := Int.tmod_lt_of_pos n hd
 have g : -d < n.tmod d := by
  have := Int.tmod_lt_of_pos (-n) hd;rw [Int.neg_tmod] at this;omega
 obtain ⟨q, hq⟩ := nm (n.tdiv d);obtain ⟨r, hr⟩ := nm (n.tmod d);rw [hq, hr] at e;rw [hr] at l g;rw [hq, hr]
 by_cases c : r < 0
 ·rw [if_pos c, ← e, show d * q + r = (r + d) + d * (q - 1) by rw [Int.mul_sub]; omega, Int.add_mul_ediv_left _ _ (by omega), Int.ediv_eq_zero_of_lt (by omega) (by omega)]
  omega
 ·rw [if_neg c, ← e, show d * q + r = r + d * q by omega, Int.add_mul_ediv_left _ _ (by omega), Int.ediv_eq_zero_of_lt (by omega) (by omega)]
  omega
theorem floor_any (n d : Int) (n0 : -1152921504606846976 ≤ n) (n1 : n ≤ 1152921504606846976) (d0 : 0 < d) (w : World) :
  Calls Tryz.prog 75 #[.int .i64 n, .int .i64 d] w fun e w' => e = .returned (.int .i64 (n / d)) ∧ w = w' := by
 have HF := lh (tdiv_floor n d0)
 have hq : -1152921504606846976 ≤ n.tdiv d ∧ n.tdiv d ≤ 1152921504606846976 := by
  have := Int.natAbs_tdiv n d;have h2 := Nat.div_le_self n.natAbs d.natAbs;have : (n.tdiv d).natAbs = n.natAbs.div d.natAbs := this;have h3 : n.natAbs.div d.natAbs = n.natAbs / d.natAbs := rfl;omega
 have hz : (d == 0) = false := beq_eq_false_iff_ne.2 (by omega);have w1 : IntKind.i64.wrap (n.tdiv d) = n.tdiv d := by simp only [IntKind.wrap_i64]; omega
 have hm : -d < n.tmod d ∧ n.tmod d < d := by
  have l := Int.tmod_lt_of_pos n d0;have := Int.tmod_lt_of_pos (-n) d0;rw [Int.neg_tmod] at this;omega
 obtain ⟨q, hqq⟩ := nm (n.tdiv d);obtain ⟨r, hrr⟩ := nm (n.tmod d)
 by_cases c : n.tmod d < 0
 ·have HC := lh c
  go_enter Tryz.func75, Tryz.ntmps75
  go_wp2_with fail
  go_ret;exact ⟨ret_int (by rw [HF.out, if_pos HC.out]; go_num), rfl⟩
 ·have HC := lh c
  go_enter Tryz.func75, Tryz.ntmps75
  go_wp2_with fail
  go_ret;exact ⟨ret_int (by rw [HF.out, if_neg (by have := HC.out; omega)]; first | exact hqq.symm | exact hqq | rfl), rfl⟩
theorem ceil_any (n d : Int) (hv : validF n d = true) (w : World) :
  Calls Tryz.prog 45 #[.agg #[.int .i64 n, .int .i64 d]] w fun e w' => e = .returned (.tuple #[.int .i64 (ceilI n d), .int .i64 0]) ∧ Below w.heap.size w w' := by
 obtain ⟨d0, d1, n0, n1, _⟩ := (validF_iff _ _).1 hv;have hb0 := lh (below_new w (.cells #[.int .i64 n, .int .i64 d] 110));have HC := lh (valid_any n d);have HV := lh hv;have hw : IntKind.i64.wrap (-n) = -n := by simp only [IntKind.wrap_i64]; omega
 have HFL := lh fun w' => floor_any (-n) d (by omega) (by omega) (by omega) w'
 have hbd : -1152921504606846976 ≤ -n / d ∧ -n / d ≤ 1152921504606846976 := by
  have := Int.natAbs_ediv_le_natAbs (-n) d;omega
 have hc : IntKind.i64.wrap (-(-n / d)) = ceilI n d := by unfold ceilI; simp only [IntKind.wrap_i64]; omega
 clear hv
 go_enter Tryz.func45, Tryz.ntmps45
 go_wp2_with (first
  | (go_at_call 70; (with_reducible refine (HC.out _).mono ?_); rintro e w1 ⟨rfl, hb1⟩; rw [HV.out]; have HB1 := lh (hb0.out.trans (hb1.mono hb0.out.size)); have g0 := (hb1.cell (p := ⟨w.heap.size, 0, none⟩) (by simp)).trans (show (w.alloc (.cells #[.int .i64 n, .int .i64 d] 110)).cell? ⟨w.heap.size, 0, none⟩ = some (.int .i64 n) by simp); have g1 := (hb1.cell (p := ⟨w.heap.size, 1, none⟩) (by simp)).trans (show (w.alloc (.cells #[.int .i64 n, .int .i64 d] 110)).cell? ⟨w.heap.size, 1, none⟩ = some (.int .i64 d) by simp))
  | (go_at_call 75; (with_reducible refine (HFL.out _).mono ?_); rintro e w2 ⟨rfl, rfl⟩))
 go_ret2
 exact ⟨rfl, HB1.out⟩
theorem twhole_any (n : Int) (w : World) : Calls Tryz.prog 44 #[.int .i64 n] w fun e w' => e = .returned (.agg #[.int .i64 n, .int .i64 1]) ∧ Below w.heap.size w w' := by
 go_enter Tryz.func44, Tryz.ntmps44
 go_wp2_with fail
 refine bodyPost_ret (v := .agg #[.int .i64 n, .int .i64 1]) (by simp [results, Tryz.results44, go_sem]) rfl ⟨rfl, ?_⟩;exact below_new _ _
theorem rof_any (n : Int) (w : World) : Calls Tryz.prog 58 #[.int .i64 n] w fun e w' => e = .returned (.agg #[.int .i64 n, .int .i64 1]) ∧ Below w.heap.size w w' := by
 go_enter Tryz.func58, Tryz.ntmps58
 go_wp2_with fail
 refine bodyPost_ret (v := .agg #[.int .i64 n, .int .i64 1]) (by simp [results, Tryz.results58, go_sem]) rfl ⟨rfl, ?_⟩;exact below_new _ _
theorem rneg_any (n d : Int) (n0 : -1152921504606846976 ≤ n) (n1 : n ≤ 1152921504606846976) (w : World) : Calls Tryz.prog 98 #[.agg #[.int .i64 n, .int .i64 d]] w fun e w' => e = .returned (.agg #[.int .i64 (-n), .int .i64 d]) ∧ Below w.heap.size w w' := by
 have hw : IntKind.i64.wrap (-n) = -n := by simp only [IntKind.wrap_i64]; omega
 have hb := (below_new w (.cells #[.int .i64 n, .int .i64 d] 110)).alloc (by simp) (.cells #[.int .i64 (-n), .int .i64 d] 110);have HB := lh hb;clear hb
 go_enter Tryz.func98, Tryz.ntmps98
 go_wp2_with fail
 refine bodyPost_ret (v := .agg #[.int .i64 (-n), .int .i64 d]) (by simp [results, Tryz.results98, go_sem]) rfl ⟨rfl, ?_⟩;exact HB.out
theorem floor_mul (n : Int) {d : Int} (hd : 0 < d) : n / d = if n < n.tdiv d * d then n.tdiv d - 1 else n.tdiv d := by
 have e := Int.mul_tdiv_add_tmod n d;have f := tdiv_floor n hd;have c : n.tdiv d * d = d * n.tdiv d := Int.mul_comm _ _
 by_cases h : n.tmod d < 0
 ·rw [if_pos h] at f
  rw [if_pos (by omega), f]
 ·rw [if_neg h] at f
  rw [if_neg (by omega), f]
theorem rfloor_any (n d : Int) (n0 : -1152921504606846976 ≤ n) (n1 : n ≤ 1152921504606846976) (d0 : 0 < d) (w : World) :
  Calls Tryz.prog 97 #[.agg #[.int .i64 n, .int .i64 d]] w fun e w' => e = .returned (.int .i64 (n / d)) ∧ Below w.heap.size w w' := by
 have HF := lh (floor_mul n d0);have hz : (d == 0) = false := beq_eq_false_iff_ne.2 (by omega)
 have hq : -1152921504606846976 ≤ n.tdiv d ∧ n.tdiv d ≤ 1152921504606846976 := by
  have := Int.natAbs_tdiv n d;have h2 := Nat.div_le_self n.natAbs d.natAbs;have : (n.tdiv d).natAbs = n.natAbs.div d.natAbs := this;have h3 : n.natAbs.div d.natAbs = n.natAbs / d.natAbs := rfl;omega
 have hm : -1152921504606846976 ≤ n.tdiv d * d ∧ n.tdiv d * d ≤ 1152921504606846976 := by
  have e := Int.mul_tdiv_add_tmod n d;have c : n.tdiv d * d = d * n.tdiv d := Int.mul_comm _ _;have a := Int.natAbs_tdiv n d
  have s : (n.tdiv d * d).natAbs ≤ n.natAbs := by
   rw [Int.natAbs_mul, a];exact Nat.div_mul_le_self _ _
  omega
 have w1 : IntKind.i64.wrap (n.tdiv d) = n.tdiv d := by simp only [IntKind.wrap_i64]; omega
 have w2 : IntKind.i64.wrap (n.tdiv d * d) = n.tdiv d * d := by simp only [IntKind.wrap_i64]; omega
 have w3 : IntKind.i64.wrap (n.tdiv d - 1) = n.tdiv d - 1 := by simp only [IntKind.wrap_i64]; omega
 have hb := lh (below_new w (.cells #[.int .i64 n, .int .i64 d] 110))
 by_cases c : n < n.tdiv d * d
 ·have HC := lh c
  have g := decide_eq_true c;clear c hq hm
  go_enter Tryz.func97, Tryz.ntmps97
  go_wp2_with fail
  go_ret;exact ⟨ret_int (by rw [HF.out, if_pos (by have := HC.out; omega)]), hb.out⟩
 ·have HC := lh c
  have g := decide_eq_false c;clear c hq hm
  go_enter Tryz.func97, Tryz.ntmps97
  go_wp2_with fail
  go_ret;exact ⟨ret_int (by rw [HF.out, if_neg (by have := HC.out; omega)]), hb.out⟩
theorem rceil_any (n d : Int) (hv : validF n d = true) (w : World) :
  Calls Tryz.prog 59 #[.agg #[.int .i64 n, .int .i64 d]] w fun e w' => e = .returned (.int .i64 (ceilI n d)) ∧ Below w.heap.size w w' := by
 obtain ⟨d0, d1, n0, n1, _⟩ := (validF_iff _ _).1 hv;have hb0 := lh (below_new w (.cells #[.int .i64 n, .int .i64 d] 110));have HNG := lh fun w' => rneg_any n d n0 n1 w';have HFL := lh fun w' => rfloor_any (-n) d (by omega) (by omega) (by omega) w'
 have hbd : -1152921504606846976 ≤ -n / d ∧ -n / d ≤ 1152921504606846976 := by
  have := Int.natAbs_ediv_le_natAbs (-n) d;omega
 have hc : IntKind.i64.wrap (0 - (-n / d)) = ceilI n d := by unfold ceilI; simp only [IntKind.wrap_i64]; omega
 have hc2 : IntKind.i64.wrap (-(-n / d)) = ceilI n d := by unfold ceilI; simp only [IntKind.wrap_i64]; omega
 clear hv hbd
 go_enter Tryz.func59, Tryz.ntmps59
 go_wp2_with (first
  | (go_at_call 98; (with_reducible refine (HNG.out _).mono ?_); rintro e w1 ⟨rfl, hb1⟩; have HB1 := lh (hb0.out.trans (hb1.mono hb0.out.size)))
  | (go_at_call 97; (with_reducible refine (HFL.out _).mono ?_); rintro e w2 ⟨rfl, hb2⟩; have HB2 := lh (HB1.out.trans (hb2.mono HB1.out.size))))
 go_ret;exact ⟨rfl, HB2.out⟩
end
section
open Go.RowKit Go.Shelf
def FI (w : World) (B : Nat) (h l : Int) : Prop := w.cell? ⟨B, 0, none⟩ = some (.int .i64 h) ∧ w.cell? ⟨B, 1, none⟩ = some (.int .i64 l) ∧ w.frozen? ⟨B, 0, none⟩ = false ∧ w.frozen? ⟨B, 1, none⟩ = false ∧ B < w.heap.size
theorem FI.carry {W w : World} {B : Nat} {x y : Int} (f : FI W B x y) (h : Below W.heap.size W w) : FI w B x y :=
 ⟨(h.cell (p := ⟨B, 0, none⟩) f.2.2.2.2).trans f.1, (h.cell (p := ⟨B, 1, none⟩) f.2.2.2.2).trans f.2.1, (h.frozen (p := ⟨B, 0, none⟩) f.2.2.2.2).trans f.2.2.1, (h.frozen (p := ⟨B, 1, none⟩) f.2.2.2.2).trans f.2.2.2.1, Nat.lt_of_lt_of_le f.2.2.2.2 h.size⟩
theorem FI.set {w : World} {B : Nat} {x y : Int} (f : FI w B x y) (h l : Int) : FI ((w.setCell ⟨B, 0, none⟩ (.int .i64 h)).setCell ⟨B, 1, none⟩ (.int .i64 l)) B h l := by
 obtain ⟨d0, d1⟩ := two_cells (v0 := .int .i64 h) (v1 := .int .i64 l) f.1 f.2.1;exact ⟨d0, d1, by simpa using f.2.2.1, by simpa using f.2.2.2.1, by simpa using f.2.2.2.2⟩
theorem FI.other {w : World} {B C : Nat} {x y : Int} (f : FI w C x y) (hne : C ≠ B) (u v : Value) : FI ((w.setCell ⟨B, 0, none⟩ u).setCell ⟨B, 1, none⟩ v) C x y :=
 ⟨(two_other hne _ _ _).trans f.1, (two_other hne _ _ _).trans f.2.1, by simpa using f.2.2.1, by simpa using f.2.2.2.1, by simpa using f.2.2.2.2⟩
theorem FI.new (w : World) (t : TypeId) : FI (w.alloc (.cells #[.int .i64 0, .int .i64 0] t)) w.heap.size 0 0 := ⟨by simp, by simp, by simp, by simp, by simp⟩
theorem FI.put (w : World) (x y : Int) (t : TypeId) : FI (w.alloc (.cells #[.int .i64 x, .int .i64 y] t)) w.heap.size x y := ⟨by simp, by simp, by simp, by simp, by simp⟩
end
section
open Go.RowKit Go.Shelf
attribute [local go_sem] Oper.semAt_some
structure HeldT (n₀ : Nat) (W0 w : World) : Prop where
 old : Below n₀ W0 w
 lo : n₀ ≤ w.heap.size
theorem HeldT.next {n₀ : Nat} {W0 w w' : World} (h : HeldT n₀ W0 w) (hb : Below w.heap.size w w') : HeldT n₀ W0 w' := ⟨h.old.trans (hb.mono h.lo), Nat.le_trans h.lo hb.size⟩
theorem HeldT.put {n₀ g o : Nat} {W0 w : World} (h : HeldT n₀ W0 w) (hg : n₀ ≤ g) (v : Value) : HeldT n₀ W0 (w.setCell ⟨g, o, none⟩ v) := ⟨h.old.setCell (show n₀ ≤ (⟨g, o, none⟩ : Addr).block from hg) _, by simp; exact h.lo⟩
theorem rtimes_any (x : Int × Int) (ok : TmOK x) (w : World) :
  Calls Tryz.prog 57 #[.agg #[.int .i64 x.1, .int .i64 x.2], .agg #[.int .i64 1000, .int .i64 1]] w fun e w' => e = .returned (.tuple #[.agg #[.int .i64 (lowN (1000 * x.1) x.2), .int .i64 (lowD (1000 * x.1) x.2)], .int .i64 0]) ∧ Below w.heap.size w w' := by
 obtain ⟨va, vb, vc⟩ := ok;obtain ⟨d0, d1, n0, n1, _⟩ := (validF_iff _ _).1 va;have HS1 := lh fun w' => rsize_any x.1 (by omega) (by omega) w';have HS2 := lh fun w' => rsize_any 1000 (by omega) (by omega) w';have HS3 := lh fun w' => rsize_any x.2 (by omega) (by omega) w';have HS4 := lh fun w' => rsize_any 1 (by omega) (by omega) w';rw [show ((x.1.natAbs : Nat) : Int) = x.1 by omega] at HS1;rw [show (((1000 : Int).natAbs : Nat) : Int) = 1000 by rfl] at HS2;rw [show ((x.2.natAbs : Nat) : Int) = x.2 by omega] at HS3;rw [show (((1 : Int).natAbs : Nat) : Int) = 1 by rfl] at HS4;have HM1 := lh fun w' => rmul_any x.1 1000 vb (by omega) (by omega) (by omega) w';have HM2 := lh fun w' => rmul_any x.2 1 (by omega) (by omega) (by omega) (by omega) w';rw [show x.1 * 1000 / 18446744073709551616 = 0 by omega, show x.1 * 1000 % 18446744073709551616 = 1000 * x.1 by omega] at HM1;rw [show x.2 * 1 / 18446744073709551616 = 0 by omega, show x.2 * 1 % 18446744073709551616 = x.2 by omega] at HM2;have HMD := lh fun w' => rmade_any (1000 * x.1) x.2 false (by omega) vc (by omega) d1 w';have hneg : decide (x.1 < 0) = false := dF (by omega);generalize lowN (1000 * x.1) x.2 = N at *;generalize lowD (1000 * x.1) x.2 = D at *;have hb0 : Below w.heap.size w (((w.alloc (.cells #[.int .i64 x.1, .int .i64 x.2] 110)).alloc (.cells #[.int .i64 1000, .int .i64 1] 110)).alloc (.cells #[.int .i64 0, .int .i64 0] 110)) := ((below_new w _).alloc (by simp) _).alloc (by simp; omega) _;obtain ⟨c0, c1, -, -, -⟩ := ((FI.put w x.1 x.2 110).carry (below_new _ (.cells #[.int .i64 1000, .int .i64 1] 110))).carry (below_new ((w.alloc (.cells #[.int .i64 x.1, .int .i64 x.2] 110)).alloc (.cells #[.int .i64 1000, .int .i64 1] 110)) (.cells #[.int .i64 0, .int .i64 0] 110));have e2 := (FI.put (w.alloc (.cells #[.int .i64 x.1, .int .i64 x.2] 110)) 1000 1 110).carry (below_new ((w.alloc (.cells #[.int .i64 x.1, .int .i64 x.2] 110)).alloc (.cells #[.int .i64 1000, .int .i64 1] 110)) (.cells #[.int .i64 0, .int .i64 0] 110));rw [show (w.alloc (.cells #[.int .i64 x.1, .int .i64 x.2] 110)).heap.size = w.heap.size + 1 by simp] at e2;obtain ⟨c2, c3, -, -, -⟩ := e2
 have hN : NewI6 (((w.alloc (.cells #[.int .i64 x.1, .int .i64 x.2] 110)).alloc (.cells #[.int .i64 1000, .int .i64 1] 110)).alloc (.cells #[.int .i64 0, .int .i64 0] 110)) (w.heap.size + 1 + 1) := by
  have e := NewI6.new ((w.alloc (.cells #[.int .i64 x.1, .int .i64 x.2] 110)).alloc (.cells #[.int .i64 1000, .int .i64 1] 110)) 110;rw [show ((w.alloc (.cells #[.int .i64 x.1, .int .i64 x.2] 110)).alloc (.cells #[.int .i64 1000, .int .i64 1] 110)).heap.size = w.heap.size + 1 + 1 by simp] at e;exact e
 clear va vb vc d0 d1 n0 n1
 go_enter Tryz.func57, Tryz.ntmps57
 go_upto_region 1 with (fail)
 obtain ⟨W0, hW0⟩ := nm ((((w.alloc (.cells #[.int .i64 x.1, .int .i64 x.2] 110)).alloc (.cells #[.int .i64 1000, .int .i64 1] 110)).alloc (.cells #[.int .i64 0, .int .i64 0] 110)) : World);simp only [hW0] at hb0 c0 c1 c2 c3 hN ⊢;clear hW0;obtain ⟨B1, hB1⟩ := nm (w.heap.size);obtain ⟨B2, hB2⟩ := nm (w.heap.size + 1);obtain ⟨n₀, hn0⟩ := nm (w.heap.size + 1 + 1);have hl1 : B1 < n₀ := by omega
 have hl2 : B2 < n₀ := by omega
 have HLO : Hid (w.heap.size ≤ n₀) := lh (by omega);have HB0 := lh hb0;rw [hn0] at hN ⊢;rw [hB2] at c2 c3 ⊢;rw [hB1] at c0 c1 ⊢;clear hB1 hB2 hn0 hb0;have x0 : ∀ w', HeldT n₀ W0 w' → w'.cell? ⟨B1, 0, none⟩ = some (.int .i64 x.1) := fun w' z => (z.old.cell (p := ⟨B1, 0, none⟩) hl1).trans c0;have x1 : ∀ w', HeldT n₀ W0 w' → w'.cell? ⟨B1, 1, none⟩ = some (.int .i64 x.2) := fun w' z => (z.old.cell (p := ⟨B1, 1, none⟩) hl1).trans c1;have x2 : ∀ w', HeldT n₀ W0 w' → w'.cell? ⟨B2, 0, none⟩ = some (.int .i64 1000) := fun w' z => (z.old.cell (p := ⟨B2, 0, none⟩) hl2).trans c2;have x3 : ∀ w', HeldT n₀ W0 w' → w'.cell? ⟨B2, 1, none⟩ = some (.int .i64 1) := fun w' z => (z.old.cell (p := ⟨B2, 1, none⟩) hl2).trans c3;have hH0 : HeldT n₀ W0 W0 := ⟨br, by have := hN.2.2.2.2; omega⟩;have hF0 := hN.carry (br).drew;clear c0 c1 c2 c3 hN;refine wp_region_held_drew (S := (HeldT n₀ W0)) (by kernel_rfl) (hH0.next (br).drew) (fun hHeld => ?_);refine tk 0 ?_; refine tk 1 ?_; refine tk 3 ?_; refine tk 4 ?_; refine tk 7 ?_; refine tk 8 ?_; refine tk 9 ?_; refine tk 10 ?_; refine tk 11 ?_; refine tk 12 ?_; refine tk 13 ?_; refine tk 14 ?_; refine tk 15 ?_; refine tk 17 ?_; refine tk 18 ?_;refine r1 2 (fun K hK => ?_)
 try simp only [p4, p5, p6]
 go_simp
 (go_at_call 96; go_split_ands; (with_reducible refine (HS1.out _).mono ?_); rintro e y1 ⟨rfl, rfl⟩)
 go_wp2_with fail
 refine hK.out _ _ (hHeld) (fun hHeld => ?_);clear hK K
 try simp only [Act.put, q1, p2, p3, p4, p5, p6]
 refine r1 5 (fun K hK => ?_)
 try simp only [p4, p5, p6]
 go_simp
 (go_at_call 96; go_split_ands; (with_reducible refine (HS2.out _).mono ?_); rintro e y2 ⟨rfl, rfl⟩)
 go_wp2_with fail
 refine hK.out _ _ (hHeld) (fun hHeld => ?_);clear hK K
 try simp only [Act.put, q1, p2, p3, p4, p5, p6]
 refine r1 6 (fun K hK => ?_)
 try simp only [p4, p5, p6]
 go_simp
 (go_at_call 95; go_split_ands; (with_reducible refine (HM1.out _).mono ?_); rintro e y3 ⟨rfl, hy3⟩; have hH3 := hHeld.next hy3; have hF3 := hF0.carry hy3)
 go_wp2_with fail
 refine hK.out _ _ (hH3) (fun hHeld => ?_);clear hK K
 try simp only [Act.put, q1, p2, p3, p4, p5, p6]
 refine r1 16 (fun K hK => ?_)
 try simp only [p4, p5, p6]
 go_simp
 (go_at_call 96; go_split_ands; (with_reducible refine (HS3.out _).mono ?_); rintro e y4 ⟨rfl, rfl⟩)
 go_wp2_with fail
 refine hK.out _ _ (hHeld) (fun hHeld => ?_);clear hK K
 try simp only [Act.put, q1, p2, p3, p4, p5, p6]
 refine r1 19 (fun K hK => ?_)
 try simp only [p4, p5, p6]
 go_simp
 (go_at_call 96; go_split_ands; (with_reducible refine (HS4.out _).mono ?_); rintro e y5 ⟨rfl, rfl⟩)
 go_wp2_with fail
 refine hK.out _ _ (hHeld) (fun hHeld => ?_);clear hK K
 try simp only [Act.put, q1, p2, p3, p4, p5, p6]
 refine r1 20 (fun K hK => ?_)
 try simp only [p4, p5, p6]
 go_simp
 (go_at_call 95; go_split_ands; (with_reducible refine (HM2.out _).mono ?_); rintro e y6 ⟨rfl, hy6⟩; have hH6 := hHeld.next hy6; have hF6 := hF3.carry hy6)
 go_wp2_with fail
 refine hK.out _ _ (hH6) (fun hHeld => ?_);clear hK K
 try simp only [Act.put, q1, p2, p3, p4, p5, p6]
 refine r1 21 (fun K hK => ?_)
 try simp only [p4, p5, p6]
 go_simp
 (go_at_call 94; go_split_ands; (with_reducible refine (HMD.out _).mono ?_); rintro e y7 ⟨rfl, hy7⟩; have hH7 := hHeld.next hy7; have hF7 := hF6.carry hy7)
 go_wp2_with fail
 refine hK.out _ _ (hH7) (fun hHeld => ?_);clear hK K
 try simp only [Act.put, q1, p2, p3, p4, p5, p6]
 refine tk 22 ?_; refine tk 23 ?_;obtain ⟨f0, f1, f2, f3, f4⟩ := hF7;refine r1 24 (fun K hK => ?_);rw [if_pos (by rfl)]
 go_wp2_with fail
 refine hK.out _ _ ((hH7.put (Nat.le_refl _) _).put (Nat.le_refl _) _) (fun hHeld => ?_);clear hK K
 try simp only [Act.put, q1, p2, p3, p4, p5, p6]
 refine tk 25 ?_;refine wpAnyH_done (by kernel_rfl) ?_ _
 go_wp2_with fail
 have hr := two_cells (v0 := .int .i64 N) (v1 := .int .i64 D) f0 f1;refine bodyPost_ret (v := .tuple #[.agg #[.int .i64 N, .int .i64 D], .int .i64 0]) (by simp [results, Tryz.results57, go_sem, hr.1, hr.2]) rfl ⟨rfl, ?_⟩;exact (HB0.out.trans (hH7.old.mono HLO.out |>.setCell (show w.heap.size ≤ (⟨n₀, 0, none⟩ : Addr).block from HLO.out) _)).setCell (show w.heap.size ≤ (⟨n₀, 1, none⟩ : Addr).block from HLO.out) _
theorem items_iff3 {I : List ItemR} {len : Int} : itemsB I len = true ↔ I.length ≤ 40 ∧ ∀ j, j < I.length → item1 len (tg I j) = true ∧ ∀ i, i < j → (tg I i).name ≠ (tg I j).name ∧ apartB (tg I i) (tg I j) = true := by
 rw [items_iff2]
 have hn : (I.map (·.name)).Nodup ↔ ∀ j, j < I.length → ∀ i, i < j → (tg I i).name ≠ (tg I j).name := by
  rw [List.Nodup, List.pairwise_map, List.pairwise_iff_getElem]
  constructor
  ·intro h j hj i hi
   rw [tg_eq I i (by omega), tg_eq I j hj];exact h i j (by omega) hj hi
  ·intro h i j hi hj hij
   have := h j hj i hij
   rwa [tg_eq I i hi, tg_eq I j hj] at this
 rw [hn]
 constructor
 ·rintro ⟨a, b, c, d⟩
  exact ⟨a, fun j hj => ⟨c j hj, fun i hi => ⟨b j hj i hi, d j hj i hi⟩⟩⟩
 ·rintro ⟨a, b⟩
  exact ⟨a, fun j hj i hi => ((b j hj).2 i hi).1, fun j hj => (b j hj).1, fun j hj i hi => ((b j hj).2 i hi).2⟩
theorem ritems_any (r : SetR) (w : World) (hlen : 0 ≤ r.length ∧ r.length ≤ 1048576) (hs : SetIn w r) :
  Calls Tryz.prog 132 #[.agg #[.string r.name, .int .i64 r.depth, .int .i64 r.low, .int .i64 r.high, .int .i64 r.length, .slice r.la r.lines.length r.lc, .int .i64 r.pipe, .int .i64 r.arbor, .int .i64 r.purchase, .int .i64 r.most, .int .i64 r.brake, .slice r.ia r.items.length r.ic, .slice r.ba r.bricks.length r.bc]] w fun e w' => e = .returned (.bool (itemsB r.items r.length)) ∧ Below w.heap.size w w' := by
 have HLEN := lh hlen;obtain ⟨R, hR⟩ := nm (itemsB r.items r.length);have HI : Hid (R = true ↔ r.items.length ≤ 40 ∧ ∀ j, j < r.items.length → item1 r.length (tg r.items j) = true ∧ ∀ i, i < j → (tg r.items i).name ≠ (tg r.items j).name ∧ apartB (tg r.items i) (tg r.items j) = true) := lh (by rw [← hR]; exact items_iff3);rw [hR];clear hR;have hb0 := below_new w (RC r);have HX : Hid (∀ wx, Below (w.alloc (RC r)).heap.size (w.alloc (RC r)) wx → Below w.heap.size w wx) := lh fun wx h => mono_in _ h;have HS : Hid (∀ wx, Below (w.alloc (RC r)).heap.size (w.alloc (RC r)) wx → SetIn wx r) := lh fun wx h => (hs.grow hb0).grow h;have HAT : Hid (∀ wx, Below (w.alloc (RC r)).heap.size (w.alloc (RC r)) wx → SetAt wx w.heap.size r) := lh fun wx h => (SetAt.new w r 89).below h (by simp);clear hb0 hs
 by_cases q : 40 < r.items.length
 ·have HR : Hid (R = false) := lh (by
   rw [Bool.eq_false_iff];intro h;have := (HI.out.1 h).1;omega)
  have g : decide ((40 : Int) < r.items.length) = true := dT (by omega);have g' : decide (40 < r.items.length) = true := dT (by omega);clear q
  go_enter Tryz.func132, Tryz.ntmps132
  go_wp2_with fail
  go_ret;exact ⟨ret_bool HR.out.symm, HX.out _ br⟩
 have g : decide ((40 : Int) < r.items.length) = false := dF (by omega);have g' : decide (40 < r.items.length) = false := dF (by omega);have hq : r.items.length ≤ 40 := by omega
 have HI2 : Hid (R = true ↔ ∀ j, j < r.items.length → item1 r.length (tg r.items j) = true ∧ ∀ i, i < j → (tg r.items i).name ≠ (tg r.items j).name ∧ apartB (tg r.items i) (tg r.items j) = true) := lh (by rw [HI.out]; exact ⟨fun h => h.2, fun h => ⟨hq, h⟩⟩);clear q HI
 go_enter Tryz.func132, Tryz.ntmps132
 go_wp2_with fail
 generalize (w.alloc (RC r)) = W0 at *;have hB1 := Below.refl W0.heap.size W0;obtain ⟨-, -, -, -, x4, -, -, -, -, -, -, x11, -⟩ := set13 HAT
 go_loopw [3] (fun i wr => ∃ k : Nat, k ≤ r.items.length ∧ i = .int .i64 k ∧ Hid (∀ j, j < k → item1 r.length (tg r.items j) = true ∧ ∀ i, i < j → (tg r.items i).name ≠ (tg r.items j).name ∧ apartB (tg r.items i) (tg r.items j) = true) ∧ Below W0.heap.size W0 wr) (fun i _ => r.items.length - (intOf i).toNat)
 case atStart => exact ⟨0, Nat.zero_le _, rfl, lh (fun j hj => by omega), hB1⟩
 case round =>
  obtain ⟨k, hk, rfl, HO, hB⟩ := hrel
  by_cases hlt : k < r.items.length
  ·obtain ⟨b, off, hia, _, _⟩ := (HS.out W0 hB1).items (by omega)
   have y11 : ∀ wx, Below W0.heap.size W0 wx → wx.cell? ⟨w.heap.size, 11, none⟩ = some (.slice (some ⟨b, off, none⟩) r.items.length r.ic) := fun wx h => by rw [← hia]; exact x11 wx h
   have HIA := lh hia;clear x11 hia;obtain ⟨x, hx⟩ := nm (tg r.items k)
   have c0 : ∀ wx, Below W0.heap.size W0 wx → wx.cell? ⟨b, off + k * 7, none⟩ = some (.string (tg r.items k).name) := fun wx h => by
    obtain ⟨b', off', e, _, hc⟩ := (HS.out wx h).items (by omega);rw [HIA.out] at e
    cases e
    exact (hc k hlt).1
   have c1 : ∀ wx, Below W0.heap.size W0 wx → wx.cell? ⟨b, off + k * 7 + 1, none⟩ = some (.int .i64 (tg r.items k).pos) := fun wx h => by
    obtain ⟨b', off', e, _, hc⟩ := (HS.out wx h).items (by omega);rw [HIA.out] at e
    cases e
    exact (hc k hlt).2.1
   have c2 : ∀ wx, Below W0.heap.size W0 wx → wx.cell? ⟨b, off + k * 7 + 2, none⟩ = some (.int .i64 (tg r.items k).width) := fun wx h => by
    obtain ⟨b', off', e, _, hc⟩ := (HS.out wx h).items (by omega);rw [HIA.out] at e
    cases e
    exact (hc k hlt).2.2.1
   have c3 : ∀ wx, Below W0.heap.size W0 wx → wx.cell? ⟨b, off + k * 7 + 3, none⟩ = some (.int .i64 (tg r.items k).weight) := fun wx h => by
    obtain ⟨b', off', e, _, hc⟩ := (HS.out wx h).items (by omega);rw [HIA.out] at e
    cases e
    exact (hc k hlt).2.2.2.1
   have c4 : ∀ wx, Below W0.heap.size W0 wx → wx.cell? ⟨b, off + k * 7 + 4, none⟩ = some (.int .i64 (tg r.items k).hang) := fun wx h => by
    obtain ⟨b', off', e, _, hc⟩ := (HS.out wx h).items (by omega);rw [HIA.out] at e
    cases e
    exact (hc k hlt).2.2.2.2.1
   have c5 : ∀ wx, Below W0.heap.size W0 wx → wx.cell? ⟨b, off + k * 7 + 5, none⟩ = some (.int .i64 (tg r.items k).front) := fun wx h => by
    obtain ⟨b', off', e, _, hc⟩ := (HS.out wx h).items (by omega);rw [HIA.out] at e
    cases e
    exact (hc k hlt).2.2.2.2.2.1
   have c6 : ∀ wx, Below W0.heap.size W0 wx → wx.cell? ⟨b, off + k * 7 + 6, none⟩ = some (.int .i64 (tg r.items k).back) := fun wx h => by
    obtain ⟨b', off', e, _, hc⟩ := (HS.out wx h).items (by omega);rw [HIA.out] at e
    cases e
    exact (hc k hlt).2.2.2.2.2.2
   have HN : Hid (item1 r.length x = false → R = false) := lh fun h => by
    rw [Bool.eq_false_iff];intro q;rw [← hx, (HI2.out.1 q k hlt).1] at h;cases h
   have HNB : Hid (∀ i, i < k → ¬ ((tg r.items i).name ≠ x.name ∧ apartB (tg r.items i) x = true) → R = false) := lh fun i hi h => by
    rw [Bool.eq_false_iff];intro q
    apply h
    rw [← hx];exact (HI2.out.1 q k hlt).2 i hi
   have HY : Hid (item1 r.length x = true → (∀ i, i < k → (tg r.items i).name ≠ x.name ∧ apartB (tg r.items i) x = true) → ∀ j, j < k + 1 → item1 r.length (tg r.items j) = true ∧ ∀ i, i < j → (tg r.items i).name ≠ (tg r.items j).name ∧ apartB (tg r.items i) (tg r.items j) = true) := lh fun h h2 j hj => by
    rcases (show j < k ∨ j = k by omega) with l | l
    ·exact HO.out j l
    ·subst l; rw [hx]; exact ⟨h, h2⟩
   rw [hx] at c0 c1 c2 c3 c4 c5 c6;clear hx;have k1 : (k : Int) < r.items.length := by omega
   cases hv : item1 r.length x
   ·have HV := lh hv
    have HR := lh (HN.out hv);clear hv HN HNB HY
    go_wp2_with fail
    refine wp_region_held_drew (S := (fun w' => Below W0.heap.size W0 w')) (by kernel_rfl) (hB.drew) (fun hHeld => ?_);refine tkB 0 ?_;simp only [Act.put, q1, p2, p3, p4, p6];refine tkB 1 ?_;simp only [Act.put, q1, p2, p3, p4, p5, p6];refine tkB 2 ?_;simp only [Act.put, q1, p2, p3, p4, p5, p6];refine tkB 3 ?_;simp only [Act.put, q1, p2, p3, p4, p5, p6];refine tkB 4 ?_;simp only [Act.put, q1, p2, p3, p4, p5, p6];refine tkB 5 ?_;simp only [Act.put, q1, p2, p3, p4, p5, p6];refine tkB 6 ?_;simp only [Act.put, q1, p2, p3, p4, p5, p6];refine r1 7 (fun K hK => ?_)
    try simp only [p4, p5, p6]
    go_simp
    (go_at_call 158; go_split_ands; (with_reducible refine (ralone_any x r.length _ HLEN.out).mono ?_); rintro e w2 ⟨rfl, hb⟩; rw [HV.out])
    go_wp2_with fail
    refine hK.out _ _ (hHeld.trans (hb.mono hHeld.size)) (fun hHeld => ?_);clear hK K
    try simp only [Act.put, q1, p2, p3, p4, p5, p6]
    refine tkB 8 ?_;simp only [Act.put, q1, p2, p3, p4, p5, p6];refine wpAnyH_done (by kernel_rfl) ?_ _
    go_wp2_with fail
    go_ret;exact ⟨ret_bool HR.out.symm, HX.out _ hHeld⟩
   have HV := lh hv;have HY2 := lh (HY.out hv);clear hv HN HY
   go_wp2_with fail
   refine wp_region_held_drew (S := (fun w' => Below W0.heap.size W0 w')) (by kernel_rfl) (hB.drew) (fun hHeld => ?_);refine tkB 0 ?_;simp only [Act.put, q1, p2, p3, p4, p6];refine tkB 1 ?_;simp only [Act.put, q1, p2, p3, p4, p5, p6];refine tkB 2 ?_;simp only [Act.put, q1, p2, p3, p4, p5, p6];refine tkB 3 ?_;simp only [Act.put, q1, p2, p3, p4, p5, p6];refine tkB 4 ?_;simp only [Act.put, q1, p2, p3, p4, p5, p6];refine tkB 5 ?_;simp only [Act.put, q1, p2, p3, p4, p5, p6];refine tkB 6 ?_;simp only [Act.put, q1, p2, p3, p4, p5, p6];refine r1 7 (fun K hK => ?_)
   try simp only [p4, p5, p6]
   go_simp
   (go_at_call 158; go_split_ands; (with_reducible refine (ralone_any x r.length _ HLEN.out).mono ?_); rintro e w2 ⟨rfl, hb⟩; rw [HV.out])
   go_wp2_with fail
   refine hK.out _ _ (hHeld.trans (hb.mono hHeld.size)) (fun hHeld => ?_);clear hK K
   try simp only [Act.put, q1, p2, p3, p4, p5, p6]
   refine tkB 8 ?_;simp only [Act.put, q1, p2, p3, p4, p5, p6];refine wpAnyH_done (by kernel_rfl) ?_ _;clear hb;have hB2 := hHeld;clear hHeld
   go_wp2_with fail
   go_loopw [4] (fun i wr => ∃ m : Nat, m ≤ k ∧ i = .int .i64 m ∧ Hid (∀ i, i < m → (tg r.items i).name ≠ x.name ∧ apartB (tg r.items i) x = true) ∧ Below W0.heap.size W0 wr) (fun i _ => k - (intOf i).toNat)
   case atStart => exact ⟨0, Nat.zero_le _, rfl, lh (fun j hj => by omega), hB2⟩
   case round =>
    obtain ⟨m, hm, rfl, HA, hD⟩ := hrel
    by_cases hlm : m < k
    ·obtain ⟨y, hy⟩ := nm (tg r.items m)
     have hmlt : m < r.items.length := by omega
     have d0 : ∀ wx, Below W0.heap.size W0 wx → wx.cell? ⟨b, off + m * 7, none⟩ = some (.string (tg r.items m).name) := fun wx h => by
      obtain ⟨b', off', e, _, hc⟩ := (HS.out wx h).items (by omega);rw [HIA.out] at e
      cases e
      exact (hc m hmlt).1
     have d1 : ∀ wx, Below W0.heap.size W0 wx → wx.cell? ⟨b, off + m * 7 + 1, none⟩ = some (.int .i64 (tg r.items m).pos) := fun wx h => by
      obtain ⟨b', off', e, _, hc⟩ := (HS.out wx h).items (by omega);rw [HIA.out] at e
      cases e
      exact (hc m hmlt).2.1
     have d2 : ∀ wx, Below W0.heap.size W0 wx → wx.cell? ⟨b, off + m * 7 + 2, none⟩ = some (.int .i64 (tg r.items m).width) := fun wx h => by
      obtain ⟨b', off', e, _, hc⟩ := (HS.out wx h).items (by omega);rw [HIA.out] at e
      cases e
      exact (hc m hmlt).2.2.1
     have d3 : ∀ wx, Below W0.heap.size W0 wx → wx.cell? ⟨b, off + m * 7 + 3, none⟩ = some (.int .i64 (tg r.items m).weight) := fun wx h => by
      obtain ⟨b', off', e, _, hc⟩ := (HS.out wx h).items (by omega);rw [HIA.out] at e
      cases e
      exact (hc m hmlt).2.2.2.1
     have d4 : ∀ wx, Below W0.heap.size W0 wx → wx.cell? ⟨b, off + m * 7 + 4, none⟩ = some (.int .i64 (tg r.items m).hang) := fun wx h => by
      obtain ⟨b', off', e, _, hc⟩ := (HS.out wx h).items (by omega);rw [HIA.out] at e
      cases e
      exact (hc m hmlt).2.2.2.2.1
     have d5 : ∀ wx, Below W0.heap.size W0 wx → wx.cell? ⟨b, off + m * 7 + 5, none⟩ = some (.int .i64 (tg r.items m).front) := fun wx h => by
      obtain ⟨b', off', e, _, hc⟩ := (HS.out wx h).items (by omega);rw [HIA.out] at e
      cases e
      exact (hc m hmlt).2.2.2.2.2.1
     have d6 : ∀ wx, Below W0.heap.size W0 wx → wx.cell? ⟨b, off + m * 7 + 6, none⟩ = some (.int .i64 (tg r.items m).back) := fun wx h => by
      obtain ⟨b', off', e, _, hc⟩ := (HS.out wx h).items (by omega);rw [HIA.out] at e
      cases e
      exact (hc m hmlt).2.2.2.2.2.2
     have HZ : Hid (¬ (y.name ≠ x.name ∧ apartB y x = true) → R = false) := lh (by rw [← hy]; exact HNB.out m hlm)
     have HA2 : Hid (y.name ≠ x.name → apartB y x = true → ∀ i, i < m + 1 → (tg r.items i).name ≠ x.name ∧ apartB (tg r.items i) x = true) := lh fun h1 h2 i hi => by
      rcases (show i < m ∨ i = m by omega) with l | l
      ·exact HA.out i l
      ·subst l; rw [hy]; exact ⟨h1, h2⟩
     have HW : Hid (apartW y x = apartB y x) := lh (apartW_is (by rw [← hy]; exact (HO.out m hlm).1) HV.out HLEN.out);rw [hy] at d0 d1 d2 d3 d4 d5 d6;clear hy;have m1 : (m : Int) < r.items.length := by omega
     have m2 : (m : Int) < (k : Int) := by omega
     by_cases hne : y.name = x.name
     ·have g1 : (y.name.toList == x.name.toList) = true := by rw [str_eq]; exact decide_eq_true hne
      have HR := lh (HZ.out fun h => h.1 hne);clear hne HZ HA2
      go_wp2_with fail
      refine wp_region_held_drew (S := (fun w' => Below W0.heap.size W0 w')) (by kernel_rfl) (hD.drew) (fun hHeld => ?_);refine tkB 0 ?_;simp only [Act.put, q1, p2, p3, p4, p6];refine tkB 1 ?_;simp only [Act.put, q1, p2, p3, p4, p5, p6];refine tkB 2 ?_;simp only [Act.put, q1, p2, p3, p4, p5, p6];refine tkB 3 ?_;simp only [Act.put, q1, p2, p3, p4, p5, p6];refine tkB 4 ?_;simp only [Act.put, q1, p2, p3, p4, p5, p6];refine tkB 5 ?_;simp only [Act.put, q1, p2, p3, p4, p5, p6];refine tkB 6 ?_;simp only [Act.put, q1, p2, p3, p4, p5, p6];refine tkB 7 ?_;simp only [Act.put, q1, p2, p3, p4, p5, p6];refine tkB 8 ?_;simp only [Act.put, q1, p2, p3, p4, p5, p6];refine tkB 9 ?_;simp only [Act.put, q1, p2, p3, p4, p5, p6];refine tkB 10 ?_;simp only [Act.put, q1, p2, p3, p4, p5, p6];refine tkB 11 ?_;simp only [Act.put, q1, p2, p3, p4, p5, p6];refine tkB 12 ?_;simp only [Act.put, q1, p2, p3, p4, p5, p6];refine tkB 13 ?_;simp only [Act.put, q1, p2, p3, p4, p5, p6];refine tkS 14 ?_;simp only [Act.put, q1, p2, p3, p4, p5, p6];refine tkS 15 ?_;simp only [Act.put, q1, p2, p3, p4, p5, p6];refine tkS 16 ?_;simp only [Act.put, q1, p2, p3, p4, p5, p6];refine tkS 17 ?_;simp only [Act.put, q1, p2, p3, p4, p5, p6];refine tkS 18 ?_;simp only [Act.put, q1, p2, p3, p4, p5, p6];refine tkS 19 ?_;simp only [Act.put, q1, p2, p3, p4, p5, p6];refine tkS 20 ?_;simp only [Act.put, q1, p2, p3, p4, p5, p6];refine tkS 21 ?_;simp only [Act.put, q1, p2, p3, p4, p5, p6];refine tkS 22 ?_;simp only [Act.put, q1, p2, p3, p4, p5, p6];refine tkS 23 ?_;simp only [Act.put, q1, p2, p3, p4, p5, p6];refine tkS 24 ?_;simp only [Act.put, q1, p2, p3, p4, p5, p6];refine tkS 25 ?_;simp only [Act.put, q1, p2, p3, p4, p5, p6];refine tkB 26 ?_;simp only [Act.put, q1, p2, p3, p4, p5, p6];refine wpAnyH_done (by kernel_rfl) ?_ _
      go_wp2_with fail
      go_ret;exact ⟨ret_bool HR.out.symm, HX.out _ hHeld⟩
     have g1 : (y.name.toList == x.name.toList) = false := by rw [str_eq]; exact decide_eq_false hne
     cases hv2 : apartB y x
     ·have HV2 : Hid (apartW y x = false) := lh (by rw [HW.out, hv2])
      have HR := lh (HZ.out fun h => by rw [hv2] at h; cases h.2);clear hne HZ HA2 hv2
      go_wp2_with fail
      refine wp_region_held_drew (S := (fun w' => Below W0.heap.size W0 w')) (by kernel_rfl) (hD.drew) (fun hHeld => ?_);refine tkB 0 ?_;simp only [Act.put, q1, p2, p3, p4, p6];refine tkB 1 ?_;simp only [Act.put, q1, p2, p3, p4, p5, p6];refine tkB 2 ?_;simp only [Act.put, q1, p2, p3, p4, p5, p6];refine tkB 3 ?_;simp only [Act.put, q1, p2, p3, p4, p5, p6];refine tkB 4 ?_;simp only [Act.put, q1, p2, p3, p4, p5, p6];refine tkB 5 ?_;simp only [Act.put, q1, p2, p3, p4, p5, p6];refine tkB 6 ?_;simp only [Act.put, q1, p2, p3, p4, p5, p6];refine tkB 7 ?_;simp only [Act.put, q1, p2, p3, p4, p5, p6];refine tkB 8 ?_;simp only [Act.put, q1, p2, p3, p4, p5, p6];refine tkB 9 ?_;simp only [Act.put, q1, p2, p3, p4, p5, p6];refine tkB 10 ?_;simp only [Act.put, q1, p2, p3, p4, p5, p6];refine tkB 11 ?_;simp only [Act.put, q1, p2, p3, p4, p5, p6];refine tkB 12 ?_;simp only [Act.put, q1, p2, p3, p4, p5, p6];refine tkB 13 ?_;simp only [Act.put, q1, p2, p3, p4, p5, p6];refine tkB 14 ?_;simp only [Act.put, q1, p2, p3, p4, p5, p6];refine tkB 15 ?_;simp only [Act.put, q1, p2, p3, p4, p5, p6];refine tkB 16 ?_;simp only [Act.put, q1, p2, p3, p4, p5, p6];refine tkB 17 ?_;simp only [Act.put, q1, p2, p3, p4, p5, p6];refine tkB 18 ?_;simp only [Act.put, q1, p2, p3, p4, p5, p6];refine tkB 19 ?_;simp only [Act.put, q1, p2, p3, p4, p5, p6];refine tkB 20 ?_;simp only [Act.put, q1, p2, p3, p4, p5, p6];refine tkB 21 ?_;simp only [Act.put, q1, p2, p3, p4, p5, p6];refine tkB 22 ?_;simp only [Act.put, q1, p2, p3, p4, p5, p6];refine tkB 23 ?_;simp only [Act.put, q1, p2, p3, p4, p5, p6];refine r1 24 (fun K hK => ?_)
      try simp only [p4, p5, p6]
      go_simp
      (go_at_call 159; go_split_ands; (with_reducible refine (rapart_any y x _).mono ?_); rintro e w2 ⟨rfl, hb⟩; rw [HV2.out])
      go_wp2_with fail
      refine hK.out _ _ (hHeld.trans (hb.mono hHeld.size)) (fun hHeld => ?_);clear hK K
      try simp only [Act.put, q1, p2, p3, p4, p5, p6]
      refine tkB 25 ?_;simp only [Act.put, q1, p2, p3, p4, p5, p6];refine tkB 26 ?_;simp only [Act.put, q1, p2, p3, p4, p5, p6];refine wpAnyH_done (by kernel_rfl) ?_ _
      go_wp2_with fail
      go_ret;exact ⟨ret_bool HR.out.symm, HX.out _ hHeld⟩
     have HV2 : Hid (apartW y x = true) := lh (by rw [HW.out, hv2]);have HA3 := lh (HA2.out hne hv2);clear hne HZ HA2 hv2
     go_wp2_with fail
     refine wp_region_held_drew (S := (fun w' => Below W0.heap.size W0 w')) (by kernel_rfl) (hD.drew) (fun hHeld => ?_);refine tkB 0 ?_;simp only [Act.put, q1, p2, p3, p4, p6];refine tkB 1 ?_;simp only [Act.put, q1, p2, p3, p4, p5, p6];refine tkB 2 ?_;simp only [Act.put, q1, p2, p3, p4, p5, p6];refine tkB 3 ?_;simp only [Act.put, q1, p2, p3, p4, p5, p6];refine tkB 4 ?_;simp only [Act.put, q1, p2, p3, p4, p5, p6];refine tkB 5 ?_;simp only [Act.put, q1, p2, p3, p4, p5, p6];refine tkB 6 ?_;simp only [Act.put, q1, p2, p3, p4, p5, p6];refine tkB 7 ?_;simp only [Act.put, q1, p2, p3, p4, p5, p6];refine tkB 8 ?_;simp only [Act.put, q1, p2, p3, p4, p5, p6];refine tkB 9 ?_;simp only [Act.put, q1, p2, p3, p4, p5, p6];refine tkB 10 ?_;simp only [Act.put, q1, p2, p3, p4, p5, p6];refine tkB 11 ?_;simp only [Act.put, q1, p2, p3, p4, p5, p6];refine tkB 12 ?_;simp only [Act.put, q1, p2, p3, p4, p5, p6];refine tkB 13 ?_;simp only [Act.put, q1, p2, p3, p4, p5, p6];refine tkB 14 ?_;simp only [Act.put, q1, p2, p3, p4, p5, p6];refine tkB 15 ?_;simp only [Act.put, q1, p2, p3, p4, p5, p6];refine tkB 16 ?_;simp only [Act.put, q1, p2, p3, p4, p5, p6];refine tkB 17 ?_;simp only [Act.put, q1, p2, p3, p4, p5, p6];refine tkB 18 ?_;simp only [Act.put, q1, p2, p3, p4, p5, p6];refine tkB 19 ?_;simp only [Act.put, q1, p2, p3, p4, p5, p6];refine tkB 20 ?_;simp only [Act.put, q1, p2, p3, p4, p5, p6];refine tkB 21 ?_;simp only [Act.put, q1, p2, p3, p4, p5, p6];refine tkB 22 ?_;simp only [Act.put, q1, p2, p3, p4, p5, p6];refine tkB 23 ?_;simp only [Act.put, q1, p2, p3, p4, p5, p6];refine r1 24 (fun K hK => ?_)
     try simp only [p4, p5, p6]
     go_simp
     (go_at_call 159; go_split_ands; (with_reducible refine (rapart_any y x _).mono ?_); rintro e w2 ⟨rfl, hb⟩; rw [HV2.out])
     go_wp2_with fail
     refine hK.out _ _ (hHeld.trans (hb.mono hHeld.size)) (fun hHeld => ?_);clear hK K
     try simp only [Act.put, q1, p2, p3, p4, p5, p6]
     refine tkB 25 ?_;simp only [Act.put, q1, p2, p3, p4, p5, p6];refine tkB 26 ?_;simp only [Act.put, q1, p2, p3, p4, p5, p6];refine wpAnyH_done (by kernel_rfl) ?_ _
     go_wp2_with fail
     go_roundw
     case rel => exact ⟨m + 1, by omega, by go_num, HA3, hHeld⟩
     case measure => simp [intOf]; omega
    ·obtain rfl : m = k := by omega
     have HN3 := lh (HY2.out HA.out)
     go_wp2_with fail
     go_roundw
     case rel => exact ⟨m + 1, by omega, by go_num, HN3, hD⟩
     case measure => simp [intOf]; omega
  ·obtain rfl : k = r.items.length := by omega
   have HR : Hid (R = true) := lh (HI2.out.2 HO.out)
   go_wp2_with fail
   go_ret;exact ⟨ret_bool HR.out.symm, HX.out _ hB⟩
def rsetB (r : SetR) (L : Bool) : Bool :=
 isNameB r.name && (betB r.depth 0 1048576 && (betB r.low 0 r.high && (betB r.high 0 1048576 && (betB r.length 1000 1048576 && ((r.length % 1000 == 0) && (betB r.lines.length 2 10 &&
  (betB r.pipe 0 1048576 && (betB r.arbor 0 1048576 && (betB r.purchase 1 2 && (betB r.most 1 67108864 && (betB r.brake 0 67108864 && (L && (itemsB r.items r.length && brickB r.bricks)))))))))))))
theorem rsetB_eq (r : SetR) (L : Bool) (h : betB r.lines.length 2 10 = true → (L = true ↔ ∀ j, j < r.lines.length → betB (ig r.lines j) 0 r.length = true ∧ (0 < j → ig r.lines (j - 1) < ig r.lines j))) : rsetB r L = setB r := by
 rw [Bool.eq_iff_iff, setB_iff];unfold rsetB;simp only [Bool.and_eq_true, beq_iff_eq]
 constructor
 ·rintro ⟨h1, h2, h3, h4, h5, h6, h7, h8, h9, h10, h11, h12, h13, h14, h15⟩
  have l1 := betB_iff.1 h3;have l2 := betB_iff.1 h4;have l3 := betB_iff.1 h5;exact ⟨h1, betB_iff.1 h2, ⟨l1.1, l1.2, l2.2⟩, ⟨l3.1, l3.2, h6⟩, lines_iff2.2 ⟨h7, (h h7).1 h13⟩, betB_iff.1 h8, betB_iff.1 h9, betB_iff.1 h10, betB_iff.1 h11, betB_iff.1 h12, h14, h15⟩
 ·intro q
  obtain ⟨h7, h13⟩ := lines_iff2.1 q.lines;obtain ⟨a, b, c⟩ := q.low;obtain ⟨d, e, g⟩ := q.length;exact ⟨q.name, betB_iff.2 q.depth, betB_iff.2 ⟨a, b⟩, betB_iff.2 ⟨by omega, c⟩, betB_iff.2 ⟨d, e⟩, g, h7, betB_iff.2 q.pipe, betB_iff.2 q.arbor, betB_iff.2 q.purchase, betB_iff.2 q.most, betB_iff.2 q.brake, (h h7).2 h13, q.items, q.bricks⟩
theorem rvalid_any (r : SetR) (w : World) (hs : SetIn w r) :
  Calls Tryz.prog 86 #[.agg #[.string r.name, .int .i64 r.depth, .int .i64 r.low, .int .i64 r.high, .int .i64 r.length, .slice r.la r.lines.length r.lc, .int .i64 r.pipe, .int .i64 r.arbor, .int .i64 r.purchase, .int .i64 r.most, .int .i64 r.brake, .slice r.ia r.items.length r.ic, .slice r.ba r.bricks.length r.bc]] w fun e w' => e = .returned (.bool (setB r)) ∧ Below w.heap.size w w' := by
 obtain ⟨L, hL⟩ : ∃ L : Bool, L = true ↔ ∀ j, j < r.lines.length → betB (ig r.lines j) 0 r.length = true ∧ (0 < j → ig r.lines (j - 1) < ig r.lines j) := by
  by_cases h : ∀ j, j < r.lines.length → betB (ig r.lines j) 0 r.length = true ∧ (0 < j → ig r.lines (j - 1) < ig r.lines j)
  ·exact ⟨true, fun _ => h, fun _ => rfl⟩
  ·exact ⟨false, fun h => by (cases h), fun q => absurd q h⟩
 rw [← rsetB_eq r L fun _ => hL];obtain ⟨RR, hR⟩ := nm (rsetB r L)
 have HF : Hid ((isNameB r.name && (betB r.depth 0 1048576 && (betB r.low 0 r.high && (betB r.high 0 1048576 && (betB r.length 1000 1048576 && ((r.length % 1000 == 0) && (betB r.lines.length 2 10 && (betB r.pipe 0 1048576 && (betB r.arbor 0 1048576 && (betB r.purchase 1 2 && (betB r.most 1 67108864 && (betB r.brake 0 67108864)))))))))))) = false → RR = false) := lh fun h => by
  rw [← hR, Bool.eq_false_iff];intro q;unfold rsetB at q;simp only [Bool.and_eq_true] at q;obtain ⟨a1, a2, a3, a4, a5, a6, a7, a8, a9, a10, a11, a12, _⟩ := q;rw [a1, a2, a3, a4, a5, a6, a7, a8, a9, a10, a11, a12] at h;cases h
 have HL2 : Hid ((¬ ∀ j, j < r.lines.length → betB (ig r.lines j) 0 r.length = true ∧ (0 < j → ig r.lines (j - 1) < ig r.lines j)) → RR = false) := lh fun h => by
  rw [← hR, Bool.eq_false_iff];intro q;unfold rsetB at q;simp only [Bool.and_eq_true] at q;obtain ⟨_, _, _, _, _, _, _, _, _, _, _, _, q, _⟩ := q;exact h (hL.1 q)
 have HL3 : Hid ((isNameB r.name && (betB r.depth 0 1048576 && (betB r.low 0 r.high && (betB r.high 0 1048576 && (betB r.length 1000 1048576 && ((r.length % 1000 == 0) && (betB r.lines.length 2 10 && (betB r.pipe 0 1048576 && (betB r.arbor 0 1048576 && (betB r.purchase 1 2 && (betB r.most 1 67108864 && (betB r.brake 0 67108864)))))))))))) = true → (∀ j, j < r.lines.length → betB (ig r.lines j) 0 r.length = true ∧ (0 < j → ig r.lines (j - 1) < ig r.lines j)) → RR = (itemsB r.items r.length && brickB r.bricks)) := lh fun h h2 => by
  rw [← hR];unfold rsetB;simp only [Bool.and_eq_true] at h;simp only [h, hL.2 h2, Bool.true_and]
 rw [hR];clear hR hL;have hb0 := below_new w (RC r);have HX : Hid (∀ wx, Below (w.alloc (RC r)).heap.size (w.alloc (RC r)) wx → Below w.heap.size w wx) := lh fun wx h => mono_in _ h;have HS : Hid (∀ wx, Below (w.alloc (RC r)).heap.size (w.alloc (RC r)) wx → SetIn wx r) := lh fun wx h => (hs.grow hb0).grow h;have HAT : Hid (∀ wx, Below (w.alloc (RC r)).heap.size (w.alloc (RC r)) wx → SetAt wx w.heap.size r) := lh fun wx h => (SetAt.new w r 89).below h (by simp);clear hb0 hs
 go_enter Tryz.func86, Tryz.ntmps86
 go_wp2_with fail
 generalize (w.alloc (RC r)) = W0 at *;have hB1 := Below.refl W0.heap.size W0;obtain ⟨x0, x1, x2, x3, x4, x5, x6, x7, x8, x9, x10, x11, x12⟩ := set13 HAT
 cases h0 : isNameB r.name
 ·have HR : Hid ((isNameB r.name && (betB r.depth 0 1048576 && (betB r.low 0 r.high && (betB r.high 0 1048576 && (betB r.length 1000 1048576 && ((r.length % 1000 == 0) && (betB r.lines.length 2 10 && (betB r.pipe 0 1048576 && (betB r.arbor 0 1048576 && (betB r.purchase 1 2 && (betB r.most 1 67108864 && (betB r.brake 0 67108864)))))))))))) = false) := lh (by simp only [h0, Bool.false_and])
  have H0 := lh h0;clear h0;have HR2 := lh (HF.out HR.out);clear HF
  go_wp2_with (first
   | (go_at_call 84; (with_reducible refine (refisName_any r.name _).mono ?_); rintro e w1 ⟨rfl, rfl⟩; rw [H0.out]))
  go_ret;exact ⟨ret_bool HR2.out.symm, HX.out _ hB1⟩
 cases h1 : betB r.depth 0 1048576
 ·have HR : Hid ((isNameB r.name && (betB r.depth 0 1048576 && (betB r.low 0 r.high && (betB r.high 0 1048576 && (betB r.length 1000 1048576 && ((r.length % 1000 == 0) && (betB r.lines.length 2 10 && (betB r.pipe 0 1048576 && (betB r.arbor 0 1048576 && (betB r.purchase 1 2 && (betB r.most 1 67108864 && (betB r.brake 0 67108864)))))))))))) = false) := lh (by simp only [h0, h1, Bool.true_and, Bool.false_and])
  have H0 := lh h0;have H1 := lh h1;clear h0 h1;have HR2 := lh (HF.out HR.out);clear HF
  go_wp2_with (first
   | (go_at_call 84; (with_reducible refine (refisName_any r.name _).mono ?_); rintro e w1 ⟨rfl, rfl⟩; rw [H0.out])
   | (go_at_call 131; (with_reducible refine (rbetw_any r.depth 0 1048576 _).mono ?_); rintro e w1 ⟨rfl, rfl⟩; rw [H1.out]))
  go_ret;exact ⟨ret_bool HR2.out.symm, HX.out _ hB1⟩
 cases h2 : betB r.low 0 r.high
 ·have HR : Hid ((isNameB r.name && (betB r.depth 0 1048576 && (betB r.low 0 r.high && (betB r.high 0 1048576 && (betB r.length 1000 1048576 && ((r.length % 1000 == 0) && (betB r.lines.length 2 10 && (betB r.pipe 0 1048576 && (betB r.arbor 0 1048576 && (betB r.purchase 1 2 && (betB r.most 1 67108864 && (betB r.brake 0 67108864)))))))))))) = false) := lh (by simp only [h0, h1, h2, Bool.true_and, Bool.false_and])
  have H0 := lh h0;have H1 := lh h1;have H2 := lh h2;clear h0 h1 h2;have HR2 := lh (HF.out HR.out);clear HF
  go_wp2_with (first
   | (go_at_call 84; (with_reducible refine (refisName_any r.name _).mono ?_); rintro e w1 ⟨rfl, rfl⟩; rw [H0.out])
   | (go_at_call 131; (with_reducible refine (rbetw_any _ _ _ _).mono ?_); rintro e w1 ⟨rfl, rfl⟩; simp only [H1.out, H2.out]))
  go_ret;exact ⟨ret_bool HR2.out.symm, HX.out _ hB1⟩
 cases h3 : betB r.high 0 1048576
 ·have HR : Hid ((isNameB r.name && (betB r.depth 0 1048576 && (betB r.low 0 r.high && (betB r.high 0 1048576 && (betB r.length 1000 1048576 && ((r.length % 1000 == 0) && (betB r.lines.length 2 10 && (betB r.pipe 0 1048576 && (betB r.arbor 0 1048576 && (betB r.purchase 1 2 && (betB r.most 1 67108864 && (betB r.brake 0 67108864)))))))))))) = false) := lh (by simp only [h0, h1, h2, h3, Bool.true_and, Bool.false_and])
  have H0 := lh h0;have H1 := lh h1;have H2 := lh h2;have H3 := lh h3;clear h0 h1 h2 h3;have HR2 := lh (HF.out HR.out);clear HF
  go_wp2_with (first
   | (go_at_call 84; (with_reducible refine (refisName_any r.name _).mono ?_); rintro e w1 ⟨rfl, rfl⟩; rw [H0.out])
   | (go_at_call 131; (with_reducible refine (rbetw_any _ _ _ _).mono ?_); rintro e w1 ⟨rfl, rfl⟩; simp only [H1.out, H2.out, H3.out]))
  go_ret;exact ⟨ret_bool HR2.out.symm, HX.out _ hB1⟩
 cases h4 : betB r.length 1000 1048576
 ·have HR : Hid ((isNameB r.name && (betB r.depth 0 1048576 && (betB r.low 0 r.high && (betB r.high 0 1048576 && (betB r.length 1000 1048576 && ((r.length % 1000 == 0) && (betB r.lines.length 2 10 && (betB r.pipe 0 1048576 && (betB r.arbor 0 1048576 && (betB r.purchase 1 2 && (betB r.most 1 67108864 && (betB r.brake 0 67108864)))))))))))) = false) := lh (by simp only [h0, h1, h2, h3, h4, Bool.true_and, Bool.false_and])
  have H0 := lh h0;have H1 := lh h1;have H2 := lh h2;have H3 := lh h3;have H4 := lh h4;clear h0 h1 h2 h3 h4;have HR2 := lh (HF.out HR.out);clear HF
  go_wp2_with (first
   | (go_at_call 84; (with_reducible refine (refisName_any r.name _).mono ?_); rintro e w1 ⟨rfl, rfl⟩; rw [H0.out])
   | (go_at_call 131; (with_reducible refine (rbetw_any _ _ _ _).mono ?_); rintro e w1 ⟨rfl, rfl⟩; simp only [H1.out, H2.out, H3.out, H4.out]))
  go_ret;exact ⟨ret_bool HR2.out.symm, HX.out _ hB1⟩
 have hlen := betB_iff.1 h4;have hln2 : 0 ≤ r.length ∧ r.length ≤ 1048576 := by omega
 have HLEN := lh hln2
 cases h5 : (r.length % 1000 == 0)
 ·have HR : Hid ((isNameB r.name && (betB r.depth 0 1048576 && (betB r.low 0 r.high && (betB r.high 0 1048576 && (betB r.length 1000 1048576 && ((r.length % 1000 == 0) && (betB r.lines.length 2 10 && (betB r.pipe 0 1048576 && (betB r.arbor 0 1048576 && (betB r.purchase 1 2 && (betB r.most 1 67108864 && (betB r.brake 0 67108864)))))))))))) = false) := lh (by simp only [h0, h1, h2, h3, h4, h5, Bool.true_and, Bool.false_and])
  have H0 := lh h0;have H1 := lh h1;have H2 := lh h2;have H3 := lh h3;have H4 := lh h4;clear h0 h1 h2 h3 h4;have h5n : (r.length % 1000 != 0) = true := by rw [bne, h5]; rfl
  have HR2 := lh (HF.out HR.out);clear HF
  go_wp2_with (first
   | (go_at_call 84; (with_reducible refine (refisName_any r.name _).mono ?_); rintro e w1 ⟨rfl, rfl⟩; rw [H0.out])
   | (go_at_call 131; (with_reducible refine (rbetw_any _ _ _ _).mono ?_); rintro e w1 ⟨rfl, rfl⟩; simp only [H1.out, H2.out, H3.out, H4.out]))
  go_ret;exact ⟨ret_bool HR2.out.symm, HX.out _ hB1⟩
 have h5n : (r.length % 1000 != 0) = false := by rw [bne, h5]; rfl
 cases h6 : betB r.lines.length 2 10
 ·have HR : Hid ((isNameB r.name && (betB r.depth 0 1048576 && (betB r.low 0 r.high && (betB r.high 0 1048576 && (betB r.length 1000 1048576 && ((r.length % 1000 == 0) && (betB r.lines.length 2 10 && (betB r.pipe 0 1048576 && (betB r.arbor 0 1048576 && (betB r.purchase 1 2 && (betB r.most 1 67108864 && (betB r.brake 0 67108864)))))))))))) = false) := lh (by simp only [h0, h1, h2, h3, h4, h5, h6, Bool.true_and, Bool.false_and])
  have H0 := lh h0;have H1 := lh h1;have H2 := lh h2;have H3 := lh h3;have H4 := lh h4;have H6 := lh h6;clear h0 h1 h2 h3 h4 h6;have HR2 := lh (HF.out HR.out);clear HF
  go_wp2_with (first
   | (go_at_call 84; (with_reducible refine (refisName_any r.name _).mono ?_); rintro e w1 ⟨rfl, rfl⟩; rw [H0.out])
   | (go_at_call 131; (with_reducible refine (rbetw_any _ _ _ _).mono ?_); rintro e w1 ⟨rfl, rfl⟩; simp only [H1.out, H2.out, H3.out, H4.out, H6.out]))
  go_ret;exact ⟨ret_bool HR2.out.symm, HX.out _ hB1⟩
 cases h7 : betB r.pipe 0 1048576
 ·have HR : Hid ((isNameB r.name && (betB r.depth 0 1048576 && (betB r.low 0 r.high && (betB r.high 0 1048576 && (betB r.length 1000 1048576 && ((r.length % 1000 == 0) && (betB r.lines.length 2 10 && (betB r.pipe 0 1048576 && (betB r.arbor 0 1048576 && (betB r.purchase 1 2 && (betB r.most 1 67108864 && (betB r.brake 0 67108864)))))))))))) = false) := lh (by simp only [h0, h1, h2, h3, h4, h5, h6, h7, Bool.true_and, Bool.false_and])
  have H0 := lh h0;have H1 := lh h1;have H2 := lh h2;have H3 := lh h3;have H4 := lh h4;have H6 := lh h6;have H7 := lh h7;clear h0 h1 h2 h3 h4 h6 h7;have HR2 := lh (HF.out HR.out);clear HF
  go_wp2_with (first
   | (go_at_call 84; (with_reducible refine (refisName_any r.name _).mono ?_); rintro e w1 ⟨rfl, rfl⟩; rw [H0.out])
   | (go_at_call 131; (with_reducible refine (rbetw_any _ _ _ _).mono ?_); rintro e w1 ⟨rfl, rfl⟩; simp only [H1.out, H2.out, H3.out, H4.out, H6.out, H7.out]))
  go_ret;exact ⟨ret_bool HR2.out.symm, HX.out _ hB1⟩
 cases h8 : betB r.arbor 0 1048576
 ·have HR : Hid ((isNameB r.name && (betB r.depth 0 1048576 && (betB r.low 0 r.high && (betB r.high 0 1048576 && (betB r.length 1000 1048576 && ((r.length % 1000 == 0) && (betB r.lines.length 2 10 && (betB r.pipe 0 1048576 && (betB r.arbor 0 1048576 && (betB r.purchase 1 2 && (betB r.most 1 67108864 && (betB r.brake 0 67108864)))))))))))) = false) := lh (by simp only [h0, h1, h2, h3, h4, h5, h6, h7, h8, Bool.true_and, Bool.false_and])
  have H0 := lh h0;have H1 := lh h1;have H2 := lh h2;have H3 := lh h3;have H4 := lh h4;have H6 := lh h6;have H7 := lh h7;have H8 := lh h8;clear h0 h1 h2 h3 h4 h6 h7 h8;have HR2 := lh (HF.out HR.out);clear HF
  go_wp2_with (first
   | (go_at_call 84; (with_reducible refine (refisName_any r.name _).mono ?_); rintro e w1 ⟨rfl, rfl⟩; rw [H0.out])
   | (go_at_call 131; (with_reducible refine (rbetw_any _ _ _ _).mono ?_); rintro e w1 ⟨rfl, rfl⟩; simp only [H1.out, H2.out, H3.out, H4.out, H6.out, H7.out, H8.out]))
  go_ret;exact ⟨ret_bool HR2.out.symm, HX.out _ hB1⟩
 cases h9 : betB r.purchase 1 2
 ·have HR : Hid ((isNameB r.name && (betB r.depth 0 1048576 && (betB r.low 0 r.high && (betB r.high 0 1048576 && (betB r.length 1000 1048576 && ((r.length % 1000 == 0) && (betB r.lines.length 2 10 && (betB r.pipe 0 1048576 && (betB r.arbor 0 1048576 && (betB r.purchase 1 2 && (betB r.most 1 67108864 && (betB r.brake 0 67108864)))))))))))) = false) := lh (by simp only [h0, h1, h2, h3, h4, h5, h6, h7, h8, h9, Bool.true_and, Bool.false_and])
  have H0 := lh h0;have H1 := lh h1;have H2 := lh h2;have H3 := lh h3;have H4 := lh h4;have H6 := lh h6;have H7 := lh h7;have H8 := lh h8;have H9 := lh h9;clear h0 h1 h2 h3 h4 h6 h7 h8 h9;have HR2 := lh (HF.out HR.out);clear HF
  go_wp2_with (first
   | (go_at_call 84; (with_reducible refine (refisName_any r.name _).mono ?_); rintro e w1 ⟨rfl, rfl⟩; rw [H0.out])
   | (go_at_call 131; (with_reducible refine (rbetw_any _ _ _ _).mono ?_); rintro e w1 ⟨rfl, rfl⟩; simp only [H1.out, H2.out, H3.out, H4.out, H6.out, H7.out, H8.out, H9.out]))
  go_ret;exact ⟨ret_bool HR2.out.symm, HX.out _ hB1⟩
 cases h10 : betB r.most 1 67108864
 ·have HR : Hid ((isNameB r.name && (betB r.depth 0 1048576 && (betB r.low 0 r.high && (betB r.high 0 1048576 && (betB r.length 1000 1048576 && ((r.length % 1000 == 0) && (betB r.lines.length 2 10 && (betB r.pipe 0 1048576 && (betB r.arbor 0 1048576 && (betB r.purchase 1 2 && (betB r.most 1 67108864 && (betB r.brake 0 67108864)))))))))))) = false) := lh (by simp only [h0, h1, h2, h3, h4, h5, h6, h7, h8, h9, h10, Bool.true_and, Bool.false_and])
  have H0 := lh h0;have H1 := lh h1;have H2 := lh h2;have H3 := lh h3;have H4 := lh h4;have H6 := lh h6;have H7 := lh h7;have H8 := lh h8;have H9 := lh h9;have H10 := lh h10;clear h0 h1 h2 h3 h4 h6 h7 h8 h9 h10;have HR2 := lh (HF.out HR.out);clear HF
  go_wp2_with (first
   | (go_at_call 84; (with_reducible refine (refisName_any r.name _).mono ?_); rintro e w1 ⟨rfl, rfl⟩; rw [H0.out])
   | (go_at_call 131; (with_reducible refine (rbetw_any _ _ _ _).mono ?_); rintro e w1 ⟨rfl, rfl⟩; simp only [H1.out, H2.out, H3.out, H4.out, H6.out, H7.out, H8.out, H9.out, H10.out]))
  go_ret;exact ⟨ret_bool HR2.out.symm, HX.out _ hB1⟩
 cases h11 : betB r.brake 0 67108864
 ·have HR : Hid ((isNameB r.name && (betB r.depth 0 1048576 && (betB r.low 0 r.high && (betB r.high 0 1048576 && (betB r.length 1000 1048576 && ((r.length % 1000 == 0) && (betB r.lines.length 2 10 && (betB r.pipe 0 1048576 && (betB r.arbor 0 1048576 && (betB r.purchase 1 2 && (betB r.most 1 67108864 && (betB r.brake 0 67108864)))))))))))) = false) := lh (by simp only [h0, h1, h2, h3, h4, h5, h6, h7, h8, h9, h10, h11, Bool.true_and])
  have H0 := lh h0;have H1 := lh h1;have H2 := lh h2;have H3 := lh h3;have H4 := lh h4;have H6 := lh h6;have H7 := lh h7;have H8 := lh h8;have H9 := lh h9;have H10 := lh h10;have H11 := lh h11;clear h0 h1 h2 h3 h4 h6 h7 h8 h9 h10 h11;have HR2 := lh (HF.out HR.out);clear HF
  go_wp2_with (first
   | (go_at_call 84; (with_reducible refine (refisName_any r.name _).mono ?_); rintro e w1 ⟨rfl, rfl⟩; rw [H0.out])
   | (go_at_call 131; (with_reducible refine (rbetw_any _ _ _ _).mono ?_); rintro e w1 ⟨rfl, rfl⟩; simp only [H1.out, H2.out, H3.out, H4.out, H6.out, H7.out, H8.out, H9.out, H10.out, H11.out]))
  go_ret;exact ⟨ret_bool HR2.out.symm, HX.out _ hB1⟩
 have HR : Hid ((isNameB r.name && (betB r.depth 0 1048576 && (betB r.low 0 r.high && (betB r.high 0 1048576 && (betB r.length 1000 1048576 && ((r.length % 1000 == 0) && (betB r.lines.length 2 10 && (betB r.pipe 0 1048576 && (betB r.arbor 0 1048576 && (betB r.purchase 1 2 && (betB r.most 1 67108864 && (betB r.brake 0 67108864)))))))))))) = true) := lh (by simp only [h0, h1, h2, h3, h4, h5, h6, h7, h8, h9, h10, h11, Bool.and_self]);have H0 := lh h0;have H1 := lh h1;have H2 := lh h2;have H3 := lh h3;have H4 := lh h4;have H6 := lh h6;have H7 := lh h7;have H8 := lh h8;have H9 := lh h9;have H10 := lh h10;have H11 := lh h11;clear h0 h1 h2 h3 h4 h6 h7 h8 h9 h10 h11;have HL3 := lh (HL3.out HR.out);clear HF;have hl2 := betB_iff.1 H6.out
 go_wp2_with (first
  | (go_at_call 84; (with_reducible refine (refisName_any r.name _).mono ?_); rintro e w1 ⟨rfl, rfl⟩; rw [H0.out])
  | (go_at_call 131; (with_reducible refine (rbetw_any r.depth 0 1048576 _).mono ?_); rintro e w1 ⟨rfl, rfl⟩; rw [H1.out])
  | (go_at_call 131; (with_reducible refine (rbetw_any r.low 0 r.high _).mono ?_); rintro e w1 ⟨rfl, rfl⟩; rw [H2.out])
  | (go_at_call 131; (with_reducible refine (rbetw_any r.high 0 1048576 _).mono ?_); rintro e w1 ⟨rfl, rfl⟩; rw [H3.out])
  | (go_at_call 131; (with_reducible refine (rbetw_any r.length 1000 1048576 _).mono ?_); rintro e w1 ⟨rfl, rfl⟩; rw [H4.out])
  | (go_at_call 131; (with_reducible refine (rbetw_any (r.lines.length : Int) 2 10 _).mono ?_); rintro e w1 ⟨rfl, rfl⟩; rw [H6.out])
  | (go_at_call 131; (with_reducible refine (rbetw_any r.pipe 0 1048576 _).mono ?_); rintro e w1 ⟨rfl, rfl⟩; rw [H7.out])
  | (go_at_call 131; (with_reducible refine (rbetw_any r.arbor 0 1048576 _).mono ?_); rintro e w1 ⟨rfl, rfl⟩; rw [H8.out])
  | (go_at_call 131; (with_reducible refine (rbetw_any r.purchase 1 2 _).mono ?_); rintro e w1 ⟨rfl, rfl⟩; rw [H9.out])
  | (go_at_call 131; (with_reducible refine (rbetw_any r.most 1 67108864 _).mono ?_); rintro e w1 ⟨rfl, rfl⟩; rw [H10.out])
  | (go_at_call 131; (with_reducible refine (rbetw_any r.brake 0 67108864 _).mono ?_); rintro e w1 ⟨rfl, rfl⟩; rw [H11.out]))
 clear h5 h5n
 go_loopw [3] (fun v wr => ∃ k : Nat, k ≤ r.lines.length ∧ v = .int .i64 k ∧ Hid (∀ j, j < k → betB (ig r.lines j) 0 r.length = true ∧ (0 < j → ig r.lines (j - 1) < ig r.lines j)) ∧ Below W0.heap.size W0 wr) (fun v _ => r.lines.length - (intOf v).toNat)
 case atStart => exact ⟨0, Nat.zero_le _, rfl, lh (fun j hj => by omega), hB1⟩
 case round =>
  obtain ⟨k, hk, rfl, HO, hB⟩ := hrel
  by_cases hlt : k < r.lines.length
  ·obtain ⟨b, off, hla, hb, hc⟩ := (HS.out wr hB).lines (by omega)
   have y5 : wr.cell? ⟨w.heap.size, 5, none⟩ = some (.slice (some ⟨b, off, none⟩) r.lines.length r.lc) := by rw [← hla]; exact x5 wr hB
   have y4 := x4 wr hB;have c0 := hc k hlt;have HC := lh hc;clear hla x5 x4 hc;have HNO : Hid (¬ (betB (ig r.lines k) 0 r.length = true ∧ (0 < k → ig r.lines (k - 1) < ig r.lines k)) → RR = false) := lh fun h => HL2.out fun q => h (q k hlt)
   have HYE : Hid (betB (ig r.lines k) 0 r.length = true → (0 < k → ig r.lines (k - 1) < ig r.lines k) → ∀ j, j < k + 1 → betB (ig r.lines j) 0 r.length = true ∧ (0 < j → ig r.lines (j - 1) < ig r.lines j)) := lh fun h1 h2 j hj => by
    rcases (show j < k ∨ j = k by omega) with l | l
    ·exact HO.out j l
    ·subst l; exact ⟨h1, h2⟩
   have k1 : (k : Int) < r.lines.length := by omega
   obtain ⟨x, hx⟩ := nm (ig r.lines k);rw [hx] at c0 HNO HYE;clear hx
   cases hbx : betB x 0 r.length
   ·have HBX := lh hbx
    have HR2 := lh (HNO.out fun h => by rw [hbx] at h; cases h.1);clear hbx HNO HYE
    go_wp2_with (go_quiet ((go_at_call 131; exact Calls.quiet_of_same (v := .bool false) ((rbetw_any x 0 r.length _).mono fun e w' h => ⟨h.1.trans (by rw [HBX.out]), h.2.symm⟩))))
    go_ret;exact ⟨ret_bool HR2.out.symm, HX.out _ (below_drewN hB _)⟩
   ·have HBX := lh hbx
    have HYE2 := lh (HYE.out hbx);clear hbx;rcases Nat.eq_zero_or_pos k with h0 | h0
    ·have HYE3 := lh (HYE2.out (fun h => absurd h (by omega)))
     have g4 : decide (0 < (k : Int)) = false := dF (by omega);have g5 : decide (0 < k) = false := dF (by omega);clear HNO HYE HYE2 h0
     go_wp2_with (go_quiet ((go_at_call 131; exact Calls.quiet_of_same (v := .bool true) ((rbetw_any x 0 r.length _).mono fun e w' h => ⟨h.1.trans (by rw [HBX.out]), h.2.symm⟩))))
     go_roundw
     case rel => exact ⟨k + 1, by omega, by go_num, HYE3, below_drewN hB _⟩
     case measure => simp [intOf]; omega
    ·obtain ⟨q, hq⟩ := nm (k - 1)
     have c1 := HC.out q (by omega);rw [hq] at HNO HYE2;have z5 : (k : Int) - 1 = (q : Int) := by omega
     have z6 : (q : Int) < r.lines.length := by omega
     have z7 : q < r.lines.length := by omega
     have z8 : IntKind.i64.wrap ((k : Int) - 1) = (q : Int) := by rw [z5]; exact IntWalk.i64_in _ (by omega)
     have g4 : decide (0 < (k : Int)) = true := dT (by omega);have g5 : decide (0 < k) = true := decide_eq_true h0;generalize ig r.lines q = y at *;clear hq
     by_cases hxy : y < x
     ·have g6 : decide (x ≤ y) = false := dF (by omega)
      have HYE3 := lh (HYE2.out fun _ => hxy);clear HNO HYE HYE2 hxy
      go_wp2_with (go_quiet ((go_at_call 131; exact Calls.quiet_of_same (v := .bool true) ((rbetw_any x 0 r.length _).mono fun e w' h => ⟨h.1.trans (by rw [HBX.out]), h.2.symm⟩))))
      go_roundw
      case rel => exact ⟨k + 1, by omega, by go_num, HYE3, below_drewN hB _⟩
      case measure => simp [intOf]; omega
     ·have g6 : decide (x ≤ y) = true := dT (by omega)
      have HR2 := lh (HNO.out fun h => hxy (h.2 h0));clear HNO HYE HYE2 hxy
      go_wp2_with (go_quiet ((go_at_call 131; exact Calls.quiet_of_same (v := .bool true) ((rbetw_any x 0 r.length _).mono fun e w' h => ⟨h.1.trans (by rw [HBX.out]), h.2.symm⟩))))
      go_ret;exact ⟨ret_bool HR2.out.symm, HX.out _ (below_drewN hB _)⟩
  ·obtain rfl : k = r.lines.length := by omega
   have HR3 := lh (HL3.out HO.out)
   cases hi : itemsB r.items r.length
   ·have HI2 := lh hi
    have HR2 : Hid (RR = false) := lh (by rw [HR3.out, hi]; rfl);clear hi HR3
    go_wp2_with (go_at_call 132; (with_reducible refine (ritems_any r _ HLEN.out (HS.out _ hB)).mono ?_); rintro e w4 ⟨rfl, hb⟩; rw [HI2.out]; have hB4 := hB.trans (hb.mono hB.size); clear hb)
    go_ret;exact ⟨ret_bool HR2.out.symm, HX.out _ hB4⟩
   ·have HI2 := lh hi
    have HR2 : Hid (RR = brickB r.bricks) := lh (by rw [HR3.out, hi]; rfl);clear hi HR3
    go_wp2_with (first
     | (go_at_call 132; (with_reducible refine (ritems_any r _ HLEN.out (HS.out _ hB)).mono ?_); rintro e w4 ⟨rfl, hb⟩; rw [HI2.out]; have hB4 := hB.trans (hb.mono hB.size); clear hb)
     | (go_at_call 133; (with_reducible refine (refbricks_any _ r.bricks _ _ (HS.out _ hB4).bricks).mono ?_); rintro e w5 ⟨rfl, hb⟩; have hB5 := hB4.trans (hb.mono hB4.size); clear hb))
    go_ret;exact ⟨ret_bool HR2.out.symm, HX.out _ hB5⟩
theorem rfind_any (h : HouseR) (s : ByteArray) (w : World) (hh : HouseIn0 w h) (hl : h.sets.length ≤ 1000) :
  Calls Tryz.prog 87 #[.agg #[.string h.name, .int .i64 h.height, .slice h.sa h.sets.length h.sc, .slice h.ra h.roofs.length h.rc], .string s] w fun e w' => e = .returned (.int .i64 (findS h.sets s)) ∧ Below w.heap.size w w' := by
 have hb0 := below_new w (HC h);have hat := HouseAt.new w h 25;have HH := lh (hh.sets.grow hb0);clear hh
 go_enter Tryz.func87, Tryz.ntmps87
 go_upto_region 2 with (fail)
 generalize w.alloc (HC h) = W0 at *;have HB0 := lh hb0;obtain ⟨B, hB⟩ := nm (w.heap.size);rw [hB] at hat ⊢;obtain ⟨a0, a1, a2, a3⟩ := hat;obtain ⟨sa, hsa⟩ := nm (h.sa);rw [hsa] at a2 HH ⊢;clear hB hb0 hsa
 go_loop [5] (fun i => ∃ k : Nat, k ≤ h.sets.length ∧ i = .int .i64 k ∧ Hid (∀ j, j < k → decide ((hg h.sets j).name = s) = false)) (fun i => h.sets.length - (intOf i).toNat)
 case atStart => exact ⟨0, Nat.zero_le _, rfl, lh (fun _ h => absurd h (Nat.not_lt_zero _))⟩
 case round =>
  obtain ⟨k, hk, rfl, HA⟩ := hrel
  by_cases hlt : k < h.sets.length
  ·obtain ⟨b, off, rfl, hb, hc⟩ := HH.out (by omega)
   obtain ⟨d0, -⟩ := hc k hlt;have hs := str_eq (hg h.sets k).name s;clear hc
   by_cases hx : (hg h.sets k).name = s
   ·have H := lh (set_first_hit h.sets (fun r => decide (r.name = s)) k hlt (decide_eq_true hx) HA.out)
    rw [decide_eq_true hx] at hs;clear hx
    go_wp2_with fail
    go_ret;exact ⟨ret_int H.out.symm, HB0.out⟩
   ·rw [decide_eq_false hx] at hs
    have HB' : Hid (∀ j, j < k + 1 → decide ((hg h.sets j).name = s) = false) := lh fun j hj => by
     rcases Nat.lt_or_ge j k with l | l
     ·exact HA.out j l
     ·obtain rfl : j = k := by omega
      exact decide_eq_false hx
    clear hx
    go_wp2_with fail
    go_round
    case rel => exact ⟨k + 1, by omega, by go_num, HB'⟩
    case measure => simp [intOf]; omega
  ·obtain rfl : k = h.sets.length := by omega
   have H := lh (set_first_miss h.sets (fun r => decide (r.name = s)) HA.out)
   go_wp2_with fail
   go_ret;exact ⟨ret_int H.out.symm, HB0.out⟩
theorem rbetw19_any (n lo hi : Int) (w : World) :
  Calls Tryz.prog 130 #[.int .i64 n, .int .i64 lo, .int .i64 hi] w fun e w' => e = .returned (.bool (betB n lo hi)) ∧ w = w' := by
 have HR : Hid (betB n lo hi = (decide (lo ≤ n) && decide (n ≤ hi))) := lh rfl
 by_cases p1 : lo ≤ n
 ·have g1 : decide (lo ≤ n) = true := decide_eq_true p1
  rw [g1] at HR;clear p1
  go_enter Tryz.func130, Tryz.ntmps130
  go_wp2_with fail
  go_ret;exact ⟨ret_bool (by rw [HR.out]; rfl), rfl⟩
 ·have g1 : decide (lo ≤ n) = false := decide_eq_false p1
  rw [g1] at HR;clear p1
  go_enter Tryz.func130, Tryz.ntmps130
  go_wp2_with fail
  go_ret;exact ⟨ret_bool (by rw [HR.out]; rfl), rfl⟩
theorem rgrid_any (a : Option Addr) (L : List RoofR) (cap : Nat) (w : World) (hl : L.length ≤ 1000) (hL : Roofs w.heap.size w a L) :
  Calls Tryz.prog 85 #[.slice a L.length cap] w fun e w' => e = .returned (.bool (roofsB L)) ∧ Below w.heap.size w w' := by
 have HL := lh hL;clear hL
 by_cases h20 : 20 < L.length
 ·have HZ : Hid (roofsB L = false) := lh (by
   cases e : roofsB L
   ·rfl
   ·have := (roofsB_iff.1 e).1; omega)
  have g : decide ((20 : Int) < (L.length : Int)) = true := dT (by omega);clear h20
  go_enter Tryz.func85, Tryz.ntmps85
  go_wp2_with fail
  go_ret;exact ⟨ret_bool HZ.out.symm, br⟩
 have g : decide ((20 : Int) < (L.length : Int)) = false := dF (by omega)
 go_enter Tryz.func85, Tryz.ntmps85
 go_upto_region 4 with (fail)
 go_loopw [3, 4] (fun i _ wr => ∃ k : Nat, k ≤ L.length ∧ i = .int .i64 k ∧ Hid (∀ j, j < k → RoofAt L j) ∧ Below w.heap.size w wr) (fun i _ _ => L.length - (intOf i).toNat)
 case atStart => exact ⟨0, Nat.zero_le _, rfl, lh (fun _ h => absurd h (Nat.not_lt_zero _)), br⟩
 case round =>
  obtain ⟨k, hk, rfl, HA, hB⟩ := hrel
  by_cases hlt : k < L.length
  ·obtain ⟨b, off, ha, hb, hc⟩ := HL.out (by omega)
   subst ha;have hbs := hB.size;obtain ⟨e0, e1, e2, e3⟩ := hc k hlt;have d0 := (hB.cell (p := ⟨b, _, none⟩) hb).trans e0;have d1 := (hB.cell (p := ⟨b, _, none⟩) hb).trans e1;have d2 := (hB.cell (p := ⟨b, _, none⟩) hb).trans e2;have d3 := (hB.cell (p := ⟨b, _, none⟩) hb).trans e3;have HNO : Hid (¬ RoofAt L k → roofsB L = false) := lh fun n => roofs_no hlt n;have HNA : Hid (∀ j, j < k → RoofAt L j) := HA;have HC := lh hc;obtain ⟨x, hx⟩ := nm (rg L k);rw [hx] at d0 d1 d2 d3;have HXX := lh hx;have hx0 : ∀ wr : World, (wr.alloc (.cells #[.string x.name, .int .i64 x.lo, .int .i64 x.hi, .int .i64 x.most] 91)).cell? ⟨wr.heap.size, 0, none⟩ = some (.string x.name) := fun wr => by simp
   clear e0 e1 e2 e3 hc hx
   cases h1 : isNameB x.name
   case false =>
    have H1 := lh h1;have HZ := lh (HNO.out (fun q => by have := q.1.1; rw [HXX.out, H1.out] at this; cases this));clear h1
    go_upto_region 8 with (first
     | (go_at_call 84; (with_reducible refine (refisName_any x.name _).mono ?_); rintro e w1 ⟨rfl, rfl⟩; rw [H1.out]))
    go_wp2_with fail
    go_ret;exact ⟨ret_bool HZ.out.symm, hB.alloc (by omega) _⟩
   have H1 := lh h1;clear h1
   cases h2 : betB x.lo 0 x.hi
   case false =>
    have H2 := lh h2;have HZ := lh (HNO.out (fun q => by have := q.1; rw [HXX.out] at this; have := betB_iff.2 ⟨this.2.1, this.2.2.1⟩; rw [H2.out] at this; cases this));clear h2
    go_upto_region 8 with (first
     | (go_at_call 84; (with_reducible refine (refisName_any x.name _).mono ?_); rintro e w1 ⟨rfl, rfl⟩; rw [H1.out])
     | (go_at_call 130; (with_reducible refine (rbetw19_any x.lo 0 x.hi _).mono ?_); rintro e w1 ⟨rfl, rfl⟩; rw [H2.out]))
    go_wp2_with fail
    go_ret;exact ⟨ret_bool HZ.out.symm, hB.alloc (by omega) _⟩
   have H2 := lh h2;clear h2
   cases h3 : betB x.hi 0 1048576
   case false =>
    have H3 := lh h3;have HZ := lh (HNO.out (fun q => by have t := q.1; rw [HXX.out] at t; have := betB_iff.2 (show 0 ≤ x.hi ∧ x.hi ≤ 1048576 from ⟨by have t1 := t.2.1; have t2 := t.2.2.1; omega, t.2.2.2.1⟩); rw [H3.out] at this; cases this));clear h3
    go_upto_region 8 with (first
     | (go_at_call 84; (with_reducible refine (refisName_any x.name _).mono ?_); rintro e w1 ⟨rfl, rfl⟩; rw [H1.out])
     | (go_at_call 130; (with_reducible refine (rbetw19_any x.lo 0 x.hi _).mono ?_); rintro e w1 ⟨rfl, rfl⟩; rw [H2.out])
     | (go_at_call 130; (with_reducible refine (rbetw19_any x.hi 0 1048576 _).mono ?_); rintro e w1 ⟨rfl, rfl⟩; rw [H3.out]))
    go_wp2_with fail
    go_ret;exact ⟨ret_bool HZ.out.symm, hB.alloc (by omega) _⟩
   have H3 := lh h3;clear h3
   cases h4 : betB x.most 0 67108864
   case false =>
    have H4 := lh h4;have HZ := lh (HNO.out (fun q => by have := q.1; rw [HXX.out] at this; have := betB_iff.2 (show 0 ≤ x.most ∧ x.most ≤ 67108864 from ⟨this.2.2.2.2.1, this.2.2.2.2.2⟩); rw [H4.out] at this; cases this));clear h4
    go_upto_region 8 with (first
     | (go_at_call 84; (with_reducible refine (refisName_any x.name _).mono ?_); rintro e w1 ⟨rfl, rfl⟩; rw [H1.out])
     | (go_at_call 130; (with_reducible refine (rbetw19_any x.lo 0 x.hi _).mono ?_); rintro e w1 ⟨rfl, rfl⟩; rw [H2.out])
     | (go_at_call 130; (with_reducible refine (rbetw19_any x.hi 0 1048576 _).mono ?_); rintro e w1 ⟨rfl, rfl⟩; rw [H3.out])
     | (go_at_call 130; (with_reducible refine (rbetw19_any x.most 0 67108864 _).mono ?_); rintro e w1 ⟨rfl, rfl⟩; rw [H4.out]))
    go_wp2_with fail
    go_ret;exact ⟨ret_bool HZ.out.symm, hB.alloc (by omega) _⟩
   have H4 := lh h4;clear h4
   have HOK : Hid (RoofOK (rg L k)) := lh (by
    rw [HXX.out];exact ⟨H1.out, (betB_iff.1 H2.out).1, (betB_iff.1 H2.out).2, (betB_iff.1 H3.out).2, (betB_iff.1 H4.out).1, (betB_iff.1 H4.out).2⟩)
   go_upto_region 10 with (first
    | (go_at_call 84; (with_reducible refine (refisName_any x.name _).mono ?_); rintro e w1 ⟨rfl, rfl⟩; rw [H1.out])
    | (go_at_call 130; (with_reducible refine (rbetw19_any x.lo 0 x.hi _).mono ?_); rintro e w1 ⟨rfl, rfl⟩; rw [H2.out])
    | (go_at_call 130; (with_reducible refine (rbetw19_any x.hi 0 1048576 _).mono ?_); rintro e w1 ⟨rfl, rfl⟩; rw [H3.out])
    | (go_at_call 130; (with_reducible refine (rbetw19_any x.most 0 67108864 _).mono ?_); rintro e w1 ⟨rfl, rfl⟩; rw [H4.out]))
   have hB2 : Below w.heap.size w (wr.alloc (.cells #[.string x.name, .int .i64 x.lo, .int .i64 x.hi, .int .i64 x.most] 91)) := hB.alloc (by omega) _;have z0 := hx0 wr;clear d0 d1 d2 d3 hx0 hB;generalize wr.alloc (.cells #[.string x.name, .int .i64 x.lo, .int .i64 x.hi, .int .i64 x.most] 91) = w4 at *;obtain ⟨B4, hB4⟩ := nm (wr.heap.size);rw [hB4] at z0 ⊢;have hlt4 : B4 < w4.heap.size := wl z0;have Z0 := lh z0;clear hB4 hbs z0;obtain ⟨wo, rfl⟩ : ∃ wo : World, wo = wr := ⟨_, rfl⟩
   go_loopw [5] (fun i wr => ∃ m : Nat, m ≤ k ∧ i = .int .i64 m ∧ Hid (∀ j, j < m → (rg L j).name ≠ x.name) ∧ Below w.heap.size w wr ∧ Below w4.heap.size w4 wr) (fun i _ => k - (intOf i).toNat)
   case atStart => exact ⟨0, Nat.zero_le _, rfl, lh (fun _ h => absurd h (Nat.not_lt_zero _)), hB2, br⟩
   case round =>
    clear hB2;obtain ⟨m, hm, rfl, HM, hB, hB4⟩ := hrel
    by_cases hlm : m < k
    ·obtain ⟨e0, -⟩ := HC.out m (by omega)
     have d0 := (hB.cell (p := ⟨b, _, none⟩) hb).trans e0;have z0 := (hB4.cell (p := ⟨B4, 0, none⟩) hlt4).trans Z0.out;have hs := str_eq (rg L m).name x.name;have i0 : 0 ≤ (m : Int) := by omega
     have i1 : (m : Int) < (L.length : Int) := by omega
     have i2 : (m : Int) < (k : Int) := by omega
     clear e0
     by_cases hx : (rg L m).name = x.name
     ·have HZ := lh (HNO.out fun q => q.2 m hlm (by rw [HXX.out]; exact hx))
      rw [decide_eq_true hx] at hs;clear hx
      go_upto_region 12 with (fail)
      go_quiet (fail)
      go_wp2_with fail
      go_ret;exact ⟨ret_bool HZ.out.symm, below_drewN hB _⟩
     ·rw [decide_eq_false hx] at hs
      have HM2 : Hid (∀ j, j < m + 1 → (rg L j).name ≠ x.name) := lh fun j hj => by
       rcases Nat.lt_or_ge j m with l | l
       ·exact HM.out j l
       ·obtain rfl : j = m := by omega
        exact hx
      clear hx
      go_upto_region 12 with (fail)
      go_quiet (fail)
      go_wp2_with fail
      go_roundw
      case rel => exact ⟨m + 1, by omega, by go_num, HM2, below_drewN hB _, below_drewN hB4 _⟩
      case measure => simp [intOf]; omega
    ·obtain rfl : m = k := by omega
     have HN : Hid (∀ j, j < m + 1 → RoofAt L j) := lh fun j hj => by
      rcases Nat.lt_or_ge j m with l | l
      ·exact HNA.out j l
      ·obtain rfl : j = m := by omega
       exact ⟨HOK.out, fun i hi => by rw [HXX.out]; exact HM.out i hi⟩
     go_wp2_with fail
     go_roundw
     case rel => exact ⟨m + 1, by omega, by go_num, HN, hB⟩
     case measure => simp [intOf]; omega
  ·obtain rfl : k = L.length := by omega
   have HZ : Hid (roofsB L = true) := lh (roofsB_iff.2 ⟨by omega, HA.out⟩)
   go_wp2_with fail
   go_ret;exact ⟨ret_bool HZ.out.symm, hB⟩
theorem rhouse_any (h : HouseR) (w : World) (hh : HouseIn w h) :
  Calls Tryz.prog 52 #[.agg #[.string h.name, .int .i64 h.height, .slice h.sa h.sets.length h.sc, .slice h.ra h.roofs.length h.rc]] w fun e w' => e = .returned (.bool (houseB h)) ∧ Below w.heap.size w w' := by
 have hb0 := below_new w (HC h);have hl := hh.slen;have hcap := hh.scap;have HX : Hid (∀ w', Below (w.alloc (HC h)).heap.size (w.alloc (HC h)) w' → HouseAt w' w.heap.size h ∧ HouseIn w' h ∧ Below w.heap.size w w') := lh fun w' q => ⟨(HouseAt.new w h _).carry q, (hh.grow hb0).grow q, hb0.trans (q.mono hb0.size)⟩
 have HNO : Hid ((¬ (isNameB h.name = true ∧ 1 ≤ h.height ∧ h.height ≤ 1048576 ∧ h.sets.length ≤ 60 ∧ RoofsOK h.roofs)) → houseB h = false) := lh fun n => by
  cases e : houseB h
  ·rfl
  ·obtain ⟨a, b, c, d, e, _⟩ := houseB_iff.1 e
   exact absurd ⟨a, b, c, d, e⟩ n
 clear hh hb0
 cases h1 : isNameB h.name
 case false =>
  have H1 := lh h1;have HZ := lh (HNO.out (fun q => by have := q.1; rw [H1.out] at this; cases this))
  go_enter Tryz.func52, Tryz.ntmps52
  go_upto_region 1 with (fail)
  generalize w.alloc (HC h) = W0 at *;obtain ⟨⟨a0, a1, a2, a3⟩, -, -⟩ := HX.out _ br
  go_wp2_with (go_at_call 84; (with_reducible refine (refisName_any h.name _).mono ?_); rintro e w1 ⟨rfl, rfl⟩; rw [H1.out])
  go_ret;exact ⟨ret_bool HZ.out.symm, (HX.out _ br).2.2⟩
 have H1 := lh h1
 cases h2 : decide (h.height < 1)
 case true =>
  have H2 := lh h2;have HZ := lh (HNO.out (fun q => by have := of_decide_eq_true H2.out; omega))
  go_enter Tryz.func52, Tryz.ntmps52
  go_upto_region 1 with (fail)
  generalize w.alloc (HC h) = W0 at *;obtain ⟨⟨a0, a1, a2, a3⟩, -, -⟩ := HX.out _ br
  go_wp2_with (go_at_call 84; (with_reducible refine (refisName_any h.name _).mono ?_); rintro e w1 ⟨rfl, rfl⟩; rw [H1.out])
  go_ret;exact ⟨ret_bool HZ.out.symm, (HX.out _ br).2.2⟩
 have H2 := lh h2
 cases h3 : decide (1048576 < h.height)
 case true =>
  have H3 := lh h3;have HZ := lh (HNO.out (fun q => by have := of_decide_eq_true H3.out; omega))
  go_enter Tryz.func52, Tryz.ntmps52
  go_upto_region 1 with (fail)
  generalize w.alloc (HC h) = W0 at *;obtain ⟨⟨a0, a1, a2, a3⟩, -, -⟩ := HX.out _ br
  go_wp2_with (go_at_call 84; (with_reducible refine (refisName_any h.name _).mono ?_); rintro e w1 ⟨rfl, rfl⟩; rw [H1.out])
  go_ret;exact ⟨ret_bool HZ.out.symm, (HX.out _ br).2.2⟩
 have H3 := lh h3
 cases h4 : decide ((60 : Int) < (h.sets.length : Int))
 case true =>
  have H4 := lh h4;have HZ := lh (HNO.out (fun q => by have := of_decide_eq_true H4.out; omega))
  go_enter Tryz.func52, Tryz.ntmps52
  go_upto_region 1 with (fail)
  generalize w.alloc (HC h) = W0 at *;obtain ⟨⟨a0, a1, a2, a3⟩, -, -⟩ := HX.out _ br
  go_wp2_with (go_at_call 84; (with_reducible refine (refisName_any h.name _).mono ?_); rintro e w1 ⟨rfl, rfl⟩; rw [H1.out])
  go_ret;exact ⟨ret_bool HZ.out.symm, (HX.out _ br).2.2⟩
 have H4 := lh h4
 cases h5 : roofsB h.roofs
 case false =>
  have H5 := lh h5;have HZ := lh (HNO.out (fun q => by have := roofsB_iff.2 q.2.2.2.2; rw [H5.out] at this; cases this))
  go_enter Tryz.func52, Tryz.ntmps52
  go_upto_region 1 with (fail)
  generalize w.alloc (HC h) = W0 at *;obtain ⟨⟨a0, a1, a2, a3⟩, -, -⟩ := HX.out _ br
  go_wp2_with (first
   | (go_at_call 84; (with_reducible refine (refisName_any h.name _).mono ?_); rintro e w1 ⟨rfl, rfl⟩; rw [H1.out])
   | (go_at_call 85; (with_reducible refine (rgrid_any _ h.roofs _ _ (HX.out _ br).2.1.rlen (HX.out _ br).2.1.roofs).mono ?_); rintro e w1 ⟨rfl, hb1⟩; rw [H5.out]))
  go_ret;exact ⟨ret_bool HZ.out.symm, (HX.out _ hb1).2.2⟩
 have H5 := lh h5;have HOK : Hid (isNameB h.name = true ∧ 1 ≤ h.height ∧ h.height ≤ 1048576 ∧ h.sets.length ≤ 60 ∧ RoofsOK h.roofs) := lh ⟨H1.out, by have := of_decide_eq_false H2.out; omega, by have := of_decide_eq_false H3.out; omega, by have := of_decide_eq_false H4.out; omega, roofsB_iff.1 H5.out⟩;clear HNO
 go_enter Tryz.func52, Tryz.ntmps52
 go_upto_region 1 with (fail)
 generalize w.alloc (HC h) = W0 at *;obtain ⟨⟨a0, a1, a2, a3⟩, -, -⟩ := HX.out _ br
 go_upto_region 4 with (first
  | (go_at_call 84; (with_reducible refine (refisName_any h.name _).mono ?_); rintro e w1 ⟨rfl, rfl⟩; rw [H1.out])
  | (go_at_call 85; (with_reducible refine (rgrid_any _ h.roofs _ _ (HX.out _ br).2.1.rlen (HX.out _ br).2.1.roofs).mono ?_); rintro e w1 ⟨rfl, hb1⟩; rw [H5.out]))
 clear a0 a1 a2 a3 h1 h2 h3 h4 h5;obtain ⟨B, hBB⟩ := nm (w.heap.size);have HW : Hid (∀ w', Below W0.heap.size W0 w' → Below w.heap.size w w') := lh fun w' q => (HX.out w' q).2.2;rw [hBB] at HX ⊢;have HA : Hid (∀ w', Below W0.heap.size W0 w' → HouseAt w' B h) := lh fun w' q => (HX.out w' q).1;have HH : Hid (∀ w', Below W0.heap.size W0 w' → HouseIn0 w' h) := lh fun w' q => (HX.out w' q).2.1.toHouseIn0;have HALL : Hid (∀ w', Below W0.heap.size W0 w' → ∀ i, i < h.sets.length → SetIn w' (hg h.sets i)) := lh fun w' q => (HX.out w' q).2.1.all;have x0 : ∀ w', Below W0.heap.size W0 w' → w'.cell? ⟨B, 0, none⟩ = some (.string h.name) := fun w' q => (HA.out w' q).1;have x1 : ∀ w', Below W0.heap.size W0 w' → w'.cell? ⟨B, 1, none⟩ = some (.int .i64 h.height) := fun w' q => (HA.out w' q).2.1;have x2 : ∀ w', Below W0.heap.size W0 w' → w'.cell? ⟨B, 2, none⟩ = some (.slice h.sa h.sets.length h.sc) := fun w' q => (HA.out w' q).2.2.1;have x3 : ∀ w', Below W0.heap.size W0 w' → w'.cell? ⟨B, 3, none⟩ = some (.slice h.ra h.roofs.length h.rc) := fun w' q => (HA.out w' q).2.2.2;clear HX hBB
 go_loopw [3] (fun i wr => ∃ k : Nat, k ≤ h.sets.length ∧ i = .int .i64 k ∧ Hid (∀ j, j < k → SetAtOK h j) ∧ Below W0.heap.size W0 wr) (fun i _ => h.sets.length - (intOf i).toNat)
 case atStart => exact ⟨0, Nat.zero_le _, rfl, lh (fun _ h => absurd h (Nat.not_lt_zero _)), hb1⟩
 case round =>
  clear hb1;obtain ⟨k, hk, rfl, HO, hB⟩ := hrel
  by_cases hlt : k < h.sets.length
  ·have HNK : Hid (¬ SetAtOK h k → houseB h = false) := lh fun n => house_no hlt n
   have HSET : Hid (∀ w', Below W0.heap.size W0 w' → SetIn w' (hg h.sets k)) := lh fun w' q => HALL.out w' q k hlt;have HFA := lh (find_at hlt);obtain ⟨b, off, hsa, hb, -⟩ := (HH.out W0 br).sets (by omega);have HSA := lh hsa
   have y0 : ∀ w', Below W0.heap.size W0 w' → w'.cell? ⟨b, off + k * 13, none⟩ = some (.string (hg h.sets k).name) := fun w' q => by
    obtain ⟨b', off', e, -, hc⟩ := (HH.out w' q).sets (by omega);rw [HSA.out] at e
    cases e
    exact (hc k hlt).1
   have y1 : ∀ w', Below W0.heap.size W0 w' → w'.cell? ⟨b, off + k * 13 + 1, none⟩ = some (.int .i64 (hg h.sets k).depth) := fun w' q => by
    obtain ⟨b', off', e, -, hc⟩ := (HH.out w' q).sets (by omega);rw [HSA.out] at e
    cases e
    exact (hc k hlt).2.1
   have y2 : ∀ w', Below W0.heap.size W0 w' → w'.cell? ⟨b, off + k * 13 + 2, none⟩ = some (.int .i64 (hg h.sets k).low) := fun w' q => by
    obtain ⟨b', off', e, -, hc⟩ := (HH.out w' q).sets (by omega);rw [HSA.out] at e
    cases e
    exact (hc k hlt).2.2.1
   have y3 : ∀ w', Below W0.heap.size W0 w' → w'.cell? ⟨b, off + k * 13 + 3, none⟩ = some (.int .i64 (hg h.sets k).high) := fun w' q => by
    obtain ⟨b', off', e, -, hc⟩ := (HH.out w' q).sets (by omega);rw [HSA.out] at e
    cases e
    exact (hc k hlt).2.2.2.1
   have y4 : ∀ w', Below W0.heap.size W0 w' → w'.cell? ⟨b, off + k * 13 + 4, none⟩ = some (.int .i64 (hg h.sets k).length) := fun w' q => by
    obtain ⟨b', off', e, -, hc⟩ := (HH.out w' q).sets (by omega);rw [HSA.out] at e
    cases e
    exact (hc k hlt).2.2.2.2.1
   have y5 : ∀ w', Below W0.heap.size W0 w' → w'.cell? ⟨b, off + k * 13 + 5, none⟩ = some (.slice (hg h.sets k).la (hg h.sets k).lines.length (hg h.sets k).lc) := fun w' q => by
    obtain ⟨b', off', e, -, hc⟩ := (HH.out w' q).sets (by omega);rw [HSA.out] at e
    cases e
    exact (hc k hlt).2.2.2.2.2.1
   have y6 : ∀ w', Below W0.heap.size W0 w' → w'.cell? ⟨b, off + k * 13 + 6, none⟩ = some (.int .i64 (hg h.sets k).pipe) := fun w' q => by
    obtain ⟨b', off', e, -, hc⟩ := (HH.out w' q).sets (by omega);rw [HSA.out] at e
    cases e
    exact (hc k hlt).2.2.2.2.2.2.1
   have y7 : ∀ w', Below W0.heap.size W0 w' → w'.cell? ⟨b, off + k * 13 + 7, none⟩ = some (.int .i64 (hg h.sets k).arbor) := fun w' q => by
    obtain ⟨b', off', e, -, hc⟩ := (HH.out w' q).sets (by omega);rw [HSA.out] at e
    cases e
    exact (hc k hlt).2.2.2.2.2.2.2.1
   have y8 : ∀ w', Below W0.heap.size W0 w' → w'.cell? ⟨b, off + k * 13 + 8, none⟩ = some (.int .i64 (hg h.sets k).purchase) := fun w' q => by
    obtain ⟨b', off', e, -, hc⟩ := (HH.out w' q).sets (by omega);rw [HSA.out] at e
    cases e
    exact (hc k hlt).2.2.2.2.2.2.2.2.1
   have y9 : ∀ w', Below W0.heap.size W0 w' → w'.cell? ⟨b, off + k * 13 + 9, none⟩ = some (.int .i64 (hg h.sets k).most) := fun w' q => by
    obtain ⟨b', off', e, -, hc⟩ := (HH.out w' q).sets (by omega);rw [HSA.out] at e
    cases e
    exact (hc k hlt).2.2.2.2.2.2.2.2.2.1
   have y10 : ∀ w', Below W0.heap.size W0 w' → w'.cell? ⟨b, off + k * 13 + 10, none⟩ = some (.int .i64 (hg h.sets k).brake) := fun w' q => by
    obtain ⟨b', off', e, -, hc⟩ := (HH.out w' q).sets (by omega);rw [HSA.out] at e
    cases e
    exact (hc k hlt).2.2.2.2.2.2.2.2.2.2.1
   have y11 : ∀ w', Below W0.heap.size W0 w' → w'.cell? ⟨b, off + k * 13 + 11, none⟩ = some (.slice (hg h.sets k).ia (hg h.sets k).items.length (hg h.sets k).ic) := fun w' q => by
    obtain ⟨b', off', e, -, hc⟩ := (HH.out w' q).sets (by omega);rw [HSA.out] at e
    cases e
    exact (hc k hlt).2.2.2.2.2.2.2.2.2.2.2.1
   have y12 : ∀ w', Below W0.heap.size W0 w' → w'.cell? ⟨b, off + k * 13 + 12, none⟩ = some (.slice (hg h.sets k).ba (hg h.sets k).bricks.length (hg h.sets k).bc) := fun w' q => by
    obtain ⟨b', off', e, -, hc⟩ := (HH.out w' q).sets (by omega);rw [HSA.out] at e
    cases e
    exact (hc k hlt).2.2.2.2.2.2.2.2.2.2.2.2
   have HFS := lh fun w' (q : HouseIn0 w' h) => rfind_any h (hg h.sets k).name w' q hl;rw [hsa] at x2 HFS;clear hsa;have i0 : 0 ≤ (k : Int) := by omega
   have i1 : (k : Int) < (h.sets.length : Int) := by omega
   have HN : Hid (SetAtOK h k → ∀ j, j < k + 1 → SetAtOK h j) := lh fun q j hj => by
    rcases Nat.lt_or_ge j k with l | l
    ·exact HO.out j l
    ·obtain rfl : j = k := by omega
     exact q
   have HDEF : Hid (SetAtOK h k ↔ setB (hg h.sets k) = true ∧ (hg h.sets k).high ≤ h.height ∧ findS h.sets (hg h.sets k).name = (k : Int)) := lh ⟨fun q => ⟨q.1, q.2.1, HFA.out.2 q.2.2⟩, fun q => ⟨q.1, q.2.1, HFA.out.1 q.2.2⟩⟩;obtain ⟨x, hx⟩ := nm (hg h.sets k);rw [hx] at y0 y1 y2 y3 y4 y5 y6 y7 y8 y9 y10 y11 y12 HSET HDEF HFS;clear hx HFA
   go_upto_region 6 with (fail)
   cases hv : setB x
   case false =>
    have HV := lh hv;have HZ := lh (HNK.out fun q => by have := (HDEF.out.1 q).1; rw [HV.out] at this; cases this);clear hv;refine wp_region_held_drew (S := (fun w' => Below W0.heap.size W0 w')) (by kernel_rfl) (hB.drew) (fun hHeld => ?_);refine tk 0 ?_; refine tk 1 ?_; refine tk 2 ?_; refine tk 3 ?_; refine tk 4 ?_;refine r1 5 (fun K hK => ?_)
    try simp only [p4, p5, p6]
    go_simp
    (go_at_call 86; go_split_ands; (with_reducible refine (rvalid_any x _ (HSET.out _ hHeld)).mono ?_); rintro e w5 ⟨rfl, hb5⟩; rw [HV.out])
    go_wp2_with fail
    refine hK.out _ _ (hHeld.trans (hb5.mono hHeld.size)) (fun hHeld => ?_);clear hK K
    try simp only [Act.put, q1, p2, p3, p4, p5, p6]
    refine tk 6 ?_; refine tk 7 ?_; refine sk 8 ?_; refine sk 9 ?_; refine sk 10 ?_; refine sk 11 ?_; refine sk 12 ?_; refine sk 13 ?_; refine sk 14 ?_; refine sk 15 ?_; refine sk 16 ?_; refine tk 17 ?_; refine tk 18 ?_; refine sk 19 ?_; refine sk 20 ?_; refine sk 21 ?_; refine sk 22 ?_; refine sk 23 ?_; refine sk 24 ?_; refine sk 25 ?_; refine sk 26 ?_; refine sk 27 ?_; refine sk 28 ?_; refine tk 29 ?_;refine wpAnyH_done (by kernel_rfl) ?_ _
    go_wp2_with fail
    go_ret;exact ⟨ret_bool HZ.out.symm, HW.out _ hHeld⟩
   have HV := lh hv;clear hv
   cases hg1 : decide (h.height < x.high)
   case true =>
    have HZ := lh (HNK.out fun q => by have := (HDEF.out.1 q).2.1; have e := of_decide_eq_true hg1; omega);refine wp_region_held_drew (S := (fun w' => Below W0.heap.size W0 w')) (by kernel_rfl) (hB.drew) (fun hHeld => ?_);refine tk 0 ?_; refine tk 1 ?_; refine tk 2 ?_; refine tk 3 ?_; refine tk 4 ?_;refine r1 5 (fun K hK => ?_)
    try simp only [p4, p5, p6]
    go_simp
    (go_at_call 86; go_split_ands; (with_reducible refine (rvalid_any x _ (HSET.out _ hHeld)).mono ?_); rintro e w5 ⟨rfl, hb5⟩; rw [HV.out])
    go_wp2_with fail
    refine hK.out _ _ (hHeld.trans (hb5.mono hHeld.size)) (fun hHeld => ?_);clear hK K
    try simp only [Act.put, q1, p2, p3, p4, p5, p6]
    refine tk 6 ?_; refine tk 7 ?_; refine tk 8 ?_; refine tk 9 ?_; refine tk 10 ?_; refine tk 11 ?_; refine tk 12 ?_; refine tk 13 ?_; refine tk 14 ?_; refine tk 15 ?_; refine tk 16 ?_; refine tk 17 ?_; refine tk 18 ?_; refine sk 19 ?_; refine sk 20 ?_; refine sk 21 ?_; refine sk 22 ?_; refine sk 23 ?_; refine sk 24 ?_; refine sk 25 ?_; refine sk 26 ?_; refine sk 27 ?_; refine sk 28 ?_; refine tk 29 ?_;refine wpAnyH_done (by kernel_rfl) ?_ _
    go_wp2_with fail
    go_ret;exact ⟨ret_bool HZ.out.symm, HW.out _ hHeld⟩
   have HG := lh (of_decide_eq_false hg1)
   by_cases hf : findS h.sets x.name = (k : Int)
   ·have HF := lh hf
    have HN2 := lh (HN.out (HDEF.out.2 ⟨HV.out, by have := HG.out; omega, hf⟩));clear hf;refine wp_region_held_drew (S := (fun w' => Below W0.heap.size W0 w')) (by kernel_rfl) (hB.drew) (fun hHeld => ?_);refine tk 0 ?_; refine tk 1 ?_; refine tk 2 ?_; refine tk 3 ?_; refine tk 4 ?_;refine r1 5 (fun K hK => ?_)
    try simp only [p4, p5, p6]
    go_simp
    (go_at_call 86; go_split_ands; (with_reducible refine (rvalid_any x _ (HSET.out _ hHeld)).mono ?_); rintro e w5 ⟨rfl, hb5⟩; rw [HV.out])
    go_wp2_with fail
    refine hK.out _ _ (hHeld.trans (hb5.mono hHeld.size)) (fun hHeld => ?_);clear hK K
    try simp only [Act.put, q1, p2, p3, p4, p5, p6]
    refine tk 6 ?_; refine tk 7 ?_; refine tk 8 ?_; refine tk 9 ?_; refine tk 10 ?_; refine tk 11 ?_; refine tk 12 ?_; refine tk 13 ?_; refine tk 14 ?_; refine tk 15 ?_; refine tk 16 ?_; refine tk 17 ?_; refine tk 18 ?_; refine tk 19 ?_; refine tk 20 ?_; refine tk 21 ?_; refine tk 22 ?_; refine tk 23 ?_; refine tk 24 ?_; refine tk 25 ?_; refine tk 27 ?_;refine r1 26 (fun K hK => ?_)
    try simp only [p4, p5, p6]
    go_simp
    (go_at_call 87; go_split_ands; (with_reducible refine (HFS.out _ (HH.out _ hHeld)).mono ?_); rintro e w6 ⟨rfl, hb6⟩; rw [HF.out])
    go_wp2_with fail
    refine hK.out _ _ (hHeld.trans (hb6.mono hHeld.size)) (fun hHeld => ?_);clear hK K
    try simp only [Act.put, q1, p2, p3, p4, p5, p6]
    refine tk 28 ?_; refine tk 29 ?_;refine wpAnyH_done (by kernel_rfl) ?_ _
    go_wp2_with fail
    go_roundw
    case rel => exact ⟨k + 1, by omega, by go_num, HN2, hHeld⟩
    case measure => simp [intOf]; omega
   ·have HZ := lh (HNK.out fun q => hf (HDEF.out.1 q).2.2)
    obtain ⟨j, hj⟩ := nm (findS h.sets x.name);rw [hj] at hf;have HF := lh hj;have g3 : (j != (k : Int)) = true := bne_iff_ne.2 hf;clear hj hf;refine wp_region_held_drew (S := (fun w' => Below W0.heap.size W0 w')) (by kernel_rfl) (hB.drew) (fun hHeld => ?_);refine tk 0 ?_; refine tk 1 ?_; refine tk 2 ?_; refine tk 3 ?_; refine tk 4 ?_;refine r1 5 (fun K hK => ?_)
    try simp only [p4, p5, p6]
    go_simp
    (go_at_call 86; go_split_ands; (with_reducible refine (rvalid_any x _ (HSET.out _ hHeld)).mono ?_); rintro e w5 ⟨rfl, hb5⟩; rw [HV.out])
    go_wp2_with fail
    refine hK.out _ _ (hHeld.trans (hb5.mono hHeld.size)) (fun hHeld => ?_);clear hK K
    try simp only [Act.put, q1, p2, p3, p4, p5, p6]
    refine tk 6 ?_; refine tk 7 ?_; refine tk 8 ?_; refine tk 9 ?_; refine tk 10 ?_; refine tk 11 ?_; refine tk 12 ?_; refine tk 13 ?_; refine tk 14 ?_; refine tk 15 ?_; refine tk 16 ?_; refine tk 17 ?_; refine tk 18 ?_; refine tk 19 ?_; refine tk 20 ?_; refine tk 21 ?_; refine tk 22 ?_; refine tk 23 ?_; refine tk 24 ?_; refine tk 25 ?_; refine tk 27 ?_;refine r1 26 (fun K hK => ?_)
    try simp only [p4, p5, p6]
    go_simp
    (go_at_call 87; go_split_ands; (with_reducible refine (HFS.out _ (HH.out _ hHeld)).mono ?_); rintro e w6 ⟨rfl, hb6⟩; rw [HF.out])
    go_wp2_with fail
    refine hK.out _ _ (hHeld.trans (hb6.mono hHeld.size)) (fun hHeld => ?_);clear hK K
    try simp only [Act.put, q1, p2, p3, p4, p5, p6]
    refine tk 28 ?_; refine tk 29 ?_;refine wpAnyH_done (by kernel_rfl) ?_ _
    go_wp2_with fail
    go_ret;exact ⟨ret_bool HZ.out.symm, HW.out _ hHeld⟩
  ·obtain rfl : k = h.sets.length := by omega
   have HZ : Hid (houseB h = true) := lh (houseB_iff.2 ⟨HOK.out.1, HOK.out.2.1, HOK.out.2.2.1, HOK.out.2.2.2.1, HOK.out.2.2.2.2, HO.out⟩)
   go_wp2_with fail
   go_ret;exact ⟨ret_bool HZ.out.symm, HW.out _ hB⟩
end
end Go.Proofs.YtlnodjcmdnmnlaaGreat
