/-
  THE WALKS of batten's and the reference's (21) small tests: between, alone, inside, apart.
-/
import Derived.Test.YtbgkgahmicepdaaGreatP2
namespace Go.Proofs.YtbgkgahmicepdaaGreat
set_option maxRecDepth 100000
set_option maxHeartbeats 80000000
section
open Go.RowKit Go.Shelf
theorem below_new2 (w : World) (o p : Obj) : Below w.heap.size w ((w.alloc o).alloc p) := (below_new w o).alloc (by simp) p
theorem betw_any (n lo hi : Int) (w : World) :
  Calls Tryz.prog 126 #[.int .i64 n, .int .i64 lo, .int .i64 hi] w fun e w' => e = .returned (.bool (betB n lo hi)) ∧ w = w' := by
 have HR : Hid (betB n lo hi = (decide (lo ≤ n) && decide (n ≤ hi))) := lh rfl
 by_cases p1 : lo ≤ n
 ·have g1 : decide (lo ≤ n) = true := decide_eq_true p1
  rw [g1] at HR;clear p1
  go_enter Tryz.func126, Tryz.ntmps126
  go_wp2_with fail
  go_ret;exact ⟨ret_bool (by rw [HR.out]; rfl), rfl⟩
 ·have g1 : decide (lo ≤ n) = false := decide_eq_false p1
  rw [g1] at HR;clear p1
  go_enter Tryz.func126, Tryz.ntmps126
  go_wp2_with fail
  go_ret;exact ⟨ret_bool (by rw [HR.out]; rfl), rfl⟩
theorem rbetw_any (n lo hi : Int) (w : World) :
  Calls Tryz.prog 117 #[.int .i64 n, .int .i64 lo, .int .i64 hi] w fun e w' => e = .returned (.bool (betB n lo hi)) ∧ w = w' := by
 have HR : Hid (betB n lo hi = (decide (lo ≤ n) && decide (n ≤ hi))) := lh rfl
 by_cases p1 : lo ≤ n
 ·have g1 : decide (lo ≤ n) = true := decide_eq_true p1
  rw [g1] at HR;clear p1
  go_enter Tryz.func117, Tryz.ntmps117
  go_wp2_with fail
  go_ret;exact ⟨ret_bool (by rw [HR.out]; rfl), rfl⟩
 ·have g1 : decide (lo ≤ n) = false := decide_eq_false p1
  rw [g1] at HR;clear p1
  go_enter Tryz.func117, Tryz.ntmps117
  go_wp2_with fail
  go_ret;exact ⟨ret_bool (by rw [HR.out]; rfl), rfl⟩
theorem alone_any (r : ItemR) (w : World) :
  Calls Tryz.prog 140 #[.agg #[.string r.name, .int .i64 r.pos, .int .i64 r.width, .int .i64 r.weight, .int .i64 r.hang, .int .i64 r.front, .int .i64 r.back]] w fun e w' => e = .returned (.bool (aloneB r)) ∧ Below w.heap.size w w' := by
 go_enter Tryz.func140, Tryz.ntmps140
 cases h0 : isNameB r.name
 ·have HR : Hid (aloneB r = false) := lh (by simp only [aloneB, h0, Bool.false_and])
  have H0 := lh h0;clear h0
  go_wp2_with (first
   | (go_at_call 100; (with_reducible refine (isName_any r.name _).mono ?_); rintro e w1 ⟨rfl, rfl⟩; rw [H0.out]))
  go_ret;exact ⟨ret_bool HR.out.symm, below_new _ _⟩
 cases h1 : betB r.weight 0 1048576
 ·have HR : Hid (aloneB r = false) := lh (by simp only [aloneB, h0, h1, Bool.true_and, Bool.false_and])
  have H0 := lh h0;have H1 := lh h1;clear h0 h1
  go_wp2_with (first
   | (go_at_call 100; (with_reducible refine (isName_any r.name _).mono ?_); rintro e w1 ⟨rfl, rfl⟩; rw [H0.out])
   | (go_at_call 126; (with_reducible refine (betw_any r.weight 0 1048576 _).mono ?_); rintro e w1 ⟨rfl, rfl⟩; rw [H1.out]))
  go_ret;exact ⟨ret_bool HR.out.symm, below_new _ _⟩
 cases h2 : betB r.hang 0 1048576
 ·have HR : Hid (aloneB r = false) := lh (by simp only [aloneB, h0, h1, h2, Bool.true_and, Bool.false_and])
  have H0 := lh h0;have H1 := lh h1;have H2 := lh h2;clear h0 h1 h2
  go_wp2_with (first
   | (go_at_call 100; (with_reducible refine (isName_any r.name _).mono ?_); rintro e w1 ⟨rfl, rfl⟩; rw [H0.out])
   | (go_at_call 126; (with_reducible refine (betw_any _ _ _ _).mono ?_); rintro e w1 ⟨rfl, rfl⟩; simp only [H1.out, H2.out]))
  go_ret;exact ⟨ret_bool HR.out.symm, below_new _ _⟩
 cases h3 : betB r.front 0 1048576
 ·have HR : Hid (aloneB r = false) := lh (by simp only [aloneB, h0, h1, h2, h3, Bool.true_and, Bool.false_and])
  have H0 := lh h0;have H1 := lh h1;have H2 := lh h2;have H3 := lh h3;clear h0 h1 h2 h3
  go_wp2_with (first
   | (go_at_call 100; (with_reducible refine (isName_any r.name _).mono ?_); rintro e w1 ⟨rfl, rfl⟩; rw [H0.out])
   | (go_at_call 126; (with_reducible refine (betw_any _ _ _ _).mono ?_); rintro e w1 ⟨rfl, rfl⟩; simp only [H1.out, H2.out, H3.out]))
  go_ret;exact ⟨ret_bool HR.out.symm, below_new _ _⟩
 cases h4 : betB r.back 0 1048576
 ·have HR : Hid (aloneB r = false) := lh (by simp only [aloneB, h0, h1, h2, h3, h4, Bool.true_and])
  have H0 := lh h0;have H1 := lh h1;have H2 := lh h2;have H3 := lh h3;have H4 := lh h4;clear h0 h1 h2 h3 h4
  go_wp2_with (first
   | (go_at_call 100; (with_reducible refine (isName_any r.name _).mono ?_); rintro e w1 ⟨rfl, rfl⟩; rw [H0.out])
   | (go_at_call 126; (with_reducible refine (betw_any _ _ _ _).mono ?_); rintro e w1 ⟨rfl, rfl⟩; simp only [H1.out, H2.out, H3.out, H4.out]))
  go_ret;exact ⟨ret_bool HR.out.symm, below_new _ _⟩
 have HR : Hid (aloneB r = true) := lh (by simp only [aloneB, h0, h1, h2, h3, h4, Bool.and_self]);have H0 := lh h0;have H1 := lh h1;have H2 := lh h2;have H3 := lh h3;have H4 := lh h4;clear h0 h1 h2 h3 h4
 go_wp2_with (first
  | (go_at_call 100; (with_reducible refine (isName_any r.name _).mono ?_); rintro e w1 ⟨rfl, rfl⟩; rw [H0.out])
  | (go_at_call 126; (with_reducible refine (betw_any r.weight 0 1048576 _).mono ?_); rintro e w1 ⟨rfl, rfl⟩; rw [H1.out])
  | (go_at_call 126; (with_reducible refine (betw_any r.hang 0 1048576 _).mono ?_); rintro e w1 ⟨rfl, rfl⟩; rw [H2.out])
  | (go_at_call 126; (with_reducible refine (betw_any r.front 0 1048576 _).mono ?_); rintro e w1 ⟨rfl, rfl⟩; rw [H3.out])
  | (go_at_call 126; (with_reducible refine (betw_any r.back 0 1048576 _).mono ?_); rintro e w1 ⟨rfl, rfl⟩; rw [H4.out]))
 go_ret;exact ⟨ret_bool HR.out.symm, below_new _ _⟩
theorem inside_any (r : ItemR) (len : Int) (w : World) (hl : 0 ≤ len ∧ len ≤ 1048576) :
  Calls Tryz.prog 141 #[.agg #[.string r.name, .int .i64 r.pos, .int .i64 r.width, .int .i64 r.weight, .int .i64 r.hang, .int .i64 r.front, .int .i64 r.back], .int .i64 len] w fun e w' => e = .returned (.bool (insideB r len)) ∧ Below w.heap.size w w' := by
 go_enter Tryz.func141, Tryz.ntmps141
 cases h0 : decide (0 ≤ r.pos)
 ·have HR : Hid (insideB r len = false) := lh (by simp only [insideB, h0, Bool.false_and])
  go_wp2_with fail
  go_ret;exact ⟨ret_bool HR.out.symm, below_new _ _⟩
 cases h1 : betB r.width 1 1048576
 ·have HR : Hid (insideB r len = false) := lh (by simp only [insideB, h0, h1, Bool.true_and, Bool.false_and])
  have H1 := lh h1;clear h1
  go_wp2_with (first
   | (go_at_call 126; (with_reducible refine (betw_any r.width 1 1048576 _).mono ?_); rintro e w1 ⟨rfl, rfl⟩; rw [H1.out]))
  go_ret;exact ⟨ret_bool HR.out.symm, below_new _ _⟩
 have hw := betB_iff.1 h1;have s1 : IntKind.i64.wrap (len - r.width) = len - r.width := IntWalk.i64_in _ (by omega)
 cases h2 : decide (r.pos ≤ len - r.width)
 ·have HR : Hid (insideB r len = false) := lh (by simp only [insideB, h0, h1, h2, Bool.true_and])
  have H1 := lh h1;clear h1
  go_wp2_with (first
   | (go_at_call 126; (with_reducible refine (betw_any r.width 1 1048576 _).mono ?_); rintro e w1 ⟨rfl, rfl⟩; rw [H1.out]))
  go_ret;exact ⟨ret_bool HR.out.symm, below_new _ _⟩
 have HR : Hid (insideB r len = true) := lh (by simp only [insideB, h0, h1, h2, Bool.and_self]);have H1 := lh h1;clear h1
 go_wp2_with (first
  | (go_at_call 126; (with_reducible refine (betw_any r.width 1 1048576 _).mono ?_); rintro e w1 ⟨rfl, rfl⟩; rw [H1.out]))
 go_ret;exact ⟨ret_bool HR.out.symm, below_new _ _⟩
def raloneB (r : ItemR) (len : Int) : Bool := isNameB r.name && (betB r.width 1 1048576 && (betB r.pos 0 (len - r.width) && (betB r.weight 0 1048576 && (betB r.hang 0 1048576 && (betB r.front 0 1048576 && betB r.back 0 1048576)))))
theorem ralone_eq (r : ItemR) (len : Int) : raloneB r len = item1 len r := by
 rw [Bool.eq_iff_iff, item1_iff];unfold raloneB;simp only [Bool.and_eq_true, betB_iff]
 constructor
 ·rintro ⟨a, b, c, d, e, f, g⟩; exact ⟨a, d, e, f, g, c.1, b, c.2⟩
 ·rintro ⟨a, d, e, f, g, c, b, c'⟩; exact ⟨a, b, ⟨c, c'⟩, d, e, f, g⟩
theorem ralone_any (r : ItemR) (len : Int) (w : World) (hl : 0 ≤ len ∧ len ≤ 1048576) :
  Calls Tryz.prog 134 #[.agg #[.string r.name, .int .i64 r.pos, .int .i64 r.width, .int .i64 r.weight, .int .i64 r.hang, .int .i64 r.front, .int .i64 r.back], .int .i64 len] w fun e w' => e = .returned (.bool (item1 len r)) ∧ Below w.heap.size w w' := by
 rw [← ralone_eq]
 go_enter Tryz.func134, Tryz.ntmps134
 cases h0 : isNameB r.name
 ·have HR : Hid (raloneB r len = false) := lh (by simp only [raloneB, h0, Bool.false_and])
  have H0 := lh h0;clear h0
  go_wp2_with (first
   | (go_at_call 94; (with_reducible refine (refisName_any r.name _).mono ?_); rintro e w1 ⟨rfl, rfl⟩; rw [H0.out]))
  go_ret;exact ⟨ret_bool HR.out.symm, below_new _ _⟩
 cases h1 : betB r.width 1 1048576
 ·have HR : Hid (raloneB r len = false) := lh (by simp only [raloneB, h0, h1, Bool.true_and, Bool.false_and])
  have H0 := lh h0;have H1 := lh h1;clear h0 h1
  go_wp2_with (first
   | (go_at_call 94; (with_reducible refine (refisName_any r.name _).mono ?_); rintro e w1 ⟨rfl, rfl⟩; rw [H0.out])
   | (go_at_call 117; (with_reducible refine (rbetw_any r.width 1 1048576 _).mono ?_); rintro e w1 ⟨rfl, rfl⟩; rw [H1.out]))
  go_ret;exact ⟨ret_bool HR.out.symm, below_new _ _⟩
 have hw := betB_iff.1 h1;have s1 : IntKind.i64.wrap (len - r.width) = len - r.width := IntWalk.i64_in _ (by omega)
 cases h2 : betB r.pos 0 (len - r.width)
 ·have HR : Hid (raloneB r len = false) := lh (by simp only [raloneB, h0, h1, h2, Bool.true_and, Bool.false_and])
  have H0 := lh h0;have H1 := lh h1;have H2 := lh h2;clear h0 h1 h2
  go_wp2_with (first
   | (go_at_call 94; (with_reducible refine (refisName_any r.name _).mono ?_); rintro e w1 ⟨rfl, rfl⟩; rw [H0.out])
   | (go_at_call 117; (with_reducible refine (rbetw_any _ _ _ _).mono ?_); rintro e w1 ⟨rfl, rfl⟩; simp only [H1.out, H2.out]))
  go_ret;exact ⟨ret_bool HR.out.symm, below_new _ _⟩
 cases h3 : betB r.weight 0 1048576
 ·have HR : Hid (raloneB r len = false) := lh (by simp only [raloneB, h0, h1, h2, h3, Bool.true_and, Bool.false_and])
  have H0 := lh h0;have H1 := lh h1;have H2 := lh h2;have H3 := lh h3;clear h0 h1 h2 h3
  go_wp2_with (first
   | (go_at_call 94; (with_reducible refine (refisName_any r.name _).mono ?_); rintro e w1 ⟨rfl, rfl⟩; rw [H0.out])
   | (go_at_call 117; (with_reducible refine (rbetw_any _ _ _ _).mono ?_); rintro e w1 ⟨rfl, rfl⟩; simp only [H1.out, H2.out, H3.out]))
  go_ret;exact ⟨ret_bool HR.out.symm, below_new _ _⟩
 cases h4 : betB r.hang 0 1048576
 ·have HR : Hid (raloneB r len = false) := lh (by simp only [raloneB, h0, h1, h2, h3, h4, Bool.true_and, Bool.false_and])
  have H0 := lh h0;have H1 := lh h1;have H2 := lh h2;have H3 := lh h3;have H4 := lh h4;clear h0 h1 h2 h3 h4
  go_wp2_with (first
   | (go_at_call 94; (with_reducible refine (refisName_any r.name _).mono ?_); rintro e w1 ⟨rfl, rfl⟩; rw [H0.out])
   | (go_at_call 117; (with_reducible refine (rbetw_any _ _ _ _).mono ?_); rintro e w1 ⟨rfl, rfl⟩; simp only [H1.out, H2.out, H3.out, H4.out]))
  go_ret;exact ⟨ret_bool HR.out.symm, below_new _ _⟩
 cases h5 : betB r.front 0 1048576
 ·have HR : Hid (raloneB r len = false) := lh (by simp only [raloneB, h0, h1, h2, h3, h4, h5, Bool.true_and, Bool.false_and])
  have H0 := lh h0;have H1 := lh h1;have H2 := lh h2;have H3 := lh h3;have H4 := lh h4;have H5 := lh h5;clear h0 h1 h2 h3 h4 h5
  go_wp2_with (first
   | (go_at_call 94; (with_reducible refine (refisName_any r.name _).mono ?_); rintro e w1 ⟨rfl, rfl⟩; rw [H0.out])
   | (go_at_call 117; (with_reducible refine (rbetw_any _ _ _ _).mono ?_); rintro e w1 ⟨rfl, rfl⟩; simp only [H1.out, H2.out, H3.out, H4.out, H5.out]))
  go_ret;exact ⟨ret_bool HR.out.symm, below_new _ _⟩
 cases h6 : betB r.back 0 1048576
 ·have HR : Hid (raloneB r len = false) := lh (by simp only [raloneB, h0, h1, h2, h3, h4, h5, h6, Bool.true_and])
  have H0 := lh h0;have H1 := lh h1;have H2 := lh h2;have H3 := lh h3;have H4 := lh h4;have H5 := lh h5;have H6 := lh h6;clear h0 h1 h2 h3 h4 h5 h6
  go_wp2_with (first
   | (go_at_call 94; (with_reducible refine (refisName_any r.name _).mono ?_); rintro e w1 ⟨rfl, rfl⟩; rw [H0.out])
   | (go_at_call 117; (with_reducible refine (rbetw_any _ _ _ _).mono ?_); rintro e w1 ⟨rfl, rfl⟩; simp only [H1.out, H2.out, H3.out, H4.out, H5.out, H6.out]))
  go_ret;exact ⟨ret_bool HR.out.symm, below_new _ _⟩
 have HR : Hid (raloneB r len = true) := lh (by simp only [raloneB, h0, h1, h2, h3, h4, h5, h6, Bool.and_self]);have H0 := lh h0;have H1 := lh h1;have H2 := lh h2;have H3 := lh h3;have H4 := lh h4;have H5 := lh h5;have H6 := lh h6;clear h0 h1 h2 h3 h4 h5 h6
 go_wp2_with (first
  | (go_at_call 94; (with_reducible refine (refisName_any r.name _).mono ?_); rintro e w1 ⟨rfl, rfl⟩; rw [H0.out])
  | (go_at_call 117; (with_reducible refine (rbetw_any r.width 1 1048576 _).mono ?_); rintro e w1 ⟨rfl, rfl⟩; rw [H1.out])
  | (go_at_call 117; (with_reducible refine (rbetw_any r.pos 0 (len - r.width) _).mono ?_); rintro e w1 ⟨rfl, rfl⟩; rw [H2.out])
  | (go_at_call 117; (with_reducible refine (rbetw_any r.weight 0 1048576 _).mono ?_); rintro e w1 ⟨rfl, rfl⟩; rw [H3.out])
  | (go_at_call 117; (with_reducible refine (rbetw_any r.hang 0 1048576 _).mono ?_); rintro e w1 ⟨rfl, rfl⟩; rw [H4.out])
  | (go_at_call 117; (with_reducible refine (rbetw_any r.front 0 1048576 _).mono ?_); rintro e w1 ⟨rfl, rfl⟩; rw [H5.out])
  | (go_at_call 117; (with_reducible refine (rbetw_any r.back 0 1048576 _).mono ?_); rintro e w1 ⟨rfl, rfl⟩; rw [H6.out]))
 go_ret;exact ⟨ret_bool HR.out.symm, below_new _ _⟩
def apartW (x y : ItemR) : Bool := decide (IntKind.i64.wrap (x.pos + x.width) ≤ y.pos) || decide (IntKind.i64.wrap (y.pos + y.width) ≤ x.pos)
theorem apartW_is {x y : ItemR} {len : Int} (hx : item1 len x = true) (hy : item1 len y = true) (hl : 0 ≤ len ∧ len ≤ 1048576) : apartW x y = apartB x y := by
 obtain ⟨_, _, _, _, _, a, b, c⟩ := item1_iff.1 hx;obtain ⟨_, _, _, _, _, d, e, f⟩ := item1_iff.1 hy;unfold apartW apartB;rw [IntWalk.i64_in _ (by omega), IntWalk.i64_in _ (by omega)]
theorem apart_any (x y : ItemR) (w : World) :
  Calls Tryz.prog 144 #[.agg #[.string x.name, .int .i64 x.pos, .int .i64 x.width, .int .i64 x.weight, .int .i64 x.hang, .int .i64 x.front, .int .i64 x.back], .agg #[.string y.name, .int .i64 y.pos, .int .i64 y.width, .int .i64 y.weight, .int .i64 y.hang, .int .i64 y.front, .int .i64 y.back]] w fun e w' => e = .returned (.bool (apartW x y)) ∧ Below w.heap.size w w' := by
 have HR : Hid (apartW x y = (decide (IntKind.i64.wrap (x.pos + x.width) ≤ y.pos) || decide (IntKind.i64.wrap (y.pos + y.width) ≤ x.pos))) := lh rfl;rw [IntWalk.i64_left, IntWalk.i64_left] at HR;obtain ⟨p, hp⟩ := nm (wrap64 (x.pos + x.width));obtain ⟨q, hq⟩ := nm (wrap64 (y.pos + y.width));rw [hp, hq] at HR
 by_cases p1 : p ≤ y.pos
 ·have g1 : decide (p ≤ y.pos) = true := decide_eq_true p1
  rw [g1] at HR;clear p1
  go_enter Tryz.func144, Tryz.ntmps144
  go_wp2_with fail
  go_ret;exact ⟨ret_bool (by rw [HR.out]; rfl), below_new2 _ _ _⟩
 ·have g1 : decide (p ≤ y.pos) = false := decide_eq_false p1
  rw [g1] at HR;clear p1
  go_enter Tryz.func144, Tryz.ntmps144
  go_wp2_with fail
  go_ret;exact ⟨ret_bool (by rw [HR.out]; rfl), below_new2 _ _ _⟩
theorem rapart_any (x y : ItemR) (w : World) :
  Calls Tryz.prog 135 #[.agg #[.string x.name, .int .i64 x.pos, .int .i64 x.width, .int .i64 x.weight, .int .i64 x.hang, .int .i64 x.front, .int .i64 x.back], .agg #[.string y.name, .int .i64 y.pos, .int .i64 y.width, .int .i64 y.weight, .int .i64 y.hang, .int .i64 y.front, .int .i64 y.back]] w fun e w' => e = .returned (.bool (apartW x y)) ∧ Below w.heap.size w w' := by
 have HR : Hid (apartW x y = (decide (IntKind.i64.wrap (x.pos + x.width) ≤ y.pos) || decide (IntKind.i64.wrap (y.pos + y.width) ≤ x.pos))) := lh rfl;rw [IntWalk.i64_left, IntWalk.i64_left] at HR;obtain ⟨p, hp⟩ := nm (wrap64 (x.pos + x.width));obtain ⟨q, hq⟩ := nm (wrap64 (y.pos + y.width));rw [hp, hq] at HR
 by_cases p1 : p ≤ y.pos
 ·have g1 : decide (p ≤ y.pos) = true := decide_eq_true p1
  rw [g1] at HR;clear p1
  go_enter Tryz.func135, Tryz.ntmps135
  go_wp2_with fail
  go_ret;exact ⟨ret_bool (by rw [HR.out]; rfl), below_new2 _ _ _⟩
 ·have g1 : decide (p ≤ y.pos) = false := decide_eq_false p1
  rw [g1] at HR;clear p1
  go_enter Tryz.func135, Tryz.ntmps135
  go_wp2_with fail
  go_ret;exact ⟨ret_bool (by rw [HR.out]; rfl), below_new2 _ _ _⟩
def ItemAt (w : World) (b : Nat) (r : ItemR) : Prop := w.cell? ⟨b, 0, none⟩ = some (.string r.name) ∧ w.cell? ⟨b, 1, none⟩ = some (.int .i64 r.pos) ∧ w.cell? ⟨b, 2, none⟩ = some (.int .i64 r.width) ∧ w.cell? ⟨b, 3, none⟩ = some (.int .i64 r.weight) ∧ w.cell? ⟨b, 4, none⟩ = some (.int .i64 r.hang) ∧ w.cell? ⟨b, 5, none⟩ = some (.int .i64 r.front) ∧ w.cell? ⟨b, 6, none⟩ = some (.int .i64 r.back)
theorem ItemAt.below {w w' : World} {b : Nat} {r : ItemR} (h : ItemAt w b r) (hb : Below w.heap.size w w') (hlt : b < w.heap.size) : ItemAt w' b r :=
 let ⟨a0, a1, a2, a3, a4, a5, a6⟩ := h
 ⟨(hb.cell (p := ⟨b, 0, none⟩) hlt).trans a0, (hb.cell (p := ⟨b, 1, none⟩) hlt).trans a1, (hb.cell (p := ⟨b, 2, none⟩) hlt).trans a2, (hb.cell (p := ⟨b, 3, none⟩) hlt).trans a3, (hb.cell (p := ⟨b, 4, none⟩) hlt).trans a4, (hb.cell (p := ⟨b, 5, none⟩) hlt).trans a5, (hb.cell (p := ⟨b, 6, none⟩) hlt).trans a6⟩
theorem ItemAt.new (w : World) (r : ItemR) (t : TypeId) : ItemAt (w.alloc (.cells #[.string r.name, .int .i64 r.pos, .int .i64 r.width, .int .i64 r.weight, .int .i64 r.hang, .int .i64 r.front, .int .i64 r.back] t)) w.heap.size r := by
 unfold ItemAt
 simp
theorem ent_apart (args : Array Value) (w : World) : (callFunc 143 args).run Tryz.prog w = .ok (.enter 143 args) w := enters_of Tryz.func143 (by kernel_rfl) rfl args w
theorem apartC_any (bx : Nat) (x y : ItemR) (w : World) (h : ItemAt w bx x) (hlt : bx < w.heap.size) :
  Calls Tryz.prog 143 #[.agg #[.string y.name, .int .i64 y.pos, .int .i64 y.width, .int .i64 y.weight, .int .i64 y.hang, .int .i64 y.front, .int .i64 y.back], .pointer (some ⟨bx, 0, none⟩)] w fun e w' => e = .returned (.bool (!apartW x y)) ∧ Below w.heap.size w w' := by
 obtain ⟨a0, a1, a2, a3, a4, a5, a6⟩ := h
 go_enter Tryz.func143, Tryz.ntmps143
 go_wp2_with (first
  | (go_at_call 144; (with_reducible refine (apart_any x y _).mono ?_); rintro e w1 ⟨rfl, hb⟩))
 go_ret;exact ⟨rfl, mono_in _ hb⟩
theorem asks_apart {w : World} {bx : Nat} {x : ItemR} (h : ItemAt w bx x) (hlt : bx < w.heap.size) : AsksI 143 #[.pointer (some ⟨bx, 0, none⟩)] w.heap.size w (fun y => !apartW x y) := by
 intro W r hb;exact apartC_any bx x r W (h.below hb hlt) (Nat.lt_of_lt_of_le hlt hb.size)
end
section
open Go.RowKit Go.Shelf
attribute [local go_sem] Oper.semAt_some
theorem incr_of {f : Nat → Int} {n : Nat} (h : ∀ j, j + 1 < n → f j < f (j + 1)) : ∀ j, j < n → ∀ i, i < j → f i < f j
 | 0, _, i, hi => absurd hi (Nat.not_lt_zero _)
 | j + 1, hj, i, hi => by
  have h1 := h j hj;rcases (show i < j ∨ i = j by omega) with l | l
  ·have := incr_of h j (by omega) i l
   omega
  ·subst l; exact h1
theorem lines_iff {L : List Int} {len : Int} : linesB L len = true ↔ (2 ≤ L.length ∧ L.length ≤ 10) ∧ 0 ≤ ig L 0 ∧ ig L (L.length - 1) ≤ len ∧ ∀ j, j + 1 < L.length → ig L j < ig L (j + 1) := by
 unfold linesB;rw [Bool.and_eq_true, Bool.and_eq_true, betB_iff, List.all_eq_true, decide_eq_true_eq]
 constructor
 ·rintro ⟨h1, h2, h3⟩
  have h4 : ∀ j, j < L.length → 0 ≤ ig L j ∧ ig L j ≤ len := fun j hj => by
   rw [ig_eq L j hj];exact betB_iff.1 (h2 _ (List.getElem_mem hj))
  refine ⟨by omega, (h4 0 (by omega)).1, (h4 _ (by omega)).2, fun j hj => ?_⟩;rw [ig_eq L j (by omega), ig_eq L (j + 1) hj];exact List.pairwise_iff_getElem.1 h3 j (j + 1) _ _ (Nat.lt_succ_self _)
 ·rintro ⟨h1, h2, h3, h4⟩
  have h5 := incr_of (f := ig L) h4;refine ⟨by omega, fun x hx => ?_, ?_⟩
  ·obtain ⟨j, hj, rfl⟩ := List.getElem_of_mem hx
   rw [← ig_eq L j hj, betB_iff]
   have a : ig L 0 ≤ ig L j := by
    rcases Nat.eq_zero_or_pos j with e | e
    ·subst e; exact Int.le_refl _
    ·have := h5 j hj 0 e; omega
   have b : ig L j ≤ ig L (L.length - 1) := by
    rcases (show j = L.length - 1 ∨ j < L.length - 1 by omega) with e | e
    ·subst e; exact Int.le_refl _
    ·have := h5 (L.length - 1) (by omega) j e; omega
   omega
  ·rw [List.pairwise_iff_getElem]
   intro i j hi hj hij;rw [← ig_eq L i hi, ← ig_eq L j hj];exact h5 j hj i hij
theorem lines_iff2 {L : List Int} {len : Int} : linesB L len = true ↔ betB L.length 2 10 = true ∧ ∀ j, j < L.length → betB (ig L j) 0 len = true ∧ (0 < j → ig L (j - 1) < ig L j) := by
 rw [betB_iff]
 constructor
 ·intro h
  have h' := h;unfold linesB at h';rw [Bool.and_eq_true, Bool.and_eq_true, betB_iff, List.all_eq_true] at h';obtain ⟨h1, _, _, h4⟩ := lines_iff.1 h;refine ⟨h'.1, fun j hj => ⟨by rw [ig_eq L j hj]; exact h'.2.1 _ (List.getElem_mem hj), fun h0 => ?_⟩⟩;have := h4 (j - 1) (by omega)
  rwa [show j - 1 + 1 = j by omega] at this
 ·rintro ⟨h1, h2⟩
  refine lines_iff.2 ⟨by omega, (betB_iff.1 (h2 0 (by omega)).1).1, (betB_iff.1 (h2 (L.length - 1) (by omega)).1).2, fun j hj => ?_⟩;have := (h2 (j + 1) hj).2 (by omega)
  rwa [show j + 1 - 1 = j by omega] at this
theorem lines_any (a : Option Addr) (L : List Int) (cap : Nat) (len : Int) (w : World) (h : Nums w.heap.size w a L) :
  Calls Tryz.prog 127 #[.slice a L.length cap, .int .i64 len] w fun e w' => e = .returned (.bool (linesB L len)) ∧ Below w.heap.size w w' := by
 have HL := lh h;clear h;obtain ⟨R, hR⟩ := nm (linesB L len);have HI : Hid (R = true ↔ (2 ≤ L.length ∧ L.length ≤ 10) ∧ 0 ≤ ig L 0 ∧ ig L (L.length - 1) ≤ len ∧ ∀ j, j + 1 < L.length → ig L j < ig L (j + 1)) := lh (by rw [← hR]; exact lines_iff);rw [hR];clear hR
 cases hb : betB L.length 2 10
 ·have HB := lh hb
  have HR : Hid (R = false) := lh (by
   rw [Bool.eq_false_iff];intro q;have h1 := (HI.out.1 q).1;rw [betB_iff.2 (by omega)] at hb
   cases hb)
  clear hb
  go_enter Tryz.func127, Tryz.ntmps127
  go_wp2_with (first
   | (go_at_call 126; (with_reducible refine (betw_any (L.length : Int) 2 10 _).mono ?_); rintro e w1 ⟨rfl, rfl⟩; rw [HB.out]))
  go_ret;exact ⟨ret_bool HR.out.symm, br⟩
 have HB := lh hb;have hbd := betB_iff.1 hb;obtain ⟨b, off, rfl, hlt, hc⟩ := HL.out (by omega);have HC := lh hc;have HLT := lh hlt;obtain ⟨m, hm⟩ := nm (L.length - 1);have e0 := hc 0 (by omega);rw [Nat.add_zero] at e0;have eL := hc m (by omega);have z1 : (L.length : Int) - 1 = (m : Int) := by omega
 have z2 : (m : Int) < L.length := by omega
 have z3 : m < L.length := by omega
 rw [hm] at HI;obtain ⟨x, hx⟩ := nm (ig L 0);obtain ⟨y, hy⟩ := nm (ig L m);rw [hx] at e0 HI;rw [hy] at eL HI;clear hb hc hlt hm hx hy
 by_cases q1 : x < 0
 ·have g1 : decide (x < 0) = true := decide_eq_true q1
  have HR : Hid (R = false) := lh (by
   rw [Bool.eq_false_iff];intro q;have := (HI.out.1 q).2.1;omega)
  clear q1
  go_enter Tryz.func127, Tryz.ntmps127
  go_wp2_with (first
   | (go_at_call 126; (with_reducible refine (betw_any (L.length : Int) 2 10 _).mono ?_); rintro e w1 ⟨rfl, rfl⟩; rw [HB.out]))
  go_ret;exact ⟨ret_bool HR.out.symm, br⟩
 have g1 : decide (x < 0) = false := decide_eq_false q1
 by_cases q2 : len < y
 ·have g2 : decide (len < y) = true := decide_eq_true q2
  have HR : Hid (R = false) := lh (by
   rw [Bool.eq_false_iff];intro q;have := (HI.out.1 q).2.2.1;omega)
  clear q1 q2
  go_enter Tryz.func127, Tryz.ntmps127
  go_wp2_with (first
   | (go_at_call 126; (with_reducible refine (betw_any (L.length : Int) 2 10 _).mono ?_); rintro e w1 ⟨rfl, rfl⟩; rw [HB.out]))
  go_ret;exact ⟨ret_bool HR.out.symm, br⟩
 have g2 : decide (len < y) = false := decide_eq_false q2
 have HI2 : Hid (R = true ↔ ∀ j, j + 1 < L.length → ig L j < ig L (j + 1)) := lh (by
  rw [HI.out];exact ⟨fun h => h.2.2.2, fun h => ⟨by omega, by omega, by omega, h⟩⟩)
 clear q1 q2 HI
 go_enter Tryz.func127, Tryz.ntmps127
 go_wp2_with (first
  | (go_at_call 126; (with_reducible refine (betw_any (L.length : Int) 2 10 _).mono ?_); rintro e w1 ⟨rfl, rfl⟩; rw [HB.out]))
 clear g1 g2 z1 z2 z3 e0 eL
 go_loopw [5] (fun v wr => ∃ k : Nat, 1 ≤ k ∧ k ≤ L.length ∧ v = .int .i64 k ∧ Hid (∀ j, j + 1 < k → ig L j < ig L (j + 1)) ∧ Below w.heap.size w wr) (fun v _ => L.length - (intOf v).toNat)
 case atStart => exact ⟨1, Nat.le_refl _, by omega, rfl, lh (fun j hj => by omega), br⟩
 case round =>
  obtain ⟨k, hk1, hk, rfl, HA, hBB⟩ := hrel
  by_cases hlt : k < L.length
  ·obtain ⟨q, hq⟩ := nm (k - 1)
   have e1 := (hBB.cell (p := ⟨b, off + k, none⟩) HLT.out).trans (HC.out k hlt);have e2 := (hBB.cell (p := ⟨b, off + q, none⟩) HLT.out).trans (HC.out q (by omega));have hkq : k = q + 1 := by omega
   have HD : Hid (∀ p : Prop, (ig L q < ig L k → p) → (∀ j, j + 1 < k → ig L j < ig L (j + 1)) → p ∨ ¬ ig L q < ig L k) := lh fun p h _ => by
    by_cases c : ig L q < ig L k
    ·exact .inl (h c)
    ·exact .inr c
   have HN : Hid (ig L q < ig L k → ∀ j, j + 1 < k + 1 → ig L j < ig L (j + 1)) := lh fun h j hj => by
    rcases (show j + 1 < k ∨ j = q by omega) with l | l
    ·exact HA.out j l
    ·subst l; rw [← hkq]; exact h
   have HX : Hid (¬ ig L q < ig L k → R = false) := lh fun h => by
    rw [Bool.eq_false_iff];intro r;have := HI2.out.1 r q (by omega);rw [← hkq] at this;exact h this
   have z5 : (k : Int) - 1 = (q : Int) := by omega
   have z6 : (q : Int) < L.length := by omega
   have z7 : q < L.length := by omega
   have z8 : IntKind.i64.wrap ((k : Int) - 1) = (q : Int) := by rw [z5]; exact IntWalk.i64_in _ (by omega)
   have z9 : (k : Int) < L.length := by omega
   generalize ig L q = y' at *;generalize ig L k = x' at *;clear hq hkq HD
   by_cases c : y' < x'
   ·have g3 : decide (x' ≤ y') = false := dF (by omega)
    have HN2 := lh (HN.out c);clear c
    go_wp2_with (go_quiet (fail))
    go_roundw
    case rel => exact ⟨k + 1, by omega, by omega, by go_num, HN2, below_drewN hBB _⟩
    case measure => simp [intOf]; omega
   ·have g3 : decide (x' ≤ y') = true := dT (by omega)
    have HR := lh (HX.out c);clear c
    go_wp2_with (go_quiet (fail))
    go_ret;exact ⟨ret_bool HR.out.symm, below_drewN hBB _⟩
  ·obtain rfl : k = L.length := by omega
   have HR : Hid (R = true) := lh (HI2.out.2 HA.out)
   go_wp2_with fail
   go_ret;exact ⟨ret_bool HR.out.symm, hBB⟩
theorem okTo_iff {L : List BrickR} : ∀ {k : Nat}, k ≤ L.length → (okTo L k = true ↔ (∀ j, j < k → brick1 (bg L j) = true) ∧ ((L.take k).map (·.name)).Nodup)
 | 0, _ => by simp [okTo]
 | k + 1, hk => by
  have ih := okTo_iff (L := L) (k := k) (by omega);rw [brick_names_next L (show k < L.length by omega), List.nodup_append];simp only [okTo, Bool.and_eq_true, ih];unfold brickK;rw [Bool.and_eq_true, Bool.not_eq_true', brick_any_eq, Bool.eq_false_iff, Ne, List.any_eq_true]
  constructor
  ·rintro ⟨⟨a, b⟩, c, d⟩
   refine ⟨fun j hj => ?_, b, by simp, fun x hx y hy => ?_⟩
   ·rcases (show j < k ∨ j = k by omega) with l | l
    ·exact a j l
    ·subst l; exact c
   ·rw [List.mem_singleton] at hy
    subst hy;intro e
    apply d
    rw [List.mem_map] at hx;obtain ⟨r, hr, e2⟩ := hx;exact ⟨r, hr, by unfold sameN; rw [e2, e]; exact decide_eq_true rfl⟩
  ·rintro ⟨a, b, _, d⟩
   refine ⟨⟨fun j hj => a j (by omega), b⟩, a k (by omega), ?_⟩;rintro ⟨r, hr, e⟩;unfold sameN at e;rw [decide_eq_true_eq] at e;exact d r.name (List.mem_map.2 ⟨r, hr, rfl⟩) (bg L k).name (List.mem_singleton.2 rfl) e
theorem brickB_iff {L : List BrickR} : brickB L = true ↔ L.length ≤ 8 ∧ (L.map (·.name)).Nodup ∧ (∀ j, j < L.length → brick1 (bg L j) = true) ∧ cntTo L L.length ≤ 60 := by
 unfold brickB;rw [Bool.and_eq_true, Bool.and_eq_true, decide_eq_true_eq, decide_eq_true_eq, okTo_iff (Nat.le_refl _), List.take_length]
 constructor
 ·rintro ⟨a, ⟨b, c⟩, d⟩; exact ⟨a, c, b, d⟩
 ·rintro ⟨a, c, b, d⟩; exact ⟨a, ⟨b, c⟩, d⟩
theorem brick1_eq (r : BrickR) : brick1 r = (isNameB r.name && (betB r.weight 1 1048576 && betB r.count 0 60)) := by
 rw [Bool.eq_iff_iff, brick1_iff];simp only [Bool.and_eq_true, betB_iff]
 constructor
 ·rintro ⟨a, b, c, d, e⟩; exact ⟨a, ⟨b, c⟩, d, e⟩
 ·rintro ⟨a, ⟨b, c⟩, d, e⟩; exact ⟨a, b, c, d, e⟩
theorem cnt_bd2 {L : List BrickR} : ∀ {k : Nat}, (∀ j, j < k → brick1 (bg L j) = true) → 0 ≤ cntTo L k ∧ cntTo L k ≤ 60 * k
 | 0, _ => by simp [cntTo]
 | k + 1, h => by
  obtain ⟨a, b⟩ := cnt_bd2 (L := L) (k := k) fun j hj => h j (by omega);obtain ⟨_, _, _, c, d⟩ := (brick1_iff _).1 (h k (by omega));simp only [cntTo];omega
theorem bricks_any (a : Option Addr) (L : List BrickR) (cap : Nat) (w : World) (hsz : ∀ x ∈ L, x.name.size ≤ 1000) (h : Bricks w.heap.size w a L) :
  Calls Tryz.prog 129 #[.slice a L.length cap] w fun e w' => e = .returned (.bool (brickB L)) ∧ Below w.heap.size w w' := by
 have HU := lh h;have HSZ := lh hsz;clear h hsz;obtain ⟨R, hR⟩ := nm (brickB L);have HI : Hid (R = true ↔ L.length ≤ 8 ∧ (L.map (·.name)).Nodup ∧ (∀ j, j < L.length → brick1 (bg L j) = true) ∧ cntTo L L.length ≤ 60) := lh (by rw [← hR]; exact brickB_iff);rw [hR];clear hR
 by_cases q : 8 < L.length
 ·have HR : Hid (R = false) := lh (by
   rw [Bool.eq_false_iff];intro h;have := (HI.out.1 h).1;omega)
  have g : decide ((8 : Int) < L.length) = true := dT (by omega);have g' : decide (8 < L.length) = true := dT (by omega);clear q
  go_enter Tryz.func129, Tryz.ntmps129
  go_wp2_with fail
  go_ret;exact ⟨ret_bool HR.out.symm, br⟩
 have g : decide ((8 : Int) < L.length) = false := dF (by omega);have g' : decide (8 < L.length) = false := dF (by omega);have hq : L.length ≤ 8 := by omega
 clear q
 cases ht : twiceB (L.map (·.name))
 case true =>
  have HT := lh ht
  have HR : Hid (R = false) := lh (by
   rw [Bool.eq_false_iff];intro h;exact (of_decide_eq_true ht) (HI.out.1 h).2.1)
  clear ht
  go_enter Tryz.func129, Tryz.ntmps129
  go_wp2_with (first
   | (go_at_call 145; (with_reducible refine (brick_twice a L cap w.heap.size _ (Nat.le_refl _) (by omega) HSZ.out HU.out).mono ?_); rintro e w1 ⟨rfl, hb1⟩; rw [HT.out]))
  go_ret;exact ⟨ret_bool HR.out.symm, hb1⟩
 have HT := lh ht
 have HI2 : Hid (R = true ↔ (∀ j, j < L.length → brick1 (bg L j) = true) ∧ cntTo L L.length ≤ 60) := lh (by
  rw [HI.out];have hn : (L.map (·.name)).Nodup := Classical.not_not.1 (of_decide_eq_false ht);exact ⟨fun h => ⟨h.2.2.1, h.2.2.2⟩, fun h => ⟨hq, hn, h.1, h.2⟩⟩)
 clear ht HI
 go_enter Tryz.func129, Tryz.ntmps129
 go_wp2_with (first
  | (go_at_call 145; (with_reducible refine (brick_twice a L cap w.heap.size _ (Nat.le_refl _) (by omega) HSZ.out HU.out).mono ?_); rintro e w1 ⟨rfl, hb1⟩; rw [HT.out]))
 go_loopw [3, 15] (fun s i wr => ∃ k : Nat, k ≤ L.length ∧ i = .int .i64 k ∧ s = .int .i64 (cntTo L k) ∧ Hid (∀ j, j < k → brick1 (bg L j) = true) ∧ Below w.heap.size w wr) (fun _ i _ => L.length - (intOf i).toNat)
 case atStart => exact ⟨0, Nat.zero_le _, rfl, rfl, lh (fun j hj => by omega), hb1⟩
 case round =>
  obtain ⟨k, hk, rfl, rfl, HO, hB⟩ := hrel
  by_cases hlt : k < L.length
  ·obtain ⟨b, off, rfl, hb, hc⟩ := HU.out (by omega)
   obtain ⟨e0, e1, e2⟩ := hc k hlt;have c0 := (hB.cell (p := ⟨b, off + k * 3, none⟩) hb).trans e0;have c1 := (hB.cell (p := ⟨b, off + k * 3 + 1, none⟩) hb).trans e1;have c2 := (hB.cell (p := ⟨b, off + k * 3 + 2, none⟩) hb).trans e2;have hbd := cnt_bd2 HO.out;have HC : Hid (cntTo L (k + 1) = cntTo L k + (bg L k).count) := lh rfl
   have HN : Hid (brick1 (bg L k) = false → R = false) := lh fun h => by
    rw [Bool.eq_false_iff];intro q;rw [(HI2.out.1 q).1 k hlt] at h;cases h
   have HY : Hid (brick1 (bg L k) = true → ∀ j, j < k + 1 → brick1 (bg L j) = true) := lh fun h j hj => by
    rcases (show j < k ∨ j = k by omega) with l | l
    ·exact HO.out j l
    ·subst l; exact h
   generalize cntTo L k = s at *;generalize bg L k = r at *;clear hc e0 e1 e2;have hB2 := hB.alloc hB.size (.cells #[.string r.name, .int .i64 r.weight, .int .i64 r.count] 133)
   cases h0 : isNameB r.name
   ·have HR : Hid ((isNameB r.name && (betB r.weight 1 1048576 && betB r.count 0 60)) = false) := lh (by simp only [h0, Bool.false_and])
    have H0 := lh h0;clear h0;have HZ := lh (HN.out (by rw [brick1_eq]; exact HR.out));clear HN HY
    go_wp2_with (first
     | (go_at_call 100; (with_reducible refine (isName_any r.name _).mono ?_); rintro e w1 ⟨rfl, rfl⟩; rw [H0.out])
     | (go_at_call 126; (with_reducible refine (betw_any r.weight 1 1048576 _).mono ?_); rintro e w1 ⟨rfl, rfl⟩; rw [H1.out])
     | (go_at_call 126; (with_reducible refine (betw_any r.count 0 60 _).mono ?_); rintro e w1 ⟨rfl, rfl⟩; rw [H2.out]))
    go_ret;exact ⟨ret_bool HZ.out.symm, hB2⟩
   cases h1 : betB r.weight 1 1048576
   ·have HR : Hid ((isNameB r.name && (betB r.weight 1 1048576 && betB r.count 0 60)) = false) := lh (by simp only [h0, h1, Bool.true_and, Bool.false_and])
    have H0 := lh h0;have H1 := lh h1;clear h0 h1;have HZ := lh (HN.out (by rw [brick1_eq]; exact HR.out));clear HN HY
    go_wp2_with (first
     | (go_at_call 100; (with_reducible refine (isName_any r.name _).mono ?_); rintro e w1 ⟨rfl, rfl⟩; rw [H0.out])
     | (go_at_call 126; (with_reducible refine (betw_any r.weight 1 1048576 _).mono ?_); rintro e w1 ⟨rfl, rfl⟩; rw [H1.out])
     | (go_at_call 126; (with_reducible refine (betw_any r.count 0 60 _).mono ?_); rintro e w1 ⟨rfl, rfl⟩; rw [H2.out]))
    go_ret;exact ⟨ret_bool HZ.out.symm, hB2⟩
   cases h2 : betB r.count 0 60
   ·have HR : Hid ((isNameB r.name && (betB r.weight 1 1048576 && betB r.count 0 60)) = false) := lh (by simp only [h0, h1, h2, Bool.true_and])
    have H0 := lh h0;have H1 := lh h1;have H2 := lh h2;clear h0 h1 h2;have HZ := lh (HN.out (by rw [brick1_eq]; exact HR.out));clear HN HY
    go_wp2_with (first
     | (go_at_call 100; (with_reducible refine (isName_any r.name _).mono ?_); rintro e w1 ⟨rfl, rfl⟩; rw [H0.out])
     | (go_at_call 126; (with_reducible refine (betw_any r.weight 1 1048576 _).mono ?_); rintro e w1 ⟨rfl, rfl⟩; rw [H1.out])
     | (go_at_call 126; (with_reducible refine (betw_any r.count 0 60 _).mono ?_); rintro e w1 ⟨rfl, rfl⟩; rw [H2.out]))
    go_ret;exact ⟨ret_bool HZ.out.symm, hB2⟩
   have HR : Hid ((isNameB r.name && (betB r.weight 1 1048576 && betB r.count 0 60)) = true) := lh (by simp only [h0, h1, h2, Bool.and_self]);have H0 := lh h0;have H1 := lh h1;have H2 := lh h2;have h2x := h2;clear h0 h1 h2;have HYY := lh (HY.out (by rw [brick1_eq]; exact HR.out));have hbb := betB_iff.1 h2x;have t1 : IntKind.i64.wrap (s + r.count) = s + r.count := IntWalk.i64_in _ (by omega);clear HN HY h2x
   go_wp2_with (first
    | (go_at_call 100; (with_reducible refine (isName_any r.name _).mono ?_); rintro e w1 ⟨rfl, rfl⟩; rw [H0.out])
    | (go_at_call 126; (with_reducible refine (betw_any r.weight 1 1048576 _).mono ?_); rintro e w1 ⟨rfl, rfl⟩; rw [H1.out])
    | (go_at_call 126; (with_reducible refine (betw_any r.count 0 60 _).mono ?_); rintro e w1 ⟨rfl, rfl⟩; rw [H2.out]))
   go_roundw
   case rel => exact ⟨k + 1, by omega, by go_num, by rw [HC.out], HYY, hB2⟩
   case measure => simp [intOf]; omega
  ·obtain rfl : k = L.length := by omega
   have HF : Hid (decide (cntTo L L.length ≤ 60) = R) := lh (by
    rw [Bool.eq_iff_iff, decide_eq_true_eq, HI2.out];exact ⟨fun h => ⟨HO.out, h⟩, fun h => h.2⟩)
   go_wp2_with fail
   go_ret;exact ⟨ret_bool HF.out, hB⟩
theorem item_contains_n (a : Option Addr) (M : List ItemR) (n cap n₀ g : Nat) (cb : Array Value) (p : ItemR → Bool) (w : World) (hn : n = M.length) (eg : ∀ args w, (callFunc g args).run Tryz.prog w = .ok (.enter g args) w)
  (hl : n ≤ 1100) (hn₀ : n₀ ≤ w.heap.size) (hI : Items n₀ w a M) (hp : AsksI g cb n₀ w p) :
  Calls Tryz.prog 142 #[.slice a n cap, .func (.func g) #[] cb] w fun e w' => e = .returned (.bool (item_any M p)) ∧ Below w.heap.size w w' := by
 subst hn;exact item_containsFunc a M cap n₀ g cb p w eg hl hn₀ hI hp
theorem tg_take {I : List ItemR} {k j : Nat} (h : j < k) : tg (I.take k) j = tg I j := by
 unfold tg;rw [List.getElem?_take, if_pos h]
theorem items_iff2 {I : List ItemR} {len : Int} : itemsB I len = true ↔ I.length ≤ 40 ∧ (I.map (·.name)).Nodup ∧ (∀ j, j < I.length → item1 len (tg I j) = true) ∧ ∀ j, j < I.length → ∀ i, i < j → apartB (tg I i) (tg I j) = true := by
 rw [items_iff]
 have hm : (∀ x ∈ I, item1 len x = true) ↔ ∀ j, j < I.length → item1 len (tg I j) = true := by
  constructor
  ·intro h j hj
   rw [tg_eq I j hj];exact h _ (List.getElem_mem hj)
  ·intro h x hx
   obtain ⟨j, hj, rfl⟩ := List.getElem_of_mem hx;rw [← tg_eq I j hj];exact h j hj
 rw [hm, List.Nodup, List.pairwise_map]
 constructor
 ·rintro ⟨a, b, c⟩
  refine ⟨a, c.imp fun h => h.1, b, fun j hj i hi => ?_⟩;rw [tg_eq I i (by omega), tg_eq I j hj];exact (List.pairwise_iff_getElem.1 c i j _ _ hi).2
 ·rintro ⟨a, b, c, d⟩
  refine ⟨a, c, List.pairwise_iff_getElem.2 fun i j hi hj hij => ⟨List.pairwise_iff_getElem.1 b i j hi hj hij, ?_⟩⟩;have := d j hj i hij
  rwa [tg_eq I i hi, tg_eq I j hj] at this
theorem apart_take {I : List ItemR} {k : Nat} {r : ItemR} {len : Int} (hk : k ≤ I.length) (hlen : 0 ≤ len ∧ len ≤ 1048576) (hr : item1 len r = true) (hI : ∀ j, j < k → item1 len (tg I j) = true) :
  item_any (I.take k) (fun y => !apartW r y) = false ↔ ∀ i, i < k → apartB (tg I i) r = true := by
 have hT : (I.take k).length = k := by rw [List.length_take]; omega
 rw [item_any_eq, Bool.eq_false_iff, Ne, List.any_eq_true]
 constructor
 ·intro h i hi
  cases q : apartB (tg I i) r
  ·exfalso
   apply h
   refine ⟨tg I i, ?_, ?_⟩
   ·rw [← tg_take hi, tg_eq (I.take k) i (by omega)]
    exact List.getElem_mem _
   ·rw [apartW_is hr (hI i hi) hlen, apart_symm, q]; rfl
  ·rfl
 ·rintro h ⟨x, hx, e⟩
  obtain ⟨i, hi, rfl⟩ := List.getElem_of_mem hx;rw [← tg_eq (I.take k) i hi, tg_take (by omega), apartW_is hr (hI i (by omega)) hlen, apart_symm, h i (by omega)] at e
  cases e
theorem items_any (a : Option Addr) (I : List ItemR) (cap : Nat) (len : Int) (w : World) (hlen : 0 ≤ len ∧ len ≤ 1048576) (hcap : I.length ≤ cap) (hsz : ∀ x ∈ I, x.name.size ≤ 1000) (h : Items w.heap.size w a I) :
  Calls Tryz.prog 128 #[.slice a I.length cap, .int .i64 len] w fun e w' => e = .returned (.bool (itemsB I len)) ∧ Below w.heap.size w w' := by
 have HU := lh h;have HSZ := lh hsz;clear h hsz;obtain ⟨R, hR⟩ := nm (itemsB I len);have HI : Hid (R = true ↔ I.length ≤ 40 ∧ (I.map (·.name)).Nodup ∧ (∀ j, j < I.length → item1 len (tg I j) = true) ∧ ∀ j, j < I.length → ∀ i, i < j → apartB (tg I i) (tg I j) = true) := lh (by rw [← hR]; exact items_iff2);rw [hR];clear hR
 by_cases q : 40 < I.length
 ·have HR : Hid (R = false) := lh (by
   rw [Bool.eq_false_iff];intro h;have := (HI.out.1 h).1;omega)
  have g : decide ((40 : Int) < I.length) = true := dT (by omega);have g' : decide (40 < I.length) = true := dT (by omega);clear q
  go_enter Tryz.func128, Tryz.ntmps128
  go_wp2_with fail
  go_ret;exact ⟨ret_bool HR.out.symm, br⟩
 have g : decide ((40 : Int) < I.length) = false := dF (by omega);have g' : decide (40 < I.length) = false := dF (by omega);have hq : I.length ≤ 40 := by omega
 clear q
 cases ht : twiceB (I.map (·.name))
 case true =>
  have HT := lh ht
  have HR : Hid (R = false) := lh (by
   rw [Bool.eq_false_iff];intro h;exact (of_decide_eq_true ht) (HI.out.1 h).2.1)
  clear ht
  go_enter Tryz.func128, Tryz.ntmps128
  go_wp2_with (first
   | (go_at_call 138; (with_reducible refine (item_twice a I cap w.heap.size _ (Nat.le_refl _) (by omega) HSZ.out HU.out).mono ?_); rintro e w1 ⟨rfl, hb1⟩; rw [HT.out]))
  go_ret;exact ⟨ret_bool HR.out.symm, hb1⟩
 have HT := lh ht
 have HI2 : Hid (R = true ↔ (∀ j, j < I.length → item1 len (tg I j) = true) ∧ ∀ j, j < I.length → ∀ i, i < j → apartB (tg I i) (tg I j) = true) := lh (by
  rw [HI.out];have hn : (I.map (·.name)).Nodup := Classical.not_not.1 (of_decide_eq_false ht);exact ⟨fun h => ⟨h.2.2.1, h.2.2.2⟩, fun h => ⟨hq, hn, h.1, h.2⟩⟩)
 clear ht HI
 go_enter Tryz.func128, Tryz.ntmps128
 go_wp2_with (first
  | (go_at_call 138; (with_reducible refine (item_twice a I cap w.heap.size _ (Nat.le_refl _) (by omega) HSZ.out HU.out).mono ?_); rintro e w1 ⟨rfl, hb1⟩; rw [HT.out]))
 go_loopw [16] (fun i wr => ∃ k : Nat, k ≤ I.length ∧ i = .int .i64 k ∧ Hid ((∀ j, j < k → item1 len (tg I j) = true) ∧ ∀ j, j < k → ∀ i, i < j → apartB (tg I i) (tg I j) = true) ∧ Below w.heap.size w wr) (fun i _ => I.length - (intOf i).toNat)
 case atStart => exact ⟨0, Nat.zero_le _, rfl, lh ⟨fun j hj => by omega, fun j hj => by omega⟩, hb1⟩
 case round =>
  obtain ⟨k, hk, rfl, HO, hB⟩ := hrel
  by_cases hlt : k < I.length
  ·obtain ⟨b, off, rfl, hb, hc⟩ := HU.out (by omega)
   obtain ⟨e0, e1, e2, e3, e4, e5, e6⟩ := hc k hlt;have c0 := (hB.cell (p := ⟨b, _, none⟩) hb).trans e0;have c1 := (hB.cell (p := ⟨b, _, none⟩) hb).trans e1;have c2 := (hB.cell (p := ⟨b, _, none⟩) hb).trans e2;have c3 := (hB.cell (p := ⟨b, _, none⟩) hb).trans e3;have c4 := (hB.cell (p := ⟨b, _, none⟩) hb).trans e4;have c5 := (hB.cell (p := ⟨b, _, none⟩) hb).trans e5;have c6 := (hB.cell (p := ⟨b, _, none⟩) hb).trans e6
   have HN1 : Hid (item1 len (tg I k) = false → R = false) := lh fun h => by
    rw [Bool.eq_false_iff];intro q;rw [(HI2.out.1 q).1 k hlt] at h;cases h
   have HT0 : Hid (item1 len (tg I k) = true → (item_any (I.take k) (fun y => !apartW (tg I k) y) = false ↔ ∀ i, i < k → apartB (tg I i) (tg I k) = true)) := lh fun h => apart_take (by omega) hlen h HO.out.1
   have HN2 : Hid (item1 len (tg I k) = true → item_any (I.take k) (fun y => !apartW (tg I k) y) = true → R = false) := lh fun h h2 => by
    rw [Bool.eq_false_iff];intro q;rw [(HT0.out h).2 fun i hi => (HI2.out.1 q).2 k hlt i hi] at h2
    cases h2
   have HY : Hid (item1 len (tg I k) = true → item_any (I.take k) (fun y => !apartW (tg I k) y) = false → (∀ j, j < k + 1 → item1 len (tg I j) = true) ∧ ∀ j, j < k + 1 → ∀ i, i < j → apartB (tg I i) (tg I j) = true) := lh fun h h2 => by
    refine ⟨fun j hj => ?_, fun j hj i hi => ?_⟩
    ·rcases (show j < k ∨ j = k by omega) with l | l
     ·exact HO.out.1 j l
     ·subst l; exact h
    ·rcases (show j < k ∨ j = k by omega) with l | l
     ·exact HO.out.2 j l i hi
     ·subst l; exact (HT0.out h).1 h2 i hi
   have hTl : k = (I.take k).length := by rw [List.length_take]; omega
   have HTL := lh hTl;have k1 : k ≤ cap := by omega
   have k2 : (k : Int) ≤ (cap : Int) := by omega
   generalize tg I k = r at *;have hB2' := hB.alloc hB.size (.cells #[.string r.name, .int .i64 r.pos, .int .i64 r.width, .int .i64 r.weight, .int .i64 r.hang, .int .i64 r.front, .int .i64 r.back] 131);have HAT := ItemAt.new wr r 131;have hz : wr.heap.size < (wr.alloc (.cells #[.string r.name, .int .i64 r.pos, .int .i64 r.width, .int .i64 r.weight, .int .i64 r.hang, .int .i64 r.front, .int .i64 r.back] 131)).heap.size := by simp
   have HIT : Hid (∀ wx, Below (wr.alloc (.cells #[.string r.name, .int .i64 r.pos, .int .i64 r.width, .int .i64 r.weight, .int .i64 r.hang, .int .i64 r.front, .int .i64 r.back] 131)).heap.size (wr.alloc (.cells #[.string r.name, .int .i64 r.pos, .int .i64 r.width, .int .i64 r.weight, .int .i64 r.hang, .int .i64 r.front, .int .i64 r.back] 131)) wx → Items wx.heap.size wx (some ⟨b, off, none⟩) (I.take k)) := lh fun wx h => (((HU.out.take k).below (hB2'.trans (h.mono hB2'.size))).mono (Nat.le_trans hB2'.size h.size));have HX : Hid (∀ wx, Below (wr.alloc (.cells #[.string r.name, .int .i64 r.pos, .int .i64 r.width, .int .i64 r.weight, .int .i64 r.hang, .int .i64 r.front, .int .i64 r.back] 131)).heap.size (wr.alloc (.cells #[.string r.name, .int .i64 r.pos, .int .i64 r.width, .int .i64 r.weight, .int .i64 r.hang, .int .i64 r.front, .int .i64 r.back] 131)) wx → Below w.heap.size w wx) := lh fun wx h => hB2'.trans (h.mono hB2'.size);have HAK : Hid (∀ wx, Below (wr.alloc (.cells #[.string r.name, .int .i64 r.pos, .int .i64 r.width, .int .i64 r.weight, .int .i64 r.hang, .int .i64 r.front, .int .i64 r.back] 131)).heap.size (wr.alloc (.cells #[.string r.name, .int .i64 r.pos, .int .i64 r.width, .int .i64 r.weight, .int .i64 r.hang, .int .i64 r.front, .int .i64 r.back] 131)) wx → AsksI 143 #[.pointer (some ⟨wr.heap.size, 0, none⟩)] wx.heap.size wx (fun y => !apartW r y)) := lh fun wx h => asks_apart (HAT.below h hz) (Nat.lt_of_lt_of_le hz h.size);have HCX : Hid (∀ wx, Below (wr.alloc (.cells #[.string r.name, .int .i64 r.pos, .int .i64 r.width, .int .i64 r.weight, .int .i64 r.hang, .int .i64 r.front, .int .i64 r.back] 131)).heap.size (wr.alloc (.cells #[.string r.name, .int .i64 r.pos, .int .i64 r.width, .int .i64 r.weight, .int .i64 r.hang, .int .i64 r.front, .int .i64 r.back] 131)) wx → ItemAt wx wr.heap.size r) := lh fun wx h => HAT.below h hz;clear hc e0 e1 e2 e3 e4 e5 e6 HO HT0 hTl HAT hB2'
   go_wp2_with fail
   generalize (wr.alloc (.cells #[.string r.name, .int .i64 r.pos, .int .i64 r.width, .int .i64 r.weight, .int .i64 r.hang, .int .i64 r.front, .int .i64 r.back] 131)) = W1 at *;have hB1 := Below.refl W1.heap.size W1;have x0 : ∀ wx, Below W1.heap.size W1 wx → wx.cell? ⟨wr.heap.size, 0, none⟩ = some (.string r.name) := fun wx h => (HCX.out wx h).1;have x1 : ∀ wx, Below W1.heap.size W1 wx → wx.cell? ⟨wr.heap.size, 1, none⟩ = some (.int .i64 r.pos) := fun wx h => (HCX.out wx h).2.1;have x2 : ∀ wx, Below W1.heap.size W1 wx → wx.cell? ⟨wr.heap.size, 2, none⟩ = some (.int .i64 r.width) := fun wx h => (HCX.out wx h).2.2.1;have x3 : ∀ wx, Below W1.heap.size W1 wx → wx.cell? ⟨wr.heap.size, 3, none⟩ = some (.int .i64 r.weight) := fun wx h => (HCX.out wx h).2.2.2.1;have x4 : ∀ wx, Below W1.heap.size W1 wx → wx.cell? ⟨wr.heap.size, 4, none⟩ = some (.int .i64 r.hang) := fun wx h => (HCX.out wx h).2.2.2.2.1;have x5 : ∀ wx, Below W1.heap.size W1 wx → wx.cell? ⟨wr.heap.size, 5, none⟩ = some (.int .i64 r.front) := fun wx h => (HCX.out wx h).2.2.2.2.2.1;have x6 : ∀ wx, Below W1.heap.size W1 wx → wx.cell? ⟨wr.heap.size, 6, none⟩ = some (.int .i64 r.back) := fun wx h => (HCX.out wx h).2.2.2.2.2.2;clear c0 c1 c2 c3 c4 c5 c6 HCX
   cases h0 : aloneB r
   ·have HR : Hid ((aloneB r && (insideB r len && !item_any (I.take k) (fun y => !apartW r y))) = false) := lh (by simp only [h0, Bool.false_and])
    have H0 := lh h0;clear h0;have HZ := lh (HN1.out (by unfold item1; rw [H0.out]; rfl));clear HN1 HN2 HY
    go_wp2_with (first
     | (go_at_call 140; (with_reducible refine (alone_any r _).mono ?_); rintro e w2 ⟨rfl, hb⟩; rw [H0.out]; have hB2 := hB1.trans (hb.mono hB1.size); clear hb)
     | (go_at_call 141; (with_reducible refine (inside_any r len _ hlen).mono ?_); rintro e w3 ⟨rfl, hb⟩; rw [H1.out]; have hB3 := hB2.trans (hb.mono hB2.size); clear hb)
     | (go_at_call 142; (with_reducible refine (item_contains_n (some ⟨b, off, none⟩) (I.take k) k cap _ _ _ (fun y => !apartW r y) _ HTL.out ent_apart (by omega) (Nat.le_refl _) (HIT.out _ hB3) (HAK.out _ hB3)).mono ?_); rintro e w4 ⟨rfl, hb⟩; rw [H2.out]; have hB4 := hB3.trans (hb.mono hB3.size); clear hb))
    go_ret;exact ⟨ret_bool HZ.out.symm, HX.out _ hB2⟩
   cases h1 : insideB r len
   ·have HR : Hid ((aloneB r && (insideB r len && !item_any (I.take k) (fun y => !apartW r y))) = false) := lh (by simp only [h0, h1, Bool.true_and, Bool.false_and])
    have H0 := lh h0;have H1 := lh h1;clear h0 h1;have HZ := lh (HN1.out (by unfold item1; rw [H0.out, H1.out]; rfl));clear HN1 HN2 HY
    go_wp2_with (first
     | (go_at_call 140; (with_reducible refine (alone_any r _).mono ?_); rintro e w2 ⟨rfl, hb⟩; rw [H0.out]; have hB2 := hB1.trans (hb.mono hB1.size); clear hb)
     | (go_at_call 141; (with_reducible refine (inside_any r len _ hlen).mono ?_); rintro e w3 ⟨rfl, hb⟩; rw [H1.out]; have hB3 := hB2.trans (hb.mono hB2.size); clear hb)
     | (go_at_call 142; (with_reducible refine (item_contains_n (some ⟨b, off, none⟩) (I.take k) k cap _ _ _ (fun y => !apartW r y) _ HTL.out ent_apart (by omega) (Nat.le_refl _) (HIT.out _ hB3) (HAK.out _ hB3)).mono ?_); rintro e w4 ⟨rfl, hb⟩; rw [H2.out]; have hB4 := hB3.trans (hb.mono hB3.size); clear hb))
    go_ret;exact ⟨ret_bool HZ.out.symm, HX.out _ hB3⟩
   cases h2 : !item_any (I.take k) (fun y => !apartW r y)
   ·have HR : Hid ((aloneB r && (insideB r len && !item_any (I.take k) (fun y => !apartW r y))) = false) := lh (by simp only [h0, h1, h2, Bool.true_and])
    have H0 := lh h0;have H1 := lh h1;have H2 := lh h2;clear h0 h1 h2;have HZ := lh (HN2.out (by unfold item1; rw [H0.out, H1.out]; rfl) (by have := H2.out; simpa using this));have H2 : Hid (item_any (I.take k) (fun y => !apartW r y) = true) := lh (by have := H2.out; simpa using this);clear HN1 HN2 HY
    go_wp2_with (first
     | (go_at_call 140; (with_reducible refine (alone_any r _).mono ?_); rintro e w2 ⟨rfl, hb⟩; rw [H0.out]; have hB2 := hB1.trans (hb.mono hB1.size); clear hb)
     | (go_at_call 141; (with_reducible refine (inside_any r len _ hlen).mono ?_); rintro e w3 ⟨rfl, hb⟩; rw [H1.out]; have hB3 := hB2.trans (hb.mono hB2.size); clear hb)
     | (go_at_call 142; (with_reducible refine (item_contains_n (some ⟨b, off, none⟩) (I.take k) k cap _ _ _ (fun y => !apartW r y) _ HTL.out ent_apart (by omega) (Nat.le_refl _) (HIT.out _ hB3) (HAK.out _ hB3)).mono ?_); rintro e w4 ⟨rfl, hb⟩; rw [H2.out]; have hB4 := hB3.trans (hb.mono hB3.size); clear hb))
    go_ret;exact ⟨ret_bool HZ.out.symm, HX.out _ hB4⟩
   have HR : Hid ((aloneB r && (insideB r len && !item_any (I.take k) (fun y => !apartW r y))) = true) := lh (by simp only [h0, h1, h2, Bool.and_self]);have H0 := lh h0;have H1 := lh h1;have H2 := lh h2;clear h0 h1 h2;have HYY := lh (HY.out (by unfold item1; rw [H0.out, H1.out]; rfl) (by have := H2.out; simpa using this));have H2 : Hid (item_any (I.take k) (fun y => !apartW r y) = false) := lh (by have := H2.out; simpa using this);clear HN1 HN2 HY
   go_wp2_with (first
    | (go_at_call 140; (with_reducible refine (alone_any r _).mono ?_); rintro e w2 ⟨rfl, hb⟩; rw [H0.out]; have hB2 := hB1.trans (hb.mono hB1.size); clear hb)
    | (go_at_call 141; (with_reducible refine (inside_any r len _ hlen).mono ?_); rintro e w3 ⟨rfl, hb⟩; rw [H1.out]; have hB3 := hB2.trans (hb.mono hB2.size); clear hb)
    | (go_at_call 142; (with_reducible refine (item_contains_n (some ⟨b, off, none⟩) (I.take k) k cap _ _ _ (fun y => !apartW r y) _ HTL.out ent_apart (by omega) (Nat.le_refl _) (HIT.out _ hB3) (HAK.out _ hB3)).mono ?_); rintro e w4 ⟨rfl, hb⟩; rw [H2.out]; have hB4 := hB3.trans (hb.mono hB3.size); clear hb))
   go_roundw
   case rel => exact ⟨k + 1, by omega, by go_num, HYY, HX.out _ hB4⟩
   case measure => simp [intOf]; omega
  ·obtain rfl : k = I.length := by omega
   have HF : Hid (R = true) := lh (HI2.out.2 HO.out)
   go_wp2_with fail
   go_ret;exact ⟨ret_bool HF.out.symm, hB⟩
end
section
open Go.RowKit Go.Shelf
structure SetIn0 (w : World) (r : SetR) : Prop where
 lines : Nums w.heap.size w r.la r.lines
 items : Items w.heap.size w r.ia r.items
 bricks : Bricks w.heap.size w r.ba r.bricks
 lcap : r.lines.length ≤ r.lc
 icap : r.items.length ≤ r.ic
 bcap : r.bricks.length ≤ r.bc
 lnil : r.la = none → r.lc = 0
 inil : r.ia = none → r.ic = 0
 bnil : r.ba = none → r.bc = 0
structure SetIn (w : World) (r : SetR) : Prop extends SetIn0 w r where
 inames : ∀ x ∈ r.items, x.name.size ≤ 1000
 bnames : ∀ x ∈ r.bricks, x.name.size ≤ 1000
theorem SetIn0.grow {w w' : World} {r : SetR} (h : SetIn0 w r) (hb : Below w.heap.size w w') : SetIn0 w' r :=
 ⟨h.lines.grow hb, h.items.grow hb, h.bricks.grow hb, h.lcap, h.icap, h.bcap, h.lnil, h.inil, h.bnil⟩
theorem SetIn.grow {w w' : World} {r : SetR} (h : SetIn w r) (hb : Below w.heap.size w w') : SetIn w' r :=
 ⟨h.toSetIn0.grow hb, h.inames, h.bnames⟩
def SetAt (w : World) (b : Nat) (r : SetR) : Prop := w.cell? ⟨b, 0, none⟩ = some (.string r.name) ∧ w.cell? ⟨b, 1, none⟩ = some (.int .i64 r.depth) ∧ w.cell? ⟨b, 2, none⟩ = some (.int .i64 r.low) ∧ w.cell? ⟨b, 3, none⟩ = some (.int .i64 r.high) ∧ w.cell? ⟨b, 4, none⟩ = some (.int .i64 r.length) ∧ w.cell? ⟨b, 5, none⟩ = some (.slice r.la r.lines.length r.lc) ∧ w.cell? ⟨b, 6, none⟩ = some (.int .i64 r.pipe) ∧ w.cell? ⟨b, 7, none⟩ = some (.int .i64 r.arbor) ∧ w.cell? ⟨b, 8, none⟩ = some (.int .i64 r.purchase) ∧ w.cell? ⟨b, 9, none⟩ = some (.int .i64 r.most) ∧ w.cell? ⟨b, 10, none⟩ = some (.int .i64 r.brake) ∧ w.cell? ⟨b, 11, none⟩ = some (.slice r.ia r.items.length r.ic) ∧ w.cell? ⟨b, 12, none⟩ = some (.slice r.ba r.bricks.length r.bc)
theorem SetAt.below {w w' : World} {b : Nat} {r : SetR} (h : SetAt w b r) (hb : Below w.heap.size w w') (hlt : b < w.heap.size) : SetAt w' b r :=
 let ⟨a0, a1, a2, a3, a4, a5, a6, a7, a8, a9, a10, a11, a12⟩ := h
 ⟨(hb.cell (p := ⟨b, 0, none⟩) hlt).trans a0, (hb.cell (p := ⟨b, 1, none⟩) hlt).trans a1, (hb.cell (p := ⟨b, 2, none⟩) hlt).trans a2, (hb.cell (p := ⟨b, 3, none⟩) hlt).trans a3, (hb.cell (p := ⟨b, 4, none⟩) hlt).trans a4, (hb.cell (p := ⟨b, 5, none⟩) hlt).trans a5, (hb.cell (p := ⟨b, 6, none⟩) hlt).trans a6, (hb.cell (p := ⟨b, 7, none⟩) hlt).trans a7, (hb.cell (p := ⟨b, 8, none⟩) hlt).trans a8, (hb.cell (p := ⟨b, 9, none⟩) hlt).trans a9, (hb.cell (p := ⟨b, 10, none⟩) hlt).trans a10, (hb.cell (p := ⟨b, 11, none⟩) hlt).trans a11, (hb.cell (p := ⟨b, 12, none⟩) hlt).trans a12⟩
theorem SetAt.new (w : World) (r : SetR) (t : TypeId) : SetAt (w.alloc (.cells #[.string r.name, .int .i64 r.depth, .int .i64 r.low, .int .i64 r.high, .int .i64 r.length, .slice r.la r.lines.length r.lc, .int .i64 r.pipe, .int .i64 r.arbor, .int .i64 r.purchase, .int .i64 r.most, .int .i64 r.brake, .slice r.ia r.items.length r.ic, .slice r.ba r.bricks.length r.bc] t)) w.heap.size r := by
 unfold SetAt
 simp
theorem set13 {W0 : World} {b : Nat} {r : SetR} (H : Hid (∀ wx, Below W0.heap.size W0 wx → SetAt wx b r)) : (∀ wx, Below W0.heap.size W0 wx → wx.cell? ⟨b, 0, none⟩ = some (.string r.name)) ∧ (∀ wx, Below W0.heap.size W0 wx → wx.cell? ⟨b, 1, none⟩ = some (.int .i64 r.depth)) ∧ (∀ wx, Below W0.heap.size W0 wx → wx.cell? ⟨b, 2, none⟩ = some (.int .i64 r.low)) ∧ (∀ wx, Below W0.heap.size W0 wx → wx.cell? ⟨b, 3, none⟩ = some (.int .i64 r.high)) ∧ (∀ wx, Below W0.heap.size W0 wx → wx.cell? ⟨b, 4, none⟩ = some (.int .i64 r.length)) ∧ (∀ wx, Below W0.heap.size W0 wx → wx.cell? ⟨b, 5, none⟩ = some (.slice r.la r.lines.length r.lc)) ∧ (∀ wx, Below W0.heap.size W0 wx → wx.cell? ⟨b, 6, none⟩ = some (.int .i64 r.pipe)) ∧ (∀ wx, Below W0.heap.size W0 wx → wx.cell? ⟨b, 7, none⟩ = some (.int .i64 r.arbor)) ∧ (∀ wx, Below W0.heap.size W0 wx → wx.cell? ⟨b, 8, none⟩ = some (.int .i64 r.purchase)) ∧ (∀ wx, Below W0.heap.size W0 wx → wx.cell? ⟨b, 9, none⟩ = some (.int .i64 r.most)) ∧ (∀ wx, Below W0.heap.size W0 wx → wx.cell? ⟨b, 10, none⟩ = some (.int .i64 r.brake)) ∧ (∀ wx, Below W0.heap.size W0 wx → wx.cell? ⟨b, 11, none⟩ = some (.slice r.ia r.items.length r.ic)) ∧ (∀ wx, Below W0.heap.size W0 wx → wx.cell? ⟨b, 12, none⟩ = some (.slice r.ba r.bricks.length r.bc)) :=
 ⟨fun wx h => (H.out wx h).1, fun wx h => (H.out wx h).2.1, fun wx h => (H.out wx h).2.2.1, fun wx h => (H.out wx h).2.2.2.1, fun wx h => (H.out wx h).2.2.2.2.1, fun wx h => (H.out wx h).2.2.2.2.2.1, fun wx h => (H.out wx h).2.2.2.2.2.2.1, fun wx h => (H.out wx h).2.2.2.2.2.2.2.1, fun wx h => (H.out wx h).2.2.2.2.2.2.2.2.1, fun wx h => (H.out wx h).2.2.2.2.2.2.2.2.2.1, fun wx h => (H.out wx h).2.2.2.2.2.2.2.2.2.2.1, fun wx h => (H.out wx h).2.2.2.2.2.2.2.2.2.2.2.1, fun wx h => (H.out wx h).2.2.2.2.2.2.2.2.2.2.2.2⟩
end
end Go.Proofs.YtbgkgahmicepdaaGreat
