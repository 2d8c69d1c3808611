/-
  THE WALKS of batten's and the reference's (21) small tests: between, alone, inside, apart.
-/
import Derived.Test.YtfkmnneieglolaaGreatDoorTwice
namespace Go.Proofs.YtfkmnneieglolaaGreatDoor
open Go.RowKit Go.Shelf
theorem below_new2 (w : World) (o p : Obj) : Below w.heap.size w ((w.alloc o).alloc p) := (below_new w o).alloc (by simp) p
set_option maxRecDepth 100000 in
set_option maxHeartbeats 1000000 in
theorem betw_any (n lo hi : Int) (w : World) :
    Calls Tryz.prog 49 #[.int .i64 n, .int .i64 lo, .int .i64 hi] w fun e w' => e = .returned (.bool (betB n lo hi)) ∧ w = w' := by
  have HR : Hid (betB n lo hi = (decide (lo ≤ n) && decide (n ≤ hi))) := Lib.hid rfl
  by_cases p1 : lo ≤ n
  · have g1 : decide (lo ≤ n) = true := decide_eq_true p1
    rw [g1] at HR
    clear p1
    go_enter Tryz.func49, Tryz.ntmps49
    go_wp2_with fail
    go_ret
    exact ⟨ret_bool (by rw [HR.out]; rfl), rfl⟩
  · have g1 : decide (lo ≤ n) = false := decide_eq_false p1
    rw [g1] at HR
    clear p1
    go_enter Tryz.func49, Tryz.ntmps49
    go_wp2_with fail
    go_ret
    exact ⟨ret_bool (by rw [HR.out]; rfl), rfl⟩
set_option maxRecDepth 100000 in
set_option maxHeartbeats 1000000 in
theorem rbetw_any (n lo hi : Int) (w : World) :
    Calls Tryz.prog 18 #[.int .i64 n, .int .i64 lo, .int .i64 hi] w fun e w' => e = .returned (.bool (betB n lo hi)) ∧ w = w' := by
  have HR : Hid (betB n lo hi = (decide (lo ≤ n) && decide (n ≤ hi))) := Lib.hid rfl
  by_cases p1 : lo ≤ n
  · have g1 : decide (lo ≤ n) = true := decide_eq_true p1
    rw [g1] at HR
    clear p1
    go_enter Tryz.func18, Tryz.ntmps18
    go_wp2_with fail
    go_ret
    exact ⟨ret_bool (by rw [HR.out]; rfl), rfl⟩
  · have g1 : decide (lo ≤ n) = false := decide_eq_false p1
    rw [g1] at HR
    clear p1
    go_enter Tryz.func18, Tryz.ntmps18
    go_wp2_with fail
    go_ret
    exact ⟨ret_bool (by rw [HR.out]; rfl), rfl⟩
set_option maxRecDepth 100000 in
set_option maxHeartbeats 4000000 in
theorem alone_any (r : ItemR) (w : World) :
    Calls Tryz.prog 78 #[.agg #[.string r.name, .int .i64 r.pos, .int .i64 r.width, .int .i64 r.weight, .int .i64 r.hang, .int .i64 r.front, .int .i64 r.back]] w fun e w' => e = .returned (.bool (aloneB r)) ∧ Below w.heap.size w w' := by
  go_enter Tryz.func78, Tryz.ntmps78
  cases h0 : isNameB r.name
  · have HR : Hid (aloneB r = false) := Lib.hid (by simp only [aloneB, h0, Bool.false_and])
    have H0 := Lib.hid h0
    clear h0
    go_wp2_with (first
      | (go_at_call 48; (with_reducible refine (isName_any r.name _).mono ?_); rintro e w1 ⟨rfl, rfl⟩; rw [H0.out]))
    go_ret
    exact ⟨ret_bool HR.out.symm, below_new _ _⟩
  cases h1 : betB r.weight 0 1048576
  · have HR : Hid (aloneB r = false) := Lib.hid (by simp only [aloneB, h0, h1, Bool.true_and, Bool.false_and])
    have H0 := Lib.hid h0
    have H1 := Lib.hid h1
    clear h0 h1
    go_wp2_with (first
      | (go_at_call 48; (with_reducible refine (isName_any r.name _).mono ?_); rintro e w1 ⟨rfl, rfl⟩; rw [H0.out])
      | (go_at_call 49; (with_reducible refine (betw_any r.weight 0 1048576 _).mono ?_); rintro e w1 ⟨rfl, rfl⟩; rw [H1.out]))
    go_ret
    exact ⟨ret_bool HR.out.symm, below_new _ _⟩
  cases h2 : betB r.hang 0 1048576
  · have HR : Hid (aloneB r = false) := Lib.hid (by simp only [aloneB, h0, h1, h2, Bool.true_and, Bool.false_and])
    have H0 := Lib.hid h0
    have H1 := Lib.hid h1
    have H2 := Lib.hid h2
    clear h0 h1 h2
    go_wp2_with (first
      | (go_at_call 48; (with_reducible refine (isName_any r.name _).mono ?_); rintro e w1 ⟨rfl, rfl⟩; rw [H0.out])
      | (go_at_call 49; (with_reducible refine (betw_any _ _ _ _).mono ?_); rintro e w1 ⟨rfl, rfl⟩; simp only [H1.out, H2.out]))
    go_ret
    exact ⟨ret_bool HR.out.symm, below_new _ _⟩
  cases h3 : betB r.front 0 1048576
  · have HR : Hid (aloneB r = false) := Lib.hid (by simp only [aloneB, h0, h1, h2, h3, Bool.true_and, Bool.false_and])
    have H0 := Lib.hid h0
    have H1 := Lib.hid h1
    have H2 := Lib.hid h2
    have H3 := Lib.hid h3
    clear h0 h1 h2 h3
    go_wp2_with (first
      | (go_at_call 48; (with_reducible refine (isName_any r.name _).mono ?_); rintro e w1 ⟨rfl, rfl⟩; rw [H0.out])
      | (go_at_call 49; (with_reducible refine (betw_any _ _ _ _).mono ?_); rintro e w1 ⟨rfl, rfl⟩; simp only [H1.out, H2.out, H3.out]))
    go_ret
    exact ⟨ret_bool HR.out.symm, below_new _ _⟩
  cases h4 : betB r.back 0 1048576
  · have HR : Hid (aloneB r = false) := Lib.hid (by simp only [aloneB, h0, h1, h2, h3, h4, Bool.true_and])
    have H0 := Lib.hid h0
    have H1 := Lib.hid h1
    have H2 := Lib.hid h2
    have H3 := Lib.hid h3
    have H4 := Lib.hid h4
    clear h0 h1 h2 h3 h4
    go_wp2_with (first
      | (go_at_call 48; (with_reducible refine (isName_any r.name _).mono ?_); rintro e w1 ⟨rfl, rfl⟩; rw [H0.out])
      | (go_at_call 49; (with_reducible refine (betw_any _ _ _ _).mono ?_); rintro e w1 ⟨rfl, rfl⟩; simp only [H1.out, H2.out, H3.out, H4.out]))
    go_ret
    exact ⟨ret_bool HR.out.symm, below_new _ _⟩
  have HR : Hid (aloneB r = true) := Lib.hid (by simp only [aloneB, h0, h1, h2, h3, h4, Bool.and_self])
  have H0 := Lib.hid h0
  have H1 := Lib.hid h1
  have H2 := Lib.hid h2
  have H3 := Lib.hid h3
  have H4 := Lib.hid h4
  clear h0 h1 h2 h3 h4
  go_wp2_with (first
    | (go_at_call 48; (with_reducible refine (isName_any r.name _).mono ?_); rintro e w1 ⟨rfl, rfl⟩; rw [H0.out])
    | (go_at_call 49; (with_reducible refine (betw_any r.weight 0 1048576 _).mono ?_); rintro e w1 ⟨rfl, rfl⟩; rw [H1.out])
    | (go_at_call 49; (with_reducible refine (betw_any r.hang 0 1048576 _).mono ?_); rintro e w1 ⟨rfl, rfl⟩; rw [H2.out])
    | (go_at_call 49; (with_reducible refine (betw_any r.front 0 1048576 _).mono ?_); rintro e w1 ⟨rfl, rfl⟩; rw [H3.out])
    | (go_at_call 49; (with_reducible refine (betw_any r.back 0 1048576 _).mono ?_); rintro e w1 ⟨rfl, rfl⟩; rw [H4.out]))
  go_ret
  exact ⟨ret_bool HR.out.symm, below_new _ _⟩
set_option maxRecDepth 100000 in
set_option maxHeartbeats 4000000 in
theorem inside_any (r : ItemR) (len : Int) (w : World) (hl : 0 ≤ len ∧ len ≤ 1048576) :
    Calls Tryz.prog 79 #[.agg #[.string r.name, .int .i64 r.pos, .int .i64 r.width, .int .i64 r.weight, .int .i64 r.hang, .int .i64 r.front, .int .i64 r.back], .int .i64 len] w fun e w' => e = .returned (.bool (insideB r len)) ∧ Below w.heap.size w w' := by
  go_enter Tryz.func79, Tryz.ntmps79
  cases h0 : decide (0 ≤ r.pos)
  · have HR : Hid (insideB r len = false) := Lib.hid (by simp only [insideB, h0, Bool.false_and])
    go_wp2_with fail
    go_ret
    exact ⟨ret_bool HR.out.symm, below_new _ _⟩
  cases h1 : betB r.width 1 1048576
  · have HR : Hid (insideB r len = false) := Lib.hid (by simp only [insideB, h0, h1, Bool.true_and, Bool.false_and])
    have H1 := Lib.hid h1
    clear h1
    go_wp2_with (first
      | (go_at_call 49; (with_reducible refine (betw_any r.width 1 1048576 _).mono ?_); rintro e w1 ⟨rfl, rfl⟩; rw [H1.out]))
    go_ret
    exact ⟨ret_bool HR.out.symm, below_new _ _⟩
  have hw := betB_iff.1 h1
  have s1 : IntKind.i64.wrap (len - r.width) = len - r.width := IntWalk.i64_in _ (by omega)
  cases h2 : decide (r.pos ≤ len - r.width)
  · have HR : Hid (insideB r len = false) := Lib.hid (by simp only [insideB, h0, h1, h2, Bool.true_and])
    have H1 := Lib.hid h1
    clear h1
    go_wp2_with (first
      | (go_at_call 49; (with_reducible refine (betw_any r.width 1 1048576 _).mono ?_); rintro e w1 ⟨rfl, rfl⟩; rw [H1.out]))
    go_ret
    exact ⟨ret_bool HR.out.symm, below_new _ _⟩
  have HR : Hid (insideB r len = true) := Lib.hid (by simp only [insideB, h0, h1, h2, Bool.and_self])
  have H1 := Lib.hid h1
  clear h1
  go_wp2_with (first
    | (go_at_call 49; (with_reducible refine (betw_any r.width 1 1048576 _).mono ?_); rintro e w1 ⟨rfl, rfl⟩; rw [H1.out]))
  go_ret
  exact ⟨ret_bool HR.out.symm, below_new _ _⟩
def raloneB (r : ItemR) (len : Int) : Bool := isNameB r.name && (betB r.width 1 1048576 && (betB r.pos 0 (len - r.width) && (betB r.weight 0 1048576 && (betB r.hang 0 1048576 && (betB r.front 0 1048576 && betB r.back 0 1048576)))))
theorem ralone_eq (r : ItemR) (len : Int) : raloneB r len = item1 len r := by
  rw [Bool.eq_iff_iff, item1_iff]
  unfold raloneB
  simp only [Bool.and_eq_true, betB_iff]
  constructor
  · rintro ⟨a, b, c, d, e, f, g⟩; exact ⟨a, d, e, f, g, c.1, b, c.2⟩
  · rintro ⟨a, d, e, f, g, c, b, c'⟩; exact ⟨a, b, ⟨c, c'⟩, d, e, f, g⟩
set_option maxRecDepth 100000 in
set_option maxHeartbeats 4000000 in
theorem ralone_any (r : ItemR) (len : Int) (w : World) (hl : 0 ≤ len ∧ len ≤ 1048576) :
    Calls Tryz.prog 42 #[.agg #[.string r.name, .int .i64 r.pos, .int .i64 r.width, .int .i64 r.weight, .int .i64 r.hang, .int .i64 r.front, .int .i64 r.back], .int .i64 len] w fun e w' => e = .returned (.bool (item1 len r)) ∧ Below w.heap.size w w' := by
  rw [← ralone_eq]
  go_enter Tryz.func42, Tryz.ntmps42
  cases h0 : isNameB r.name
  · have HR : Hid (raloneB r len = false) := Lib.hid (by simp only [raloneB, h0, Bool.false_and])
    have H0 := Lib.hid h0
    clear h0
    go_wp2_with (first
      | (go_at_call 17; (with_reducible refine (refisName_any r.name _).mono ?_); rintro e w1 ⟨rfl, rfl⟩; rw [H0.out]))
    go_ret
    exact ⟨ret_bool HR.out.symm, below_new _ _⟩
  cases h1 : betB r.width 1 1048576
  · have HR : Hid (raloneB r len = false) := Lib.hid (by simp only [raloneB, h0, h1, Bool.true_and, Bool.false_and])
    have H0 := Lib.hid h0
    have H1 := Lib.hid h1
    clear h0 h1
    go_wp2_with (first
      | (go_at_call 17; (with_reducible refine (refisName_any r.name _).mono ?_); rintro e w1 ⟨rfl, rfl⟩; rw [H0.out])
      | (go_at_call 18; (with_reducible refine (rbetw_any r.width 1 1048576 _).mono ?_); rintro e w1 ⟨rfl, rfl⟩; rw [H1.out]))
    go_ret
    exact ⟨ret_bool HR.out.symm, below_new _ _⟩
  have hw := betB_iff.1 h1
  have s1 : IntKind.i64.wrap (len - r.width) = len - r.width := IntWalk.i64_in _ (by omega)
  cases h2 : betB r.pos 0 (len - r.width)
  · have HR : Hid (raloneB r len = false) := Lib.hid (by simp only [raloneB, h0, h1, h2, Bool.true_and, Bool.false_and])
    have H0 := Lib.hid h0
    have H1 := Lib.hid h1
    have H2 := Lib.hid h2
    clear h0 h1 h2
    go_wp2_with (first
      | (go_at_call 17; (with_reducible refine (refisName_any r.name _).mono ?_); rintro e w1 ⟨rfl, rfl⟩; rw [H0.out])
      | (go_at_call 18; (with_reducible refine (rbetw_any _ _ _ _).mono ?_); rintro e w1 ⟨rfl, rfl⟩; simp only [H1.out, H2.out]))
    go_ret
    exact ⟨ret_bool HR.out.symm, below_new _ _⟩
  cases h3 : betB r.weight 0 1048576
  · have HR : Hid (raloneB r len = false) := Lib.hid (by simp only [raloneB, h0, h1, h2, h3, Bool.true_and, Bool.false_and])
    have H0 := Lib.hid h0
    have H1 := Lib.hid h1
    have H2 := Lib.hid h2
    have H3 := Lib.hid h3
    clear h0 h1 h2 h3
    go_wp2_with (first
      | (go_at_call 17; (with_reducible refine (refisName_any r.name _).mono ?_); rintro e w1 ⟨rfl, rfl⟩; rw [H0.out])
      | (go_at_call 18; (with_reducible refine (rbetw_any _ _ _ _).mono ?_); rintro e w1 ⟨rfl, rfl⟩; simp only [H1.out, H2.out, H3.out]))
    go_ret
    exact ⟨ret_bool HR.out.symm, below_new _ _⟩
  cases h4 : betB r.hang 0 1048576
  · have HR : Hid (raloneB r len = false) := Lib.hid (by simp only [raloneB, h0, h1, h2, h3, h4, Bool.true_and, Bool.false_and])
    have H0 := Lib.hid h0
    have H1 := Lib.hid h1
    have H2 := Lib.hid h2
    have H3 := Lib.hid h3
    have H4 := Lib.hid h4
    clear h0 h1 h2 h3 h4
    go_wp2_with (first
      | (go_at_call 17; (with_reducible refine (refisName_any r.name _).mono ?_); rintro e w1 ⟨rfl, rfl⟩; rw [H0.out])
      | (go_at_call 18; (with_reducible refine (rbetw_any _ _ _ _).mono ?_); rintro e w1 ⟨rfl, rfl⟩; simp only [H1.out, H2.out, H3.out, H4.out]))
    go_ret
    exact ⟨ret_bool HR.out.symm, below_new _ _⟩
  cases h5 : betB r.front 0 1048576
  · have HR : Hid (raloneB r len = false) := Lib.hid (by simp only [raloneB, h0, h1, h2, h3, h4, h5, Bool.true_and, Bool.false_and])
    have H0 := Lib.hid h0
    have H1 := Lib.hid h1
    have H2 := Lib.hid h2
    have H3 := Lib.hid h3
    have H4 := Lib.hid h4
    have H5 := Lib.hid h5
    clear h0 h1 h2 h3 h4 h5
    go_wp2_with (first
      | (go_at_call 17; (with_reducible refine (refisName_any r.name _).mono ?_); rintro e w1 ⟨rfl, rfl⟩; rw [H0.out])
      | (go_at_call 18; (with_reducible refine (rbetw_any _ _ _ _).mono ?_); rintro e w1 ⟨rfl, rfl⟩; simp only [H1.out, H2.out, H3.out, H4.out, H5.out]))
    go_ret
    exact ⟨ret_bool HR.out.symm, below_new _ _⟩
  cases h6 : betB r.back 0 1048576
  · have HR : Hid (raloneB r len = false) := Lib.hid (by simp only [raloneB, h0, h1, h2, h3, h4, h5, h6, Bool.true_and])
    have H0 := Lib.hid h0
    have H1 := Lib.hid h1
    have H2 := Lib.hid h2
    have H3 := Lib.hid h3
    have H4 := Lib.hid h4
    have H5 := Lib.hid h5
    have H6 := Lib.hid h6
    clear h0 h1 h2 h3 h4 h5 h6
    go_wp2_with (first
      | (go_at_call 17; (with_reducible refine (refisName_any r.name _).mono ?_); rintro e w1 ⟨rfl, rfl⟩; rw [H0.out])
      | (go_at_call 18; (with_reducible refine (rbetw_any _ _ _ _).mono ?_); rintro e w1 ⟨rfl, rfl⟩; simp only [H1.out, H2.out, H3.out, H4.out, H5.out, H6.out]))
    go_ret
    exact ⟨ret_bool HR.out.symm, below_new _ _⟩
  have HR : Hid (raloneB r len = true) := Lib.hid (by simp only [raloneB, h0, h1, h2, h3, h4, h5, h6, Bool.and_self])
  have H0 := Lib.hid h0
  have H1 := Lib.hid h1
  have H2 := Lib.hid h2
  have H3 := Lib.hid h3
  have H4 := Lib.hid h4
  have H5 := Lib.hid h5
  have H6 := Lib.hid h6
  clear h0 h1 h2 h3 h4 h5 h6
  go_wp2_with (first
    | (go_at_call 17; (with_reducible refine (refisName_any r.name _).mono ?_); rintro e w1 ⟨rfl, rfl⟩; rw [H0.out])
    | (go_at_call 18; (with_reducible refine (rbetw_any r.width 1 1048576 _).mono ?_); rintro e w1 ⟨rfl, rfl⟩; rw [H1.out])
    | (go_at_call 18; (with_reducible refine (rbetw_any r.pos 0 (len - r.width) _).mono ?_); rintro e w1 ⟨rfl, rfl⟩; rw [H2.out])
    | (go_at_call 18; (with_reducible refine (rbetw_any r.weight 0 1048576 _).mono ?_); rintro e w1 ⟨rfl, rfl⟩; rw [H3.out])
    | (go_at_call 18; (with_reducible refine (rbetw_any r.hang 0 1048576 _).mono ?_); rintro e w1 ⟨rfl, rfl⟩; rw [H4.out])
    | (go_at_call 18; (with_reducible refine (rbetw_any r.front 0 1048576 _).mono ?_); rintro e w1 ⟨rfl, rfl⟩; rw [H5.out])
    | (go_at_call 18; (with_reducible refine (rbetw_any r.back 0 1048576 _).mono ?_); rintro e w1 ⟨rfl, rfl⟩; rw [H6.out]))
  go_ret
  exact ⟨ret_bool HR.out.symm, below_new _ _⟩
def apartW (x y : ItemR) : Bool := decide (IntKind.i64.wrap (x.pos + x.width) ≤ y.pos) || decide (IntKind.i64.wrap (y.pos + y.width) ≤ x.pos)
theorem apartW_is {x y : ItemR} {len : Int} (hx : item1 len x = true) (hy : item1 len y = true) (hl : 0 ≤ len ∧ len ≤ 1048576) : apartW x y = apartB x y := by
  obtain ⟨_, _, _, _, _, a, b, c⟩ := item1_iff.1 hx
  obtain ⟨_, _, _, _, _, d, e, f⟩ := item1_iff.1 hy
  unfold apartW apartB
  rw [IntWalk.i64_in _ (by omega), IntWalk.i64_in _ (by omega)]
set_option maxRecDepth 100000 in
set_option maxHeartbeats 2000000 in
theorem apart_any (x y : ItemR) (w : World) :
    Calls Tryz.prog 82 #[.agg #[.string x.name, .int .i64 x.pos, .int .i64 x.width, .int .i64 x.weight, .int .i64 x.hang, .int .i64 x.front, .int .i64 x.back], .agg #[.string y.name, .int .i64 y.pos, .int .i64 y.width, .int .i64 y.weight, .int .i64 y.hang, .int .i64 y.front, .int .i64 y.back]] w fun e w' => e = .returned (.bool (apartW x y)) ∧ Below w.heap.size w w' := by
  have HR : Hid (apartW x y = (decide (IntKind.i64.wrap (x.pos + x.width) ≤ y.pos) || decide (IntKind.i64.wrap (y.pos + y.width) ≤ x.pos))) := Lib.hid rfl
  rw [IntWalk.i64_left, IntWalk.i64_left] at HR
  obtain ⟨p, hp⟩ : ∃ p, wrap64 (x.pos + x.width) = p := ⟨_, rfl⟩
  obtain ⟨q, hq⟩ : ∃ q, wrap64 (y.pos + y.width) = q := ⟨_, rfl⟩
  rw [hp, hq] at HR
  by_cases p1 : p ≤ y.pos
  · have g1 : decide (p ≤ y.pos) = true := decide_eq_true p1
    rw [g1] at HR
    clear p1
    go_enter Tryz.func82, Tryz.ntmps82
    go_wp2_with fail
    go_ret
    exact ⟨ret_bool (by rw [HR.out]; rfl), below_new2 _ _ _⟩
  · have g1 : decide (p ≤ y.pos) = false := decide_eq_false p1
    rw [g1] at HR
    clear p1
    go_enter Tryz.func82, Tryz.ntmps82
    go_wp2_with fail
    go_ret
    exact ⟨ret_bool (by rw [HR.out]; rfl), below_new2 _ _ _⟩
set_option maxRecDepth 100000 in
set_option maxHeartbeats 2000000 in
theorem rapart_any (x y : ItemR) (w : World) :
    Calls Tryz.prog 43 #[.agg #[.string x.name, .int .i64 x.pos, .int .i64 x.width, .int .i64 x.weight, .int .i64 x.hang, .int .i64 x.front, .int .i64 x.back], .agg #[.string y.name, .int .i64 y.pos, .int .i64 y.width, .int .i64 y.weight, .int .i64 y.hang, .int .i64 y.front, .int .i64 y.back]] w fun e w' => e = .returned (.bool (apartW x y)) ∧ Below w.heap.size w w' := by
  have HR : Hid (apartW x y = (decide (IntKind.i64.wrap (x.pos + x.width) ≤ y.pos) || decide (IntKind.i64.wrap (y.pos + y.width) ≤ x.pos))) := Lib.hid rfl
  rw [IntWalk.i64_left, IntWalk.i64_left] at HR
  obtain ⟨p, hp⟩ : ∃ p, wrap64 (x.pos + x.width) = p := ⟨_, rfl⟩
  obtain ⟨q, hq⟩ : ∃ q, wrap64 (y.pos + y.width) = q := ⟨_, rfl⟩
  rw [hp, hq] at HR
  by_cases p1 : p ≤ y.pos
  · have g1 : decide (p ≤ y.pos) = true := decide_eq_true p1
    rw [g1] at HR
    clear p1
    go_enter Tryz.func43, Tryz.ntmps43
    go_wp2_with fail
    go_ret
    exact ⟨ret_bool (by rw [HR.out]; rfl), below_new2 _ _ _⟩
  · have g1 : decide (p ≤ y.pos) = false := decide_eq_false p1
    rw [g1] at HR
    clear p1
    go_enter Tryz.func43, Tryz.ntmps43
    go_wp2_with fail
    go_ret
    exact ⟨ret_bool (by rw [HR.out]; rfl), below_new2 _ _ _⟩
/-- An item in a block. -/
def ItemAt (w : World) (b : Nat) (r : ItemR) : Prop := w.cell? ⟨b, 0, none⟩ = some (.string r.name) ∧ w.cell? ⟨b, 1, none⟩ = some (.int .i64 r.pos) ∧ w.cell? ⟨b, 2, none⟩ = some (.int .i64 r.width) ∧ w.cell? ⟨b, 3, none⟩ = some (.int .i64 r.weight) ∧ w.cell? ⟨b, 4, none⟩ = some (.int .i64 r.hang) ∧ w.cell? ⟨b, 5, none⟩ = some (.int .i64 r.front) ∧ w.cell? ⟨b, 6, none⟩ = some (.int .i64 r.back)
theorem ItemAt.below {w w' : World} {b : Nat} {r : ItemR} (h : ItemAt w b r) (hb : Below w.heap.size w w') (hlt : b < w.heap.size) : ItemAt w' b r :=
  let ⟨a0, a1, a2, a3, a4, a5, a6⟩ := h
  ⟨(hb.cell (p := ⟨b, 0, none⟩) hlt).trans a0, (hb.cell (p := ⟨b, 1, none⟩) hlt).trans a1, (hb.cell (p := ⟨b, 2, none⟩) hlt).trans a2, (hb.cell (p := ⟨b, 3, none⟩) hlt).trans a3, (hb.cell (p := ⟨b, 4, none⟩) hlt).trans a4, (hb.cell (p := ⟨b, 5, none⟩) hlt).trans a5, (hb.cell (p := ⟨b, 6, none⟩) hlt).trans a6⟩
theorem ItemAt.new (w : World) (r : ItemR) (t : TypeId) : ItemAt (w.alloc (.cells #[.string r.name, .int .i64 r.pos, .int .i64 r.width, .int .i64 r.weight, .int .i64 r.hang, .int .i64 r.front, .int .i64 r.back] t)) w.heap.size r := by
  unfold ItemAt
  simp
theorem ent_apart (args : Array Value) (w : World) : (callFunc 81 args).run Tryz.prog w = .ok (.enter 81 args) w := enters_of Tryz.func81 (by kernel_rfl) rfl args w
set_option maxRecDepth 100000 in
set_option maxHeartbeats 4000000 in
theorem apartC_any (bx : Nat) (x y : ItemR) (w : World) (h : ItemAt w bx x) (hlt : bx < w.heap.size) :
    Calls Tryz.prog 81 #[.agg #[.string y.name, .int .i64 y.pos, .int .i64 y.width, .int .i64 y.weight, .int .i64 y.hang, .int .i64 y.front, .int .i64 y.back], .pointer (some ⟨bx, 0, none⟩)] w fun e w' => e = .returned (.bool (!apartW x y)) ∧ Below w.heap.size w w' := by
  obtain ⟨a0, a1, a2, a3, a4, a5, a6⟩ := h
  go_enter Tryz.func81, Tryz.ntmps81
  go_wp2_with (first
    | (go_at_call 82; (with_reducible refine (apart_any x y _).mono ?_); rintro e w1 ⟨rfl, hb⟩))
  go_ret
  exact ⟨rfl, mono_in _ hb⟩
theorem asks_apart {w : World} {bx : Nat} {x : ItemR} (h : ItemAt w bx x) (hlt : bx < w.heap.size) : AsksI 81 #[.pointer (some ⟨bx, 0, none⟩)] w.heap.size w (fun y => !apartW x y) := by
  intro W r hb
  exact apartC_any bx x r W (h.below hb hlt) (Nat.lt_of_lt_of_le hlt hb.size)
end Go.Proofs.YtfkmnneieglolaaGreatDoor
