/-
  THE WALKS of profile.within, Valid, given, top, Top, and of the reference's (34) within, Valid, Given, room, Top.
-/
import Derived.Test.YtlgpolfbilkmbaaTopP
import Derived.Test.YtlgpolfbilkmbaaDec
import Derived.Test.YtlgpolfbilkmbaaRat1
import Derived.IntWalk
import Derived.Outline
namespace Go.Proofs.Ytlgpolfbilkmbaa
open Go.RowKit Go.Shelf

structure Mv where
  name : ByteArray
  to : Int
  spd : Int
  rise : Int
  fall : Int
def inB (n lo hi : Int) : Bool := decide (lo ≤ n) && decide (n ≤ hi)
theorem inB_iff {n lo hi : Int} : inB n lo hi = true ↔ lo ≤ n ∧ n ≤ hi := by simp [inB]
theorem inB_not {n lo hi : Int} : inB n lo hi = false ↔ ¬ (lo ≤ n ∧ n ≤ hi) := by rw [← inB_iff]; simp
def validM (m : Mv) : Bool := isNameB m.name && (inB m.to (-1048576) 1048576 && (inB m.spd 1 8192 && (inB m.rise 1 16384 && inB m.fall 1 16384)))
def givenP (d : Int) (m : Mv) : Int := if validM m then (if inB d 0 1048576 then 0 else 2) else 1
theorem given_ok {d : Int} {m : Mv} (h : givenP d m = 0) : validM m = true ∧ inB d 0 1048576 = true := by
  unfold givenP at h
  cases e : validM m
  · rw [e] at h; simp at h
  · rw [e, if_pos rfl] at h
    cases f : inB d 0 1048576
    · rw [f] at h; simp at h
    · exact ⟨rfl, rfl⟩
theorem given_cases (d : Int) (m : Mv) : givenP d m = 0 ∨ givenP d m = 1 ∨ givenP d m = 2 := by
  unfold givenP
  split
  · split <;> simp
  · simp

theorem ret_boolB {a b : Bool} (h : a = b) : Ending.returned (.bool a) = .returned (.bool b) := by rw [h]
set_option maxHeartbeats 1000000 in
theorem within_any (n lo hi : Int) (w : World) : Calls Try.prog 42 #[.int .i64 n, .int .i64 lo, .int .i64 hi] w fun e w' => e = .returned (.bool (inB n lo hi)) ∧ w = w' := by
  go_enter Try.func42, Try.ntmps42
  go_wp2
  all_goals (go_ret; exact ⟨ret_boolB (by unfold inB; rw [Bool.eq_iff_iff]; simp; omega), rfl⟩)
set_option maxHeartbeats 1000000 in
theorem refwithin_any (n hi : Int) (w : World) : Calls Try.prog 44 #[.int .i64 n, .int .i64 hi] w fun e w' => e = .returned (.bool (inB n 1 hi)) ∧ w = w' := by
  go_enter Try.func44, Try.ntmps44
  go_wp2
  all_goals (go_ret; exact ⟨ret_boolB (by unfold inB; rw [Bool.eq_iff_iff]; simp; omega), rfl⟩)
set_option maxHeartbeats 4000000 in
theorem valid_anyM (m : Mv) (w : World) : Calls Try.prog 12 #[.agg #[.string m.name, .int .i64 m.to, .int .i64 m.spd, .int .i64 m.rise, .int .i64 m.fall]] w fun e w' => e = .returned (.bool (validM m)) ∧ Below w.heap.size w w' := by
  cases h0 : isNameB m.name
  · have H0 := Lib.hid h0
    clear h0
    have HV : Hid (validM m = false) := Lib.hid (by unfold validM; rw [H0.out]; rfl)
    rw [HV.out]
    go_enter Try.func12, Try.ntmps12
    go_wp2_with (first
        | (go_at_call 41; (with_reducible refine (isName_any m.name _).mono ?_); rintro e w' ⟨rfl, rfl⟩; rw [H0.out]))
    go_ret
    exact ⟨rfl, below_new _ _⟩
  have H0 := Lib.hid h0
  clear h0
  cases h1 : inB m.to (-1048576) 1048576
  · have H1 := Lib.hid h1
    clear h1
    have HV : Hid (validM m = false) := Lib.hid (by unfold validM; rw [H0.out, H1.out]; rfl)
    rw [HV.out]
    go_enter Try.func12, Try.ntmps12
    go_wp2_with (first
        | (go_at_call 41; (with_reducible refine (isName_any m.name _).mono ?_); rintro e w' ⟨rfl, rfl⟩; rw [H0.out])
        | (go_at_call 42; (with_reducible refine (within_any m.to (-1048576) 1048576 _).mono ?_); rintro e w' ⟨rfl, rfl⟩; rw [H1.out]))
    go_ret
    exact ⟨rfl, below_new _ _⟩
  have H1 := Lib.hid h1
  clear h1
  cases h2 : inB m.spd 1 8192
  · have H2 := Lib.hid h2
    clear h2
    have HV : Hid (validM m = false) := Lib.hid (by unfold validM; rw [H0.out, H1.out, H2.out]; rfl)
    rw [HV.out]
    go_enter Try.func12, Try.ntmps12
    go_wp2_with (first
        | (go_at_call 41; (with_reducible refine (isName_any m.name _).mono ?_); rintro e w' ⟨rfl, rfl⟩; rw [H0.out])
        | (go_at_call 42; (with_reducible refine (within_any m.to (-1048576) 1048576 _).mono ?_); rintro e w' ⟨rfl, rfl⟩; rw [H1.out])
        | (go_at_call 42; (with_reducible refine (within_any m.spd 1 8192 _).mono ?_); rintro e w' ⟨rfl, rfl⟩; rw [H2.out]))
    go_ret
    exact ⟨rfl, below_new _ _⟩
  have H2 := Lib.hid h2
  clear h2
  cases h3 : inB m.rise 1 16384
  · have H3 := Lib.hid h3
    clear h3
    have HV : Hid (validM m = false) := Lib.hid (by unfold validM; rw [H0.out, H1.out, H2.out, H3.out]; rfl)
    rw [HV.out]
    go_enter Try.func12, Try.ntmps12
    go_wp2_with (first
        | (go_at_call 41; (with_reducible refine (isName_any m.name _).mono ?_); rintro e w' ⟨rfl, rfl⟩; rw [H0.out])
        | (go_at_call 42; (with_reducible refine (within_any m.to (-1048576) 1048576 _).mono ?_); rintro e w' ⟨rfl, rfl⟩; rw [H1.out])
        | (go_at_call 42; (with_reducible refine (within_any m.spd 1 8192 _).mono ?_); rintro e w' ⟨rfl, rfl⟩; rw [H2.out])
        | (go_at_call 42; (with_reducible refine (within_any m.rise 1 16384 _).mono ?_); rintro e w' ⟨rfl, rfl⟩; rw [H3.out]))
    go_ret
    exact ⟨rfl, below_new _ _⟩
  have H3 := Lib.hid h3
  clear h3
  cases h4 : inB m.fall 1 16384
  · have H4 := Lib.hid h4
    clear h4
    have HV : Hid (validM m = false) := Lib.hid (by unfold validM; rw [H0.out, H1.out, H2.out, H3.out, H4.out]; rfl)
    rw [HV.out]
    go_enter Try.func12, Try.ntmps12
    go_wp2_with (first
        | (go_at_call 41; (with_reducible refine (isName_any m.name _).mono ?_); rintro e w' ⟨rfl, rfl⟩; rw [H0.out])
        | (go_at_call 42; (with_reducible refine (within_any m.to (-1048576) 1048576 _).mono ?_); rintro e w' ⟨rfl, rfl⟩; rw [H1.out])
        | (go_at_call 42; (with_reducible refine (within_any m.spd 1 8192 _).mono ?_); rintro e w' ⟨rfl, rfl⟩; rw [H2.out])
        | (go_at_call 42; (with_reducible refine (within_any m.rise 1 16384 _).mono ?_); rintro e w' ⟨rfl, rfl⟩; rw [H3.out])
        | (go_at_call 42; (with_reducible refine (within_any m.fall 1 16384 _).mono ?_); rintro e w' ⟨rfl, rfl⟩; rw [H4.out]))
    go_ret
    exact ⟨rfl, below_new _ _⟩
  have H4 := Lib.hid h4
  clear h4
  have HV : Hid (validM m = true) := Lib.hid (by unfold validM; rw [H0.out, H1.out, H2.out, H3.out, H4.out]; rfl)
  rw [HV.out]
  go_enter Try.func12, Try.ntmps12
  go_wp2_with (first
      | (go_at_call 41; (with_reducible refine (isName_any m.name _).mono ?_); rintro e w' ⟨rfl, rfl⟩; rw [H0.out])
      | (go_at_call 42; (with_reducible refine (within_any m.to (-1048576) 1048576 _).mono ?_); rintro e w' ⟨rfl, rfl⟩; rw [H1.out])
      | (go_at_call 42; (with_reducible refine (within_any m.spd 1 8192 _).mono ?_); rintro e w' ⟨rfl, rfl⟩; rw [H2.out])
      | (go_at_call 42; (with_reducible refine (within_any m.rise 1 16384 _).mono ?_); rintro e w' ⟨rfl, rfl⟩; rw [H3.out])
      | (go_at_call 42; (with_reducible refine (within_any m.fall 1 16384 _).mono ?_); rintro e w' ⟨rfl, rfl⟩; rw [H4.out]))
  go_ret
  exact ⟨rfl, below_new _ _⟩
set_option maxHeartbeats 4000000 in
theorem refvalid_anyM (m : Mv) (w : World) : Calls Try.prog 13 #[.agg #[.string m.name, .int .i64 m.to, .int .i64 m.spd, .int .i64 m.rise, .int .i64 m.fall]] w fun e w' => e = .returned (.bool (validM m)) ∧ Below w.heap.size w w' := by
  cases h0 : isNameB m.name
  · have H0 := Lib.hid h0
    clear h0
    have HV : Hid (validM m = false) := Lib.hid (by unfold validM; rw [H0.out]; rfl)
    rw [HV.out]
    go_enter Try.func13, Try.ntmps13
    go_wp2_with (first
        | (go_at_call 43; (with_reducible refine (refisName_any m.name _).mono ?_); rintro e w' ⟨rfl, rfl⟩; rw [H0.out]))
    go_ret
    exact ⟨rfl, below_new _ _⟩
  have H0 := Lib.hid h0
  clear h0
  cases h1 : inB m.to (-1048576) 1048576
  · have H1 := Lib.hid h1
    by_cases cl : m.to < -1048576
    · have cl' := decide_eq_true cl
      clear cl h1
      have HV : Hid (validM m = false) := Lib.hid (by unfold validM; rw [H0.out, H1.out]; rfl)
      rw [HV.out]
      go_enter Try.func13, Try.ntmps13
      go_wp2_with (first
          | (go_at_call 43; (with_reducible refine (refisName_any m.name _).mono ?_); rintro e w' ⟨rfl, rfl⟩; rw [H0.out]))
      go_ret
      exact ⟨rfl, below_new _ _⟩
    · have cg : 1048576 < m.to := by have := inB_not.1 h1; omega
      have cl' := decide_eq_false cl
      have cg' := decide_eq_true cg
      clear cl h1
      have HV : Hid (validM m = false) := Lib.hid (by unfold validM; rw [H0.out, H1.out]; rfl)
      rw [HV.out]
      go_enter Try.func13, Try.ntmps13
      go_wp2_with (first
          | (go_at_call 43; (with_reducible refine (refisName_any m.name _).mono ?_); rintro e w' ⟨rfl, rfl⟩; rw [H0.out]))
      go_ret
      exact ⟨rfl, below_new _ _⟩
  have H1 := Lib.hid h1
  have cl : ¬ m.to < -1048576 := by have := inB_iff.1 h1; omega
  have cg : ¬ 1048576 < m.to := by have := inB_iff.1 h1; omega
  have cl' := decide_eq_false cl
  have cg' := decide_eq_false cg
  clear h1
  cases h2 : inB m.spd 1 8192
  · have H2 := Lib.hid h2
    clear h2
    have HV : Hid (validM m = false) := Lib.hid (by unfold validM; rw [H0.out, H1.out, H2.out]; rfl)
    rw [HV.out]
    go_enter Try.func13, Try.ntmps13
    go_wp2_with (first
        | (go_at_call 43; (with_reducible refine (refisName_any m.name _).mono ?_); rintro e w' ⟨rfl, rfl⟩; rw [H0.out])
        | (go_at_call 44; (with_reducible refine (refwithin_any m.spd 8192 _).mono ?_); rintro e w' ⟨rfl, rfl⟩; rw [H2.out]))
    go_ret
    exact ⟨rfl, below_new _ _⟩
  have H2 := Lib.hid h2
  clear h2
  cases h3 : inB m.rise 1 16384
  · have H3 := Lib.hid h3
    clear h3
    have HV : Hid (validM m = false) := Lib.hid (by unfold validM; rw [H0.out, H1.out, H2.out, H3.out]; rfl)
    rw [HV.out]
    go_enter Try.func13, Try.ntmps13
    go_wp2_with (first
        | (go_at_call 43; (with_reducible refine (refisName_any m.name _).mono ?_); rintro e w' ⟨rfl, rfl⟩; rw [H0.out])
        | (go_at_call 44; (with_reducible refine (refwithin_any m.spd 8192 _).mono ?_); rintro e w' ⟨rfl, rfl⟩; rw [H2.out])
        | (go_at_call 44; (with_reducible refine (refwithin_any m.rise 16384 _).mono ?_); rintro e w' ⟨rfl, rfl⟩; rw [H3.out]))
    go_ret
    exact ⟨rfl, below_new _ _⟩
  have H3 := Lib.hid h3
  clear h3
  cases h4 : inB m.fall 1 16384
  · have H4 := Lib.hid h4
    clear h4
    have HV : Hid (validM m = false) := Lib.hid (by unfold validM; rw [H0.out, H1.out, H2.out, H3.out, H4.out]; rfl)
    rw [HV.out]
    go_enter Try.func13, Try.ntmps13
    go_wp2_with (first
        | (go_at_call 43; (with_reducible refine (refisName_any m.name _).mono ?_); rintro e w' ⟨rfl, rfl⟩; rw [H0.out])
        | (go_at_call 44; (with_reducible refine (refwithin_any m.spd 8192 _).mono ?_); rintro e w' ⟨rfl, rfl⟩; rw [H2.out])
        | (go_at_call 44; (with_reducible refine (refwithin_any m.rise 16384 _).mono ?_); rintro e w' ⟨rfl, rfl⟩; rw [H3.out])
        | (go_at_call 44; (with_reducible refine (refwithin_any m.fall 16384 _).mono ?_); rintro e w' ⟨rfl, rfl⟩; rw [H4.out]))
    go_ret
    exact ⟨rfl, below_new _ _⟩
  have H4 := Lib.hid h4
  clear h4
  have HV : Hid (validM m = true) := Lib.hid (by unfold validM; rw [H0.out, H1.out, H2.out, H3.out, H4.out]; rfl)
  rw [HV.out]
  go_enter Try.func13, Try.ntmps13
  go_wp2_with (first
      | (go_at_call 43; (with_reducible refine (refisName_any m.name _).mono ?_); rintro e w' ⟨rfl, rfl⟩; rw [H0.out])
      | (go_at_call 44; (with_reducible refine (refwithin_any m.spd 8192 _).mono ?_); rintro e w' ⟨rfl, rfl⟩; rw [H2.out])
      | (go_at_call 44; (with_reducible refine (refwithin_any m.rise 16384 _).mono ?_); rintro e w' ⟨rfl, rfl⟩; rw [H3.out])
      | (go_at_call 44; (with_reducible refine (refwithin_any m.fall 16384 _).mono ?_); rintro e w' ⟨rfl, rfl⟩; rw [H4.out]))
  go_ret
  exact ⟨rfl, below_new _ _⟩

set_option maxHeartbeats 4000000 in
theorem given_any (d : Int) (m : Mv) (w : World) : Calls Try.prog 39 #[.int .i64 d, .agg #[.string m.name, .int .i64 m.to, .int .i64 m.spd, .int .i64 m.rise, .int .i64 m.fall]] w fun e w' => e = .returned (.int .i64 (givenP d m)) ∧ Below w.heap.size w w' := by
  have HI : Hid (∀ b, validM m = b → givenP d m = if b then (if inB d 0 1048576 then 0 else 2) else 1) := Lib.hid fun b h => by unfold givenP; rw [h]
  cases h1 : validM m
  · have H1 := Lib.hid h1
    have HR : Hid (givenP d m = 1) := Lib.hid (HI.out _ h1)
    rw [HR.out]
    clear h1
    go_enter Try.func39, Try.ntmps39
    go_wp2_with (first
      | (go_at_call 12; (with_reducible refine (valid_anyM m _).mono ?_); rintro e w1 ⟨rfl, hb1⟩; rw [H1.out]))
    go_ret
    exact ⟨rfl, (below_new _ _).trans (hb1.mono (by simp))⟩
  have H1 := Lib.hid h1
  cases h2 : inB d 0 1048576
  · have H2 := Lib.hid h2
    have HR : Hid (givenP d m = 2) := Lib.hid ((HI.out _ h1).trans (by rw [h2]; rfl))
    rw [HR.out]
    clear h1 h2
    go_enter Try.func39, Try.ntmps39
    go_wp2_with (first
      | (go_at_call 12; (with_reducible refine (valid_anyM m _).mono ?_); rintro e w1 ⟨rfl, hb1⟩; rw [H1.out])
      | (go_at_call 42; (with_reducible refine (within_any d 0 1048576 _).mono ?_); rintro e w' ⟨rfl, rfl⟩; rw [H2.out]))
    go_ret
    exact ⟨rfl, (below_new _ _).trans (hb1.mono (by simp))⟩
  · have H2 := Lib.hid h2
    have HR : Hid (givenP d m = 0) := Lib.hid ((HI.out _ h1).trans (by rw [h2]; rfl))
    rw [HR.out]
    clear h1 h2
    go_enter Try.func39, Try.ntmps39
    go_wp2_with (first
      | (go_at_call 12; (with_reducible refine (valid_anyM m _).mono ?_); rintro e w1 ⟨rfl, hb1⟩; rw [H1.out])
      | (go_at_call 42; (with_reducible refine (within_any d 0 1048576 _).mono ?_); rintro e w' ⟨rfl, rfl⟩; rw [H2.out]))
    go_ret
    exact ⟨rfl, (below_new _ _).trans (hb1.mono (by simp))⟩
set_option maxHeartbeats 4000000 in
theorem refgiven_any (d : Int) (m : Mv) (w : World) : Calls Try.prog 14 #[.int .i64 d, .agg #[.string m.name, .int .i64 m.to, .int .i64 m.spd, .int .i64 m.rise, .int .i64 m.fall]] w fun e w' => e = .returned (.int .i64 (givenP d m)) ∧ Below w.heap.size w w' := by
  have HI : Hid (∀ b, validM m = b → givenP d m = if b then (if inB d 0 1048576 then 0 else 2) else 1) := Lib.hid fun b h => by unfold givenP; rw [h]
  cases h1 : validM m
  · have H1 := Lib.hid h1
    have HR : Hid (givenP d m = 1) := Lib.hid (HI.out _ h1)
    rw [HR.out]
    clear h1
    go_enter Try.func14, Try.ntmps14
    go_wp2_with (first
      | (go_at_call 13; (with_reducible refine (refvalid_anyM m _).mono ?_); rintro e w1 ⟨rfl, hb1⟩; rw [H1.out]))
    go_ret
    exact ⟨rfl, (below_new _ _).trans (hb1.mono (by simp))⟩
  have H1 := Lib.hid h1
  cases h2 : inB d 0 1048576
  · have HR : Hid (givenP d m = 2) := Lib.hid ((HI.out _ h1).trans (by rw [h2]; rfl))
    rw [HR.out]
    by_cases cl : d < 0
    · have cl' := decide_eq_true cl
      clear h1 h2 cl
      go_enter Try.func14, Try.ntmps14
      go_wp2_with (first
        | (go_at_call 13; (with_reducible refine (refvalid_anyM m _).mono ?_); rintro e w1 ⟨rfl, hb1⟩; rw [H1.out]))
      go_ret
      exact ⟨rfl, (below_new _ _).trans (hb1.mono (by simp))⟩
    · have cg : 1048576 < d := by have := inB_not.1 h2; omega
      have cl' := decide_eq_false cl
      have cg' := decide_eq_true cg
      clear h1 h2 cl
      go_enter Try.func14, Try.ntmps14
      go_wp2_with (first
        | (go_at_call 13; (with_reducible refine (refvalid_anyM m _).mono ?_); rintro e w1 ⟨rfl, hb1⟩; rw [H1.out]))
      go_ret
      exact ⟨rfl, (below_new _ _).trans (hb1.mono (by simp))⟩
  · have HR : Hid (givenP d m = 0) := Lib.hid ((HI.out _ h1).trans (by rw [h2]; rfl))
    rw [HR.out]
    have cl : ¬ d < 0 := by have := inB_iff.1 h2; omega
    have cg : ¬ 1048576 < d := by have := inB_iff.1 h2; omega
    have cl' := decide_eq_false cl
    have cg' := decide_eq_false cg
    clear h1 h2 cl cg
    go_enter Try.func14, Try.ntmps14
    go_wp2_with (first
      | (go_at_call 13; (with_reducible refine (refvalid_anyM m _).mono ?_); rintro e w1 ⟨rfl, hb1⟩; rw [H1.out]))
    go_ret
    exact ⟨rfl, (below_new _ _).trans (hb1.mono (by simp))⟩

theorem valid_bds {m : Mv} (h : validM m = true) : 1 ≤ m.spd ∧ m.spd ≤ 8192 ∧ 1 ≤ m.rise ∧ m.rise ≤ 16384 ∧ 1 ≤ m.fall ∧ m.fall ≤ 16384 := by
  unfold validM at h
  simp only [Bool.and_eq_true, inB_iff] at h
  omega

set_option maxRecDepth 100000 in
set_option maxHeartbeats 4000000 in
theorem top_any (d : Int) (m : Mv) (t : Int) (hg : givenP d m = 0) (ht : IsTop d m.spd m.rise m.fall t) (w : World) : Calls Try.prog 40 #[.int .i64 d, .agg #[.string m.name, .int .i64 m.to, .int .i64 m.spd, .int .i64 m.rise, .int .i64 m.fall]] w fun e w' => e = .returned (.int .i64 t) ∧ Below w.heap.size w w' := by
  obtain ⟨hv, hd⟩ := given_ok hg
  obtain ⟨v1, v2, r1, r2, f1, f2⟩ := valid_bds hv
  obtain ⟨d1, d2⟩ := inB_iff.1 hd
  have HT := Lib.hid ht
  clear hg hv hd ht
  by_cases dz : d = 0
  · have HR : Hid (t = 0) := Lib.hid (top_unique (by omega) (by omega) HT.out (by rw [dz]; exact top_zero (by omega) (by omega) (by omega)))
    subst dz
    rw [HR.out]
    go_enter Try.func40, Try.ntmps40
    go_wp2_with fail
    go_quiet (fail)
    go_wp2_with fail
    go_ret
    exact ⟨rfl, below_drewN (below_new _ _) _⟩
  · have dz' : (d == 0) = false := by simpa using dz
    clear dz
    go_enter Try.func40, Try.ntmps40
    go_wp2_with fail
    go_quiet (fail)
    go_wp2_with fail
    go_loopw [5, 6] (fun i j wr => ∃ lo hi : Int, 0 ≤ lo ∧ lo ≤ hi ∧ hi ≤ m.spd ∧ i = .int .i64 lo ∧ j = .int .i64 hi ∧ Hid (Room d m.rise m.fall lo ∧ (hi = m.spd ∨ ¬ Room d m.rise m.fall (hi + 1))) ∧ Below w.heap.size w wr ∧ wr.cell? ⟨w.heap.size, 3, none⟩ = some (.int .i64 m.rise) ∧ wr.cell? ⟨w.heap.size, 4, none⟩ = some (.int .i64 m.fall)) (fun i j _ => (intOf j - intOf i).toNat)
    case atStart => exact ⟨0, m.spd, Int.le_refl _, by omega, Int.le_refl _, rfl, rfl, Lib.hid ⟨room_zero (by omega) (by omega) (by omega), .inl rfl⟩, below_drewN (below_new _ _) _, by simp, by simp⟩
    case round =>
      obtain ⟨lo, hi, l0, l1, l2, rfl, rfl, HA, hB, k3, k4⟩ := hrel
      by_cases c : lo < hi
      · obtain ⟨x, hx⟩ : ∃ x, (lo + hi + 1) / 2 = x := ⟨_, rfl⟩
        have x0 : 0 ≤ x := by omega
        have x1 : x ≤ 8192 := by omega
        have s1 : IntKind.i64.wrap (lo + hi) = lo + hi := IntWalk.i64_in _ (by omega)
        have s2 : IntKind.i64.wrap (lo + hi + 1) = lo + hi + 1 := IntWalk.i64_in _ (by omega)
        have s3 : IntKind.i64.wrap ((lo + hi + 1).tdiv 2) = x := by rw [Int.tdiv_eq_ediv_of_nonneg (by omega), hx]; exact IntWalk.i64_in _ (by omega)
        obtain ⟨b1, b2, b3, b4, b5, b6, b7, b8, b9, _, _⟩ := room_bd (d := d) (R := m.rise) (F := m.fall) (w := x) d1 d2 (by omega) r2 (by omega) f2 x0 x1
        have s4 : IntKind.i64.wrap (x * x) = x * x := IntWalk.i64_in _ (by omega)
        have s5 : IntKind.i64.wrap (m.rise + m.fall) = m.rise + m.fall := IntWalk.i64_in _ (by omega)
        have s6 : IntKind.i64.wrap (x * x * (m.rise + m.fall)) = x * x * (m.rise + m.fall) := IntWalk.i64_in _ (by omega)
        have s7 : IntKind.i64.wrap (2 * d) = 2 * d := IntWalk.i64_in _ (by omega)
        have s8 : IntKind.i64.wrap (2 * d * m.rise) = 2 * d * m.rise := IntWalk.i64_in _ (by omega)
        have s9 : IntKind.i64.wrap (2 * d * m.rise * m.fall) = 2 * d * m.rise * m.fall := IntWalk.i64_in _ (by omega)
        have s10 : IntKind.i64.wrap (x - 1) = x - 1 := IntWalk.i64_in _ (by omega)
        by_cases q : x * x * (m.rise + m.fall) ≤ 2 * d * m.rise * m.fall
        · have z := decide_eq_true q
          have HN : Hid (Room d m.rise m.fall x) := Lib.hid (by unfold Room; omega)
          clear q b1 b2 b3 b4 b5 b6 b7 b8 b9
          go_wp2_with fail
          go_roundw
          case rel => exact ⟨x, hi, x0, by omega, l2, rfl, rfl, Lib.hid ⟨HN.out, HA.out.2⟩, hB, k3, k4⟩
          case measure => simp [intOf]; omega
        · have z := decide_eq_false q
          have HN : Hid (¬ Room d m.rise m.fall x) := Lib.hid (by unfold Room; omega)
          clear q b1 b2 b3 b4 b5 b6 b7 b8 b9
          go_wp2_with fail
          go_roundw
          case rel => exact ⟨lo, x - 1, l0, by omega, by omega, rfl, rfl, Lib.hid ⟨HA.out.1, .inr (by rw [show x - 1 + 1 = x by omega]; exact HN.out)⟩, hB, k3, k4⟩
          case measure => simp [intOf]; omega
      · have c' := decide_eq_false c
        obtain rfl : lo = hi := by omega
        have HR : Hid (lo = t) := Lib.hid (top_unique (by omega) (by omega) ⟨l0, l2, HA.out.1, HA.out.2⟩ HT.out)
        go_wp2_with fail
        go_ret
        exact ⟨ret_u HR.out, hB⟩

set_option maxRecDepth 100000 in
set_option maxHeartbeats 4000000 in
theorem room_any (d : Int) (m : Mv) (x : Int) (b : Bool) (hg : givenP d m = 0) (x0 : 0 ≤ x) (x1 : x ≤ 8192) (hb : Room d m.rise m.fall x ↔ b = true) (w : World) : Calls Try.prog 45 #[.int .i64 d, .agg #[.string m.name, .int .i64 m.to, .int .i64 m.spd, .int .i64 m.rise, .int .i64 m.fall], .int .i64 x] w fun e w' => e = .returned (.bool b) ∧ Below w.heap.size w w' := by
  obtain ⟨hv, hd⟩ := given_ok hg
  obtain ⟨v1, v2, r1, r2, f1, f2⟩ := valid_bds hv
  obtain ⟨d1, d2⟩ := inB_iff.1 hd
  obtain ⟨b1, b2, b3, b4, b5, b6, b7, b8, b9, b10, b11⟩ := room_bd (d := d) (R := m.rise) (F := m.fall) (w := x) d1 d2 (by omega) r2 (by omega) f2 x0 x1
  have s4 : IntKind.i64.wrap (x * x) = x * x := IntWalk.i64_in _ (by omega)
  have s5 : IntKind.i64.wrap (m.rise + m.fall) = m.rise + m.fall := IntWalk.i64_in _ (by omega)
  have s6 : IntKind.i64.wrap (x * x * (m.rise + m.fall)) = x * x * (m.rise + m.fall) := IntWalk.i64_in _ (by omega)
  have s7 : IntKind.i64.wrap (2 * m.rise) = 2 * m.rise := IntWalk.i64_in _ (by omega)
  have s8 : IntKind.i64.wrap (2 * m.rise * m.fall) = 2 * m.rise * m.fall := IntWalk.i64_in _ (by omega)
  have s9 : IntKind.i64.wrap (2 * m.rise * m.fall * d) = 2 * m.rise * m.fall * d := IntWalk.i64_in _ (by omega)
  have hb' : decide (x * x * (m.rise + m.fall) ≤ 2 * m.rise * m.fall * d) = b := by
    unfold Room at hb
    rw [Bool.eq_iff_iff, ← hb]
    simp
  clear b1 b2 b3 b4 b5 b6 b7 b8 b9 b10 b11 hb hg hv hd
  go_enter Try.func45, Try.ntmps45
  go_wp2_with fail
  go_ret
  exact ⟨ret_boolB (by first | rfl | exact hb'), below_new _ _⟩

set_option maxRecDepth 100000 in
set_option maxHeartbeats 4000000 in
theorem reftop_any (d : Int) (m : Mv) (t : Int) (hg : givenP d m = 0) (ht : IsTop d m.spd m.rise m.fall t) (w : World) : Calls Try.prog 15 #[.int .i64 d, .agg #[.string m.name, .int .i64 m.to, .int .i64 m.spd, .int .i64 m.rise, .int .i64 m.fall]] w fun e w' => e = .returned (.int .i64 t) ∧ Below w.heap.size w w' := by
  have HGV := Lib.hid hg
  obtain ⟨hv, hd⟩ := given_ok hg
  obtain ⟨v1, v2, r1, r2, f1, f2⟩ := valid_bds hv
  obtain ⟨d1, d2⟩ := inB_iff.1 hd
  have HT := Lib.hid ht
  clear hg hv hd ht
  go_enter Try.func15, Try.ntmps15
  go_wp2_with fail
  go_loopw [5, 6] (fun i k wr => ∃ x y : Int, ∃ j : Nat, 0 ≤ x ∧ x ≤ m.spd ∧ j ≤ 15 ∧ 0 ≤ y ∧ y ≤ 16384 ∧ i = .int .i64 x ∧ k = .int .i64 y ∧ Hid (y = (2 ^ j : Nat) / 2 ∧ Room d m.rise m.fall x ∧ ¬ (x + (2 ^ j : Nat) ≤ m.spd ∧ Room d m.rise m.fall (x + (2 ^ j : Nat)))) ∧ Below w.heap.size w wr ∧ wr.cell? ⟨w.heap.size, 0, none⟩ = some (.string m.name) ∧ wr.cell? ⟨w.heap.size, 1, none⟩ = some (.int .i64 m.to) ∧ wr.cell? ⟨w.heap.size, 2, none⟩ = some (.int .i64 m.spd) ∧ wr.cell? ⟨w.heap.size, 3, none⟩ = some (.int .i64 m.rise) ∧ wr.cell? ⟨w.heap.size, 4, none⟩ = some (.int .i64 m.fall)) (fun _ k _ => (intOf k).toNat)
  case atStart => exact ⟨0, 16384, 15, Int.le_refl _, by omega, Nat.le_refl _, by decide, Int.le_refl _, rfl, rfl, Lib.hid ⟨by decide, room_zero (by omega) (by omega) (by omega), fun h => by have := h.1; simp at this; omega⟩, below_new _ _, by simp, by simp, by simp, by simp, by simp⟩
  case round =>
    obtain ⟨x, y, j, x0, x1, j1, y0, y1, rfl, rfl, HA, hB, k0, k1, k2, k3, k4⟩ := hrel
    by_cases c : 0 < y
    · have c' := decide_eq_true c
      obtain ⟨j', rfl⟩ : ∃ j', j = j' + 1 := by
        cases j with
        | zero => have := HA.out.1; simp at this; omega
        | succ j' => exact ⟨j', rfl⟩
      have hy : y = (2 ^ j' : Nat) := by have := HA.out.1; rw [Nat.pow_succ] at this; omega
      have hyy : ((2 ^ (j' + 1) : Nat) : Int) = y + y := by rw [Nat.pow_succ]; omega
      have s1 : IntKind.i64.wrap (x + y) = x + y := IntWalk.i64_in _ (by omega)
      have s2 : IntKind.i64.wrap (y.tdiv 2) = y / 2 := by rw [Int.tdiv_eq_ediv_of_nonneg (by omega)]; exact IntWalk.i64_in _ (by omega)
      have hbz : w.heap.size < wr.heap.size := World.block_lt_of_cell? _ _ k0
      have HN : Hid (¬ (x + y + y ≤ m.spd ∧ Room d m.rise m.fall (x + y + y))) := Lib.hid (by have := HA.out.2.2; rw [hyy] at this; rw [Int.add_assoc]; exact this)
      have HY : Hid (y / 2 = ((2 ^ j' : Nat) : Int) / 2) := Lib.hid (by rw [hy])
      have HY2 := Lib.hid hy
      clear hy hyy
      by_cases q1 : x + y ≤ m.spd
      · have z1 := decide_eq_true q1
        by_cases q2 : Room d m.rise m.fall (x + y)
        · have HC := Lib.hid (room_any d m (x + y) true HGV.out (by omega) (by omega) ⟨fun _ => rfl, fun _ => q2⟩)
          have HQ := Lib.hid q2
          clear q2
          go_wp2_with (go_at_call 45; (with_reducible refine (HC.out _).mono ?_); rintro e w1 ⟨rfl, hb1⟩)
          go_roundw
          case rel => exact ⟨x + y, y / 2, j', by omega, q1, by omega, by omega, by omega, rfl, rfl, Lib.hid ⟨HY.out, HQ.out, by rw [← HY2.out]; exact HN.out⟩, hB.trans (hb1.mono hB.size), (hb1.cell (p := ⟨w.heap.size, 0, none⟩) hbz).trans k0, (hb1.cell (p := ⟨w.heap.size, 1, none⟩) hbz).trans k1, (hb1.cell (p := ⟨w.heap.size, 2, none⟩) hbz).trans k2, (hb1.cell (p := ⟨w.heap.size, 3, none⟩) hbz).trans k3, (hb1.cell (p := ⟨w.heap.size, 4, none⟩) hbz).trans k4⟩
          case measure => simp [intOf]; omega
        · have HC := Lib.hid (room_any d m (x + y) false HGV.out (by omega) (by omega) ⟨fun h => absurd h q2, fun h => by cases h⟩)
          have HQ := Lib.hid q2
          clear q2
          go_wp2_with (go_at_call 45; (with_reducible refine (HC.out _).mono ?_); rintro e w1 ⟨rfl, hb1⟩)
          go_roundw
          case rel => exact ⟨x, y / 2, j', x0, x1, by omega, by omega, by omega, rfl, rfl, Lib.hid ⟨HY.out, HA.out.2.1, by rw [← HY2.out]; exact fun h => HQ.out h.2⟩, hB.trans (hb1.mono hB.size), (hb1.cell (p := ⟨w.heap.size, 0, none⟩) hbz).trans k0, (hb1.cell (p := ⟨w.heap.size, 1, none⟩) hbz).trans k1, (hb1.cell (p := ⟨w.heap.size, 2, none⟩) hbz).trans k2, (hb1.cell (p := ⟨w.heap.size, 3, none⟩) hbz).trans k3, (hb1.cell (p := ⟨w.heap.size, 4, none⟩) hbz).trans k4⟩
          case measure => simp [intOf]; omega
      · have z1 := decide_eq_false q1
        have HQ := Lib.hid q1
        clear q1
        go_wp2_with fail
        go_roundw
        case rel => exact ⟨x, y / 2, j', x0, x1, by omega, by omega, by omega, rfl, rfl, Lib.hid ⟨HY.out, HA.out.2.1, by rw [← HY2.out]; exact fun h => HQ.out h.1⟩, hB, k0, k1, k2, k3, k4⟩
        case measure => simp [intOf]; omega
    · have c' := decide_eq_false c
      have HR : Hid (x = t) := Lib.hid (by
        obtain ⟨e, r, n⟩ := HA.out
        have hy : y = 0 := by omega
        cases j with
        | zero =>
          refine top_unique (by omega) (by omega) ⟨x0, x1, r, ?_⟩ HT.out
          simp only [Nat.pow_zero] at n
          by_cases e1 : x = m.spd
          · exact .inl e1
          · exact .inr fun h => n ⟨by omega, h⟩
        | succ j' => rw [Nat.pow_succ] at e; have := Nat.two_pow_pos j'; omega)
      go_wp2_with fail
      go_ret
      exact ⟨ret_u HR.out, hB⟩

def topR (d : Int) (m : Mv) (t : Int) : Int := if givenP d m = 0 then t else 0
set_option maxRecDepth 100000 in
set_option maxHeartbeats 4000000 in
theorem Top_any (d : Int) (m : Mv) (t : Int) (ht : givenP d m = 0 → IsTop d m.spd m.rise m.fall t) (w : World) : Calls Try.prog 11 #[.int .i64 d, .agg #[.string m.name, .int .i64 m.to, .int .i64 m.spd, .int .i64 m.rise, .int .i64 m.fall]] w fun e w' => e = .returned (.tuple #[.int .i64 (topR d m t), .int .i64 (givenP d m)]) ∧ Below w.heap.size w w' := by
  by_cases hg : givenP d m = 0
  · have HG := Lib.hid hg
    have HR : Hid (topR d m t = t) := Lib.hid (by unfold topR; rw [if_pos hg])
    have HC := Lib.hid (top_any d m t hg (ht hg))
    rw [HR.out, HG.out]
    clear hg ht
    go_enter Try.func11, Try.ntmps11
    go_wp2_with (first
      | (go_at_call 39; (with_reducible refine (given_any d m _).mono ?_); rintro e w1 ⟨rfl, hb1⟩; rw [HG.out]; have hB1 := (below_new w (.cells #[.string m.name, .int .i64 m.to, .int .i64 m.spd, .int .i64 m.rise, .int .i64 m.fall] 23)).trans (hb1.mono (by simp)); have k0 : w1.cell? ⟨w.heap.size, 0, none⟩ = some (.string m.name) := (hb1.cell (p := ⟨w.heap.size, 0, none⟩) (by simp)).trans (by simp); have k1 : w1.cell? ⟨w.heap.size, 1, none⟩ = some (.int .i64 m.to) := (hb1.cell (p := ⟨w.heap.size, 1, none⟩) (by simp)).trans (by simp); have k2 : w1.cell? ⟨w.heap.size, 2, none⟩ = some (.int .i64 m.spd) := (hb1.cell (p := ⟨w.heap.size, 2, none⟩) (by simp)).trans (by simp); have k3 : w1.cell? ⟨w.heap.size, 3, none⟩ = some (.int .i64 m.rise) := (hb1.cell (p := ⟨w.heap.size, 3, none⟩) (by simp)).trans (by simp); have k4 : w1.cell? ⟨w.heap.size, 4, none⟩ = some (.int .i64 m.fall) := (hb1.cell (p := ⟨w.heap.size, 4, none⟩) (by simp)).trans (by simp))
      | (go_at_call 40; (with_reducible refine (HC.out _).mono ?_); rintro e w2 ⟨rfl, hb2⟩))
    go_ret2
    exact ⟨rfl, hB1.trans (hb2.mono hB1.size)⟩
  · have HR : Hid (topR d m t = 0) := Lib.hid (by unfold topR; rw [if_neg hg])
    rw [HR.out]
    obtain ⟨g, hgg⟩ : ∃ g, givenP d m = g := ⟨_, rfl⟩
    have HG := Lib.hid hgg
    rw [hgg] at hg
    rw [hgg]
    have hg' : (g == 0) = false := by simpa using hg
    have hg'' : (g != 0) = true := by simpa using hg
    clear hgg ht hg
    go_enter Try.func11, Try.ntmps11
    go_wp2_with (first
      | (go_at_call 39; (with_reducible refine (given_any d m _).mono ?_); rintro e w1 ⟨rfl, hb1⟩; rw [HG.out]; have hB1 := (below_new w (.cells #[.string m.name, .int .i64 m.to, .int .i64 m.spd, .int .i64 m.rise, .int .i64 m.fall] 23)).trans (hb1.mono (by simp))))
    go_ret2
    exact ⟨rfl, hB1⟩
end Go.Proofs.Ytlgpolfbilkmbaa
