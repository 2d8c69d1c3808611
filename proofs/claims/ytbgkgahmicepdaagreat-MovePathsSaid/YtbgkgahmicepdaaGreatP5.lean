/-
  PLAIN: the top speed: the greatest speed that can be reached, and left, over the distance.
-/
import Derived.Outline
import Derived.StillTailTactics
import Derived.Shelf.Small.Bits
import Derived.Shelf.Strconv.Itoa0
import Derived.Shelf.Bits.Mul64
import Derived.Test.YtbgkgahmicepdaaGreatProg
import Derived.Shelf.Spec.BitsCarry
import Derived.Test.YtbgkgahmicepdaaGreatP2
namespace Go.Proofs.YtbgkgahmicepdaaGreat
set_option maxRecDepth 100000
set_option maxHeartbeats 80000000
section
def Room (d R F w : Int) : Prop := w * w * (R + F) ≤ 2 * R * F * d
def IsTop (d V R F t : Int) : Prop := 0 ≤ t ∧ t ≤ V ∧ Room d R F t ∧ (t = V ∨ ¬ Room d R F (t + 1))
theorem room_mono {d R F v w : Int} (hR : 0 ≤ R) (hF : 0 ≤ F) (hv : 0 ≤ v) (h : v ≤ w) (r : Room d R F w) : Room d R F v := by
 unfold Room at *;have h1 : v * v ≤ w * w := Int.mul_le_mul h h hv (by omega);have h2 : v * v * (R + F) ≤ w * w * (R + F) := Int.mul_le_mul_of_nonneg_right h1 (by omega);omega
theorem top_unique {d V R F s t : Int} (hR : 0 ≤ R) (hF : 0 ≤ F) (hs : IsTop d V R F s) (ht : IsTop d V R F t) : s = t := by
 obtain ⟨s0, s1, s2, s3⟩ := hs;obtain ⟨t0, t1, t2, t3⟩ := ht;rcases Int.lt_trichotomy s t with l | l | l
 ·rcases s3 with e | e
  ·omega
  ·exact absurd (room_mono hR hF (by omega) (by omega) t2) e
 ·exact l
 ·rcases t3 with e | e
  ·omega
  ·exact absurd (room_mono hR hF (by omega) (by omega) s2) e
theorem room_zero {d R F : Int} (hR : 0 ≤ R) (hF : 0 ≤ F) (hd : 0 ≤ d) : Room d R F 0 := by
 unfold Room;have := Int.mul_nonneg (Int.mul_nonneg (Int.mul_nonneg (show (0 : Int) ≤ 2 by decide) hR) hF) hd
 simpa using this
theorem top_ex {d R F : Int} (hR : 0 ≤ R) (hF : 0 ≤ F) (hd : 0 ≤ d) (n : Nat) : ∃ t, IsTop d n R F t := by
 induction n with
 | zero => exact ⟨0, Int.le_refl _, Int.le_refl _, room_zero hR hF hd, .inl rfl⟩
 | succ n ih =>
  obtain ⟨t, t0, t1, t2, t3⟩ := ih;rcases t3 with e | e
  ·by_cases c : Room d R F (t + 1)
   ·exact ⟨t + 1, by omega, by omega, c, .inl (by omega)⟩
   ·exact ⟨t, t0, by omega, t2, .inr c⟩
  ·exact ⟨t, t0, by omega, t2, .inr e⟩
theorem top_exI {d V R F : Int} (hR : 0 ≤ R) (hF : 0 ≤ F) (hd : 0 ≤ d) (hV : 0 ≤ V) : ∃ t, IsTop d V R F t := by
 obtain ⟨n, rfl⟩ := Int.eq_ofNat_of_zero_le hV;exact top_ex hR hF hd n
theorem top_zero {V R F : Int} (hR : 0 < R) (hF : 0 < F) (hV : 0 ≤ V) : IsTop 0 V R F 0 := by
 refine ⟨Int.le_refl _, hV, room_zero (by omega) (by omega) (Int.le_refl _), .inr ?_⟩;unfold Room
 simp
 omega
theorem room_bd {d R F w : Int} (d0 : 0 ≤ d) (d1 : d ≤ 1048576) (R0 : 0 ≤ R) (R1 : R ≤ 16384) (F0 : 0 ≤ F) (F1 : F ≤ 16384) (w0 : 0 ≤ w) (w1 : w ≤ 8192) :
  0 ≤ w * w ∧ w * w ≤ 67108864 ∧ 0 ≤ w * w * (R + F) ∧ w * w * (R + F) ≤ 2199023255552 ∧ 0 ≤ 2 * d * R ∧ 2 * d * R ≤ 34359738368 ∧ 0 ≤ 2 * d * R * F ∧ 2 * d * R * F ≤ 562949953421312 ∧ 2 * d * R * F = 2 * R * F * d ∧ 0 ≤ 2 * R * F ∧ 2 * R * F ≤ 536870912 := by
 have a0 := Int.mul_nonneg w0 w0;have a1 : w * w ≤ 8192 * 8192 := Int.mul_le_mul w1 w1 w0 (by decide);have b0 := Int.mul_nonneg a0 (show 0 ≤ R + F by omega);have b1 : w * w * (R + F) ≤ 67108864 * 32768 := Int.mul_le_mul (by omega) (by omega) (by omega) (by decide);have c0 := Int.mul_nonneg (show 0 ≤ 2 * d by omega) R0;have c1 : 2 * d * R ≤ 2097152 * 16384 := Int.mul_le_mul (by omega) (by omega) (by omega) (by decide);have e0 := Int.mul_nonneg c0 F0;have e1 : 2 * d * R * F ≤ 34359738368 * 16384 := Int.mul_le_mul (by omega) (by omega) (by omega) (by decide);have f0 := Int.mul_nonneg (show 0 ≤ 2 * R by omega) F0;have f1 : 2 * R * F ≤ 32768 * 16384 := Int.mul_le_mul (by omega) (by omega) (by omega) (by decide);refine ⟨a0, by omega, b0, by omega, c0, by omega, e0, by omega, by ac_rfl, f0, by omega⟩
end
section
open Go.RowKit Go.Shelf
structure Mv where
 name : ByteArray
 to : Int
 spd : Int
 rise : Int
 fall : Int
def inB (n lo hi : Int) : Bool := decide (lo ≤ n) && decide (n ≤ hi)
theorem inB_iff {n lo hi : Int} : inB n lo hi = true ↔ lo ≤ n ∧ n ≤ hi := by simp [inB]
theorem inB_not {n lo hi : Int} : inB n lo hi = false ↔ ¬ (lo ≤ n ∧ n ≤ hi) := by rw [← inB_iff]; simp
def validM (m : Mv) : Bool := isNameB m.name && (inB m.to (-1048576) 1048576 && (inB m.spd 1 8192 && (inB m.rise 1 16384 && inB m.fall 1 16384)))
def givenP (d : Int) (m : Mv) : Int := if validM m then (if inB d 0 1048576 then 0 else 2) else 1
theorem given_ok {d : Int} {m : Mv} (h : givenP d m = 0) : validM m = true ∧ inB d 0 1048576 = true := by
 unfold givenP at h
 cases e : validM m
 ·rw [e] at h; simp at h
 ·rw [e, if_pos rfl] at h
  cases f : inB d 0 1048576
  ·rw [f] at h; simp at h
  ·exact ⟨rfl, rfl⟩
theorem ret_boolB {a b : Bool} (h : a = b) : Ending.returned (.bool a) = .returned (.bool b) := by rw [h]
theorem within_any (n lo hi : Int) (w : World) : Calls Tryz.prog 104 #[.int .i64 n, .int .i64 lo, .int .i64 hi] w fun e w' => e = .returned (.bool (inB n lo hi)) ∧ w = w' := by
 go_enter Tryz.func104, Tryz.ntmps104
 go_wp2
 all_goals (go_ret; exact ⟨ret_boolB (by unfold inB; rw [Bool.eq_iff_iff]; simp; omega), rfl⟩)
theorem refwithin_any (n hi : Int) (w : World) : Calls Tryz.prog 97 #[.int .i64 n, .int .i64 hi] w fun e w' => e = .returned (.bool (inB n 1 hi)) ∧ w = w' := by
 go_enter Tryz.func97, Tryz.ntmps97
 go_wp2
 all_goals (go_ret; exact ⟨ret_boolB (by unfold inB; rw [Bool.eq_iff_iff]; simp; omega), rfl⟩)
theorem valid_anyM (m : Mv) (w : World) : Calls Tryz.prog 59 #[.agg #[.string m.name, .int .i64 m.to, .int .i64 m.spd, .int .i64 m.rise, .int .i64 m.fall]] w fun e w' => e = .returned (.bool (validM m)) ∧ Below w.heap.size w w' := by
 cases h0 : isNameB m.name
 ·have H0 := lh h0
  clear h0;have HV : Hid (validM m = false) := lh (by unfold validM; rw [H0.out]; rfl);rw [HV.out]
  go_enter Tryz.func59, Tryz.ntmps59
  go_wp2_with (first
    | (go_at_call 100; (with_reducible refine (isName_any m.name _).mono ?_); rintro e w' ⟨rfl, rfl⟩; rw [H0.out]))
  go_ret;exact ⟨rfl, below_new _ _⟩
 have H0 := lh h0;clear h0
 cases h1 : inB m.to (-1048576) 1048576
 ·have H1 := lh h1
  clear h1;have HV : Hid (validM m = false) := lh (by unfold validM; rw [H0.out, H1.out]; rfl);rw [HV.out]
  go_enter Tryz.func59, Tryz.ntmps59
  go_wp2_with (first
    | (go_at_call 100; (with_reducible refine (isName_any m.name _).mono ?_); rintro e w' ⟨rfl, rfl⟩; rw [H0.out])
    | (go_at_call 104; (with_reducible refine (within_any m.to (-1048576) 1048576 _).mono ?_); rintro e w' ⟨rfl, rfl⟩; rw [H1.out]))
  go_ret;exact ⟨rfl, below_new _ _⟩
 have H1 := lh h1;clear h1
 cases h2 : inB m.spd 1 8192
 ·have H2 := lh h2
  clear h2;have HV : Hid (validM m = false) := lh (by unfold validM; rw [H0.out, H1.out, H2.out]; rfl);rw [HV.out]
  go_enter Tryz.func59, Tryz.ntmps59
  go_wp2_with (first
    | (go_at_call 100; (with_reducible refine (isName_any m.name _).mono ?_); rintro e w' ⟨rfl, rfl⟩; rw [H0.out])
    | (go_at_call 104; (with_reducible refine (within_any m.to (-1048576) 1048576 _).mono ?_); rintro e w' ⟨rfl, rfl⟩; rw [H1.out])
    | (go_at_call 104; (with_reducible refine (within_any m.spd 1 8192 _).mono ?_); rintro e w' ⟨rfl, rfl⟩; rw [H2.out]))
  go_ret;exact ⟨rfl, below_new _ _⟩
 have H2 := lh h2;clear h2
 cases h3 : inB m.rise 1 16384
 ·have H3 := lh h3
  clear h3;have HV : Hid (validM m = false) := lh (by unfold validM; rw [H0.out, H1.out, H2.out, H3.out]; rfl);rw [HV.out]
  go_enter Tryz.func59, Tryz.ntmps59
  go_wp2_with (first
    | (go_at_call 100; (with_reducible refine (isName_any m.name _).mono ?_); rintro e w' ⟨rfl, rfl⟩; rw [H0.out])
    | (go_at_call 104; (with_reducible refine (within_any m.to (-1048576) 1048576 _).mono ?_); rintro e w' ⟨rfl, rfl⟩; rw [H1.out])
    | (go_at_call 104; (with_reducible refine (within_any m.spd 1 8192 _).mono ?_); rintro e w' ⟨rfl, rfl⟩; rw [H2.out])
    | (go_at_call 104; (with_reducible refine (within_any m.rise 1 16384 _).mono ?_); rintro e w' ⟨rfl, rfl⟩; rw [H3.out]))
  go_ret;exact ⟨rfl, below_new _ _⟩
 have H3 := lh h3;clear h3
 cases h4 : inB m.fall 1 16384
 ·have H4 := lh h4
  clear h4;have HV : Hid (validM m = false) := lh (by unfold validM; rw [H0.out, H1.out, H2.out, H3.out, H4.out]; rfl);rw [HV.out]
  go_enter Tryz.func59, Tryz.ntmps59
  go_wp2_with (first
    | (go_at_call 100; (with_reducible refine (isName_any m.name _).mono ?_); rintro e w' ⟨rfl, rfl⟩; rw [H0.out])
    | (go_at_call 104; (with_reducible refine (within_any m.to (-1048576) 1048576 _).mono ?_); rintro e w' ⟨rfl, rfl⟩; rw [H1.out])
    | (go_at_call 104; (with_reducible refine (within_any m.spd 1 8192 _).mono ?_); rintro e w' ⟨rfl, rfl⟩; rw [H2.out])
    | (go_at_call 104; (with_reducible refine (within_any m.rise 1 16384 _).mono ?_); rintro e w' ⟨rfl, rfl⟩; rw [H3.out])
    | (go_at_call 104; (with_reducible refine (within_any m.fall 1 16384 _).mono ?_); rintro e w' ⟨rfl, rfl⟩; rw [H4.out]))
  go_ret;exact ⟨rfl, below_new _ _⟩
 have H4 := lh h4;clear h4;have HV : Hid (validM m = true) := lh (by unfold validM; rw [H0.out, H1.out, H2.out, H3.out, H4.out]; rfl);rw [HV.out]
 go_enter Tryz.func59, Tryz.ntmps59
 go_wp2_with (first
   | (go_at_call 100; (with_reducible refine (isName_any m.name _).mono ?_); rintro e w' ⟨rfl, rfl⟩; rw [H0.out])
   | (go_at_call 104; (with_reducible refine (within_any m.to (-1048576) 1048576 _).mono ?_); rintro e w' ⟨rfl, rfl⟩; rw [H1.out])
   | (go_at_call 104; (with_reducible refine (within_any m.spd 1 8192 _).mono ?_); rintro e w' ⟨rfl, rfl⟩; rw [H2.out])
   | (go_at_call 104; (with_reducible refine (within_any m.rise 1 16384 _).mono ?_); rintro e w' ⟨rfl, rfl⟩; rw [H3.out])
   | (go_at_call 104; (with_reducible refine (within_any m.fall 1 16384 _).mono ?_); rintro e w' ⟨rfl, rfl⟩; rw [H4.out]))
 go_ret;exact ⟨rfl, below_new _ _⟩
theorem refvalid_anyM (m : Mv) (w : World) : Calls Tryz.prog 51 #[.agg #[.string m.name, .int .i64 m.to, .int .i64 m.spd, .int .i64 m.rise, .int .i64 m.fall]] w fun e w' => e = .returned (.bool (validM m)) ∧ Below w.heap.size w w' := by
 cases h0 : isNameB m.name
 ·have H0 := lh h0
  clear h0;have HV : Hid (validM m = false) := lh (by unfold validM; rw [H0.out]; rfl);rw [HV.out]
  go_enter Tryz.func51, Tryz.ntmps51
  go_wp2_with (first
    | (go_at_call 94; (with_reducible refine (refisName_any m.name _).mono ?_); rintro e w' ⟨rfl, rfl⟩; rw [H0.out]))
  go_ret;exact ⟨rfl, below_new _ _⟩
 have H0 := lh h0;clear h0
 cases h1 : inB m.to (-1048576) 1048576
 ·have H1 := lh h1
  by_cases cl : m.to < -1048576
  ·have cl' := decide_eq_true cl
   clear cl h1;have HV : Hid (validM m = false) := lh (by unfold validM; rw [H0.out, H1.out]; rfl);rw [HV.out]
   go_enter Tryz.func51, Tryz.ntmps51
   go_wp2_with (first
     | (go_at_call 94; (with_reducible refine (refisName_any m.name _).mono ?_); rintro e w' ⟨rfl, rfl⟩; rw [H0.out]))
   go_ret;exact ⟨rfl, below_new _ _⟩
  ·have cg : 1048576 < m.to := by have := inB_not.1 h1; omega
   have cl' := decide_eq_false cl;have cg' := decide_eq_true cg;clear cl h1;have HV : Hid (validM m = false) := lh (by unfold validM; rw [H0.out, H1.out]; rfl);rw [HV.out]
   go_enter Tryz.func51, Tryz.ntmps51
   go_wp2_with (first
     | (go_at_call 94; (with_reducible refine (refisName_any m.name _).mono ?_); rintro e w' ⟨rfl, rfl⟩; rw [H0.out]))
   go_ret;exact ⟨rfl, below_new _ _⟩
 have H1 := lh h1;have cl : ¬ m.to < -1048576 := by have := inB_iff.1 h1; omega
 have cg : ¬ 1048576 < m.to := by have := inB_iff.1 h1; omega
 have cl' := decide_eq_false cl;have cg' := decide_eq_false cg;clear h1
 cases h2 : inB m.spd 1 8192
 ·have H2 := lh h2
  clear h2;have HV : Hid (validM m = false) := lh (by unfold validM; rw [H0.out, H1.out, H2.out]; rfl);rw [HV.out]
  go_enter Tryz.func51, Tryz.ntmps51
  go_wp2_with (first
    | (go_at_call 94; (with_reducible refine (refisName_any m.name _).mono ?_); rintro e w' ⟨rfl, rfl⟩; rw [H0.out])
    | (go_at_call 97; (with_reducible refine (refwithin_any m.spd 8192 _).mono ?_); rintro e w' ⟨rfl, rfl⟩; rw [H2.out]))
  go_ret;exact ⟨rfl, below_new _ _⟩
 have H2 := lh h2;clear h2
 cases h3 : inB m.rise 1 16384
 ·have H3 := lh h3
  clear h3;have HV : Hid (validM m = false) := lh (by unfold validM; rw [H0.out, H1.out, H2.out, H3.out]; rfl);rw [HV.out]
  go_enter Tryz.func51, Tryz.ntmps51
  go_wp2_with (first
    | (go_at_call 94; (with_reducible refine (refisName_any m.name _).mono ?_); rintro e w' ⟨rfl, rfl⟩; rw [H0.out])
    | (go_at_call 97; (with_reducible refine (refwithin_any m.spd 8192 _).mono ?_); rintro e w' ⟨rfl, rfl⟩; rw [H2.out])
    | (go_at_call 97; (with_reducible refine (refwithin_any m.rise 16384 _).mono ?_); rintro e w' ⟨rfl, rfl⟩; rw [H3.out]))
  go_ret;exact ⟨rfl, below_new _ _⟩
 have H3 := lh h3;clear h3
 cases h4 : inB m.fall 1 16384
 ·have H4 := lh h4
  clear h4;have HV : Hid (validM m = false) := lh (by unfold validM; rw [H0.out, H1.out, H2.out, H3.out, H4.out]; rfl);rw [HV.out]
  go_enter Tryz.func51, Tryz.ntmps51
  go_wp2_with (first
    | (go_at_call 94; (with_reducible refine (refisName_any m.name _).mono ?_); rintro e w' ⟨rfl, rfl⟩; rw [H0.out])
    | (go_at_call 97; (with_reducible refine (refwithin_any m.spd 8192 _).mono ?_); rintro e w' ⟨rfl, rfl⟩; rw [H2.out])
    | (go_at_call 97; (with_reducible refine (refwithin_any m.rise 16384 _).mono ?_); rintro e w' ⟨rfl, rfl⟩; rw [H3.out])
    | (go_at_call 97; (with_reducible refine (refwithin_any m.fall 16384 _).mono ?_); rintro e w' ⟨rfl, rfl⟩; rw [H4.out]))
  go_ret;exact ⟨rfl, below_new _ _⟩
 have H4 := lh h4;clear h4;have HV : Hid (validM m = true) := lh (by unfold validM; rw [H0.out, H1.out, H2.out, H3.out, H4.out]; rfl);rw [HV.out]
 go_enter Tryz.func51, Tryz.ntmps51
 go_wp2_with (first
   | (go_at_call 94; (with_reducible refine (refisName_any m.name _).mono ?_); rintro e w' ⟨rfl, rfl⟩; rw [H0.out])
   | (go_at_call 97; (with_reducible refine (refwithin_any m.spd 8192 _).mono ?_); rintro e w' ⟨rfl, rfl⟩; rw [H2.out])
   | (go_at_call 97; (with_reducible refine (refwithin_any m.rise 16384 _).mono ?_); rintro e w' ⟨rfl, rfl⟩; rw [H3.out])
   | (go_at_call 97; (with_reducible refine (refwithin_any m.fall 16384 _).mono ?_); rintro e w' ⟨rfl, rfl⟩; rw [H4.out]))
 go_ret;exact ⟨rfl, below_new _ _⟩

theorem given_any (d : Int) (m : Mv) (w : World) : Calls Tryz.prog 85 #[.int .i64 d, .agg #[.string m.name, .int .i64 m.to, .int .i64 m.spd, .int .i64 m.rise, .int .i64 m.fall]] w fun e w' => e = .returned (.int .i64 (givenP d m)) ∧ Below w.heap.size w w' := by
 have HI : Hid (∀ b, validM m = b → givenP d m = if b then (if inB d 0 1048576 then 0 else 2) else 1) := lh fun b h => by unfold givenP; rw [h]
 cases h1 : validM m
 ·have H1 := lh h1
  have HR : Hid (givenP d m = 1) := lh (HI.out _ h1);rw [HR.out];clear h1
  go_enter Tryz.func85, Tryz.ntmps85
  go_wp2_with (first
   | (go_at_call 59; (with_reducible refine (valid_anyM m _).mono ?_); rintro e w1 ⟨rfl, hb1⟩; rw [H1.out]))
  go_ret;exact ⟨rfl, (below_new _ _).trans (hb1.mono (by simp))⟩
 have H1 := lh h1
 cases h2 : inB d 0 1048576
 ·have H2 := lh h2
  have HR : Hid (givenP d m = 2) := lh ((HI.out _ h1).trans (by rw [h2]; rfl));rw [HR.out];clear h1 h2
  go_enter Tryz.func85, Tryz.ntmps85
  go_wp2_with (first
   | (go_at_call 59; (with_reducible refine (valid_anyM m _).mono ?_); rintro e w1 ⟨rfl, hb1⟩; rw [H1.out])
   | (go_at_call 104; (with_reducible refine (within_any d 0 1048576 _).mono ?_); rintro e w' ⟨rfl, rfl⟩; rw [H2.out]))
  go_ret;exact ⟨rfl, (below_new _ _).trans (hb1.mono (by simp))⟩
 ·have H2 := lh h2
  have HR : Hid (givenP d m = 0) := lh ((HI.out _ h1).trans (by rw [h2]; rfl));rw [HR.out];clear h1 h2
  go_enter Tryz.func85, Tryz.ntmps85
  go_wp2_with (first
   | (go_at_call 59; (with_reducible refine (valid_anyM m _).mono ?_); rintro e w1 ⟨rfl, hb1⟩; rw [H1.out])
   | (go_at_call 104; (with_reducible refine (within_any d 0 1048576 _).mono ?_); rintro e w' ⟨rfl, rfl⟩; rw [H2.out]))
  go_ret;exact ⟨rfl, (below_new _ _).trans (hb1.mono (by simp))⟩
theorem valid_bds {m : Mv} (h : validM m = true) : 1 ≤ m.spd ∧ m.spd ≤ 8192 ∧ 1 ≤ m.rise ∧ m.rise ≤ 16384 ∧ 1 ≤ m.fall ∧ m.fall ≤ 16384 := by
 unfold validM at h;simp only [Bool.and_eq_true, inB_iff] at h;omega

theorem top_any (d : Int) (m : Mv) (t : Int) (hg : givenP d m = 0) (ht : IsTop d m.spd m.rise m.fall t) (w : World) : Calls Tryz.prog 86 #[.int .i64 d, .agg #[.string m.name, .int .i64 m.to, .int .i64 m.spd, .int .i64 m.rise, .int .i64 m.fall]] w fun e w' => e = .returned (.int .i64 t) ∧ Below w.heap.size w w' := by
 obtain ⟨hv, hd⟩ := given_ok hg;obtain ⟨v1, v2, r1, r2, f1, f2⟩ := valid_bds hv;obtain ⟨d1, d2⟩ := inB_iff.1 hd;have HT := lh ht;clear hg hv hd ht
 by_cases dz : d = 0
 ·have HR : Hid (t = 0) := lh (top_unique (by omega) (by omega) HT.out (by rw [dz]; exact top_zero (by omega) (by omega) (by omega)))
  subst dz;rw [HR.out]
  go_enter Tryz.func86, Tryz.ntmps86
  go_wp2_with fail
  go_quiet (fail)
  go_wp2_with fail
  go_ret;exact ⟨rfl, below_drewN (below_new _ _) _⟩
 ·have dz' : (d == 0) = false := by simpa using dz
  clear dz
  go_enter Tryz.func86, Tryz.ntmps86
  go_wp2_with fail
  go_quiet (fail)
  go_wp2_with fail
  go_loopw [5, 6] (fun i j wr => ∃ lo hi : Int, 0 ≤ lo ∧ lo ≤ hi ∧ hi ≤ m.spd ∧ i = .int .i64 lo ∧ j = .int .i64 hi ∧ Hid (Room d m.rise m.fall lo ∧ (hi = m.spd ∨ ¬ Room d m.rise m.fall (hi + 1))) ∧ Below w.heap.size w wr ∧ wr.cell? ⟨w.heap.size, 3, none⟩ = some (.int .i64 m.rise) ∧ wr.cell? ⟨w.heap.size, 4, none⟩ = some (.int .i64 m.fall)) (fun i j _ => (intOf j - intOf i).toNat)
  case atStart => exact ⟨0, m.spd, Int.le_refl _, by omega, Int.le_refl _, rfl, rfl, lh ⟨room_zero (by omega) (by omega) (by omega), .inl rfl⟩, below_drewN (below_new _ _) _, by simp, by simp⟩
  case round =>
   obtain ⟨lo, hi, l0, l1, l2, rfl, rfl, HA, hB, k3, k4⟩ := hrel
   by_cases c : lo < hi
   ·obtain ⟨x, hx⟩ := nm ((lo + hi + 1) / 2)
    have x0 : 0 ≤ x := by omega
    have x1 : x ≤ 8192 := by omega
    have s1 : IntKind.i64.wrap (lo + hi) = lo + hi := IntWalk.i64_in _ (by omega);have s2 : IntKind.i64.wrap (lo + hi + 1) = lo + hi + 1 := IntWalk.i64_in _ (by omega);have s3 : IntKind.i64.wrap ((lo + hi + 1).tdiv 2) = x := by rw [Int.tdiv_eq_ediv_of_nonneg (by omega), hx]; exact IntWalk.i64_in _ (by omega)
    obtain ⟨b1, b2, b3, b4, b5, b6, b7, b8, b9, _, _⟩ := room_bd (d := d) (R := m.rise) (F := m.fall) (w := x) d1 d2 (by omega) r2 (by omega) f2 x0 x1;have s4 : IntKind.i64.wrap (x * x) = x * x := IntWalk.i64_in _ (by omega);have s5 : IntKind.i64.wrap (m.rise + m.fall) = m.rise + m.fall := IntWalk.i64_in _ (by omega);have s6 : IntKind.i64.wrap (x * x * (m.rise + m.fall)) = x * x * (m.rise + m.fall) := IntWalk.i64_in _ (by omega);have s7 : IntKind.i64.wrap (2 * d) = 2 * d := IntWalk.i64_in _ (by omega);have s8 : IntKind.i64.wrap (2 * d * m.rise) = 2 * d * m.rise := IntWalk.i64_in _ (by omega);have s9 : IntKind.i64.wrap (2 * d * m.rise * m.fall) = 2 * d * m.rise * m.fall := IntWalk.i64_in _ (by omega);have s10 : IntKind.i64.wrap (x - 1) = x - 1 := IntWalk.i64_in _ (by omega)
    by_cases q : x * x * (m.rise + m.fall) ≤ 2 * d * m.rise * m.fall
    ·have z := decide_eq_true q
     have HN : Hid (Room d m.rise m.fall x) := lh (by unfold Room; omega);clear q b1 b2 b3 b4 b5 b6 b7 b8 b9
     go_wp2_with fail
     go_roundw
     case rel => exact ⟨x, hi, x0, by omega, l2, rfl, rfl, lh ⟨HN.out, HA.out.2⟩, hB, k3, k4⟩
     case measure => simp [intOf]; omega
    ·have z := decide_eq_false q
     have HN : Hid (¬ Room d m.rise m.fall x) := lh (by unfold Room; omega);clear q b1 b2 b3 b4 b5 b6 b7 b8 b9
     go_wp2_with fail
     go_roundw
     case rel => exact ⟨lo, x - 1, l0, by omega, by omega, rfl, rfl, lh ⟨HA.out.1, .inr (by rw [show x - 1 + 1 = x by omega]; exact HN.out)⟩, hB, k3, k4⟩
     case measure => simp [intOf]; omega
   ·have c' := decide_eq_false c
    obtain rfl : lo = hi := by omega
    have HR : Hid (lo = t) := lh (top_unique (by omega) (by omega) ⟨l0, l2, HA.out.1, HA.out.2⟩ HT.out)
    go_wp2_with fail
    go_ret;exact ⟨ret_u HR.out, hB⟩

theorem room_any (d : Int) (m : Mv) (x : Int) (b : Bool) (hg : givenP d m = 0) (x0 : 0 ≤ x) (x1 : x ≤ 8192) (hb : Room d m.rise m.fall x ↔ b = true) (w : World) : Calls Tryz.prog 98 #[.int .i64 d, .agg #[.string m.name, .int .i64 m.to, .int .i64 m.spd, .int .i64 m.rise, .int .i64 m.fall], .int .i64 x] w fun e w' => e = .returned (.bool b) ∧ Below w.heap.size w w' := by
 obtain ⟨hv, hd⟩ := given_ok hg;obtain ⟨v1, v2, r1, r2, f1, f2⟩ := valid_bds hv;obtain ⟨d1, d2⟩ := inB_iff.1 hd;obtain ⟨b1, b2, b3, b4, b5, b6, b7, b8, b9, b10, b11⟩ := room_bd (d := d) (R := m.rise) (F := m.fall) (w := x) d1 d2 (by omega) r2 (by omega) f2 x0 x1;have s4 : IntKind.i64.wrap (x * x) = x * x := IntWalk.i64_in _ (by omega);have s5 : IntKind.i64.wrap (m.rise + m.fall) = m.rise + m.fall := IntWalk.i64_in _ (by omega);have s6 : IntKind.i64.wrap (x * x * (m.rise + m.fall)) = x * x * (m.rise + m.fall) := IntWalk.i64_in _ (by omega);have s7 : IntKind.i64.wrap (2 * m.rise) = 2 * m.rise := IntWalk.i64_in _ (by omega);have s8 : IntKind.i64.wrap (2 * m.rise * m.fall) = 2 * m.rise * m.fall := IntWalk.i64_in _ (by omega);have s9 : IntKind.i64.wrap (2 * m.rise * m.fall * d) = 2 * m.rise * m.fall * d := IntWalk.i64_in _ (by omega)
 have hb' : decide (x * x * (m.rise + m.fall) ≤ 2 * m.rise * m.fall * d) = b := by
  unfold Room at hb;rw [Bool.eq_iff_iff, ← hb]
  simp
 clear b1 b2 b3 b4 b5 b6 b7 b8 b9 b10 b11 hb hg hv hd
 go_enter Tryz.func98, Tryz.ntmps98
 go_wp2_with fail
 go_ret;exact ⟨ret_boolB (by first | rfl | exact hb'), below_new _ _⟩

theorem reftop_any (d : Int) (m : Mv) (t : Int) (hg : givenP d m = 0) (ht : IsTop d m.spd m.rise m.fall t) (w : World) : Calls Tryz.prog 55 #[.int .i64 d, .agg #[.string m.name, .int .i64 m.to, .int .i64 m.spd, .int .i64 m.rise, .int .i64 m.fall]] w fun e w' => e = .returned (.int .i64 t) ∧ Below w.heap.size w w' := by
 have HGV := lh hg;obtain ⟨hv, hd⟩ := given_ok hg;obtain ⟨v1, v2, r1, r2, f1, f2⟩ := valid_bds hv;obtain ⟨d1, d2⟩ := inB_iff.1 hd;have HT := lh ht;clear hg hv hd ht
 go_enter Tryz.func55, Tryz.ntmps55
 go_wp2_with fail
 go_loopw [5, 6] (fun i k wr => ∃ x y : Int, ∃ j : Nat, 0 ≤ x ∧ x ≤ m.spd ∧ j ≤ 15 ∧ 0 ≤ y ∧ y ≤ 16384 ∧ i = .int .i64 x ∧ k = .int .i64 y ∧ Hid (y = (2 ^ j : Nat) / 2 ∧ Room d m.rise m.fall x ∧ ¬ (x + (2 ^ j : Nat) ≤ m.spd ∧ Room d m.rise m.fall (x + (2 ^ j : Nat)))) ∧ Below w.heap.size w wr ∧ wr.cell? ⟨w.heap.size, 0, none⟩ = some (.string m.name) ∧ wr.cell? ⟨w.heap.size, 1, none⟩ = some (.int .i64 m.to) ∧ wr.cell? ⟨w.heap.size, 2, none⟩ = some (.int .i64 m.spd) ∧ wr.cell? ⟨w.heap.size, 3, none⟩ = some (.int .i64 m.rise) ∧ wr.cell? ⟨w.heap.size, 4, none⟩ = some (.int .i64 m.fall)) (fun _ k _ => (intOf k).toNat)
 case atStart => exact ⟨0, 16384, 15, Int.le_refl _, by omega, Nat.le_refl _, by decide, Int.le_refl _, rfl, rfl, lh ⟨by decide, room_zero (by omega) (by omega) (by omega), fun h => by have := h.1; simp at this; omega⟩, below_new _ _, by simp, by simp, by simp, by simp, by simp⟩
 case round =>
  obtain ⟨x, y, j, x0, x1, j1, y0, y1, rfl, rfl, HA, hB, k0, k1, k2, k3, k4⟩ := hrel
  by_cases c : 0 < y
  ·have c' := decide_eq_true c
   obtain ⟨j', rfl⟩ : ∃ j', j = j' + 1 := by
    cases j with
    | zero => have := HA.out.1; simp at this; omega
    | succ j' => exact ⟨j', rfl⟩
   have hy : y = (2 ^ j' : Nat) := by have := HA.out.1; rw [Nat.pow_succ] at this; omega
   have hyy : ((2 ^ (j' + 1) : Nat) : Int) = y + y := by rw [Nat.pow_succ]; omega
   have s1 : IntKind.i64.wrap (x + y) = x + y := IntWalk.i64_in _ (by omega);have s2 : IntKind.i64.wrap (y.tdiv 2) = y / 2 := by rw [Int.tdiv_eq_ediv_of_nonneg (by omega)]; exact IntWalk.i64_in _ (by omega)
   have hbz : w.heap.size < wr.heap.size := wl k0;have HN : Hid (¬ (x + y + y ≤ m.spd ∧ Room d m.rise m.fall (x + y + y))) := lh (by have := HA.out.2.2; rw [hyy] at this; rw [Int.add_assoc]; exact this);have HY : Hid (y / 2 = ((2 ^ j' : Nat) : Int) / 2) := lh (by rw [hy]);have HY2 := lh hy;clear hy hyy
   by_cases q1 : x + y ≤ m.spd
   ·have z1 := decide_eq_true q1
    by_cases q2 : Room d m.rise m.fall (x + y)
    ·have HC := lh (room_any d m (x + y) true HGV.out (by omega) (by omega) ⟨fun _ => rfl, fun _ => q2⟩)
     have HQ := lh q2;clear q2
     go_wp2_with (go_at_call 98; (with_reducible refine (HC.out _).mono ?_); rintro e w1 ⟨rfl, hb1⟩)
     go_roundw
     case rel => exact ⟨x + y, y / 2, j', by omega, q1, by omega, by omega, by omega, rfl, rfl, lh ⟨HY.out, HQ.out, by rw [← HY2.out]; exact HN.out⟩, hB.trans (hb1.mono hB.size), (hb1.cell (p := ⟨w.heap.size, 0, none⟩) hbz).trans k0, (hb1.cell (p := ⟨w.heap.size, 1, none⟩) hbz).trans k1, (hb1.cell (p := ⟨w.heap.size, 2, none⟩) hbz).trans k2, (hb1.cell (p := ⟨w.heap.size, 3, none⟩) hbz).trans k3, (hb1.cell (p := ⟨w.heap.size, 4, none⟩) hbz).trans k4⟩
     case measure => simp [intOf]; omega
    ·have HC := lh (room_any d m (x + y) false HGV.out (by omega) (by omega) ⟨fun h => absurd h q2, fun h => by cases h⟩)
     have HQ := lh q2;clear q2
     go_wp2_with (go_at_call 98; (with_reducible refine (HC.out _).mono ?_); rintro e w1 ⟨rfl, hb1⟩)
     go_roundw
     case rel => exact ⟨x, y / 2, j', x0, x1, by omega, by omega, by omega, rfl, rfl, lh ⟨HY.out, HA.out.2.1, by rw [← HY2.out]; exact fun h => HQ.out h.2⟩, hB.trans (hb1.mono hB.size), (hb1.cell (p := ⟨w.heap.size, 0, none⟩) hbz).trans k0, (hb1.cell (p := ⟨w.heap.size, 1, none⟩) hbz).trans k1, (hb1.cell (p := ⟨w.heap.size, 2, none⟩) hbz).trans k2, (hb1.cell (p := ⟨w.heap.size, 3, none⟩) hbz).trans k3, (hb1.cell (p := ⟨w.heap.size, 4, none⟩) hbz).trans k4⟩
     case measure => simp [intOf]; omega
   ·have z1 := decide_eq_false q1
    have HQ := lh q1;clear q1
    go_wp2_with fail
    go_roundw
    case rel => exact ⟨x, y / 2, j', x0, x1, by omega, by omega, by omega, rfl, rfl, lh ⟨HY.out, HA.out.2.1, by rw [← HY2.out]; exact fun h => HQ.out h.1⟩, hB, k0, k1, k2, k3, k4⟩
    case measure => simp [intOf]; omega
  ·have c' := decide_eq_false c
   have HR : Hid (x = t) := lh (by
    obtain ⟨e, r, n⟩ := HA.out;have hy : y = 0 := by omega
    cases j with
    | zero =>
     refine top_unique (by omega) (by omega) ⟨x0, x1, r, ?_⟩ HT.out;simp only [Nat.pow_zero] at n
     by_cases e1 : x = m.spd
     ·exact .inl e1
     ·exact .inr fun h => n ⟨by omega, h⟩
    | succ j' => rw [Nat.pow_succ] at e; have := Nat.two_pow_pos j'; omega)
   go_wp2_with fail
   go_ret;exact ⟨ret_u HR.out, hB⟩
theorem held_next {wr w1 w2 : World} (h : Below wr.heap.size wr w1) (h2 : Below w1.heap.size w1 w2) : Below wr.heap.size wr w2 := h.trans (h2.mono h.size)
def makeP (n d : Int) : Int × Int × Int := if d = 0 then (0, 0, 16) else signP (!(n == 0) && (decide (n < 0) != decide (d < 0))) ((n.natAbs : Int) / (Int.gcd n d : Int)) ((d.natAbs : Int) / (Int.gcd n d : Int))

theorem make_any (n d : Int) (hn0 : ¬ n = 0) (n1 : -9223372036854775808 ≤ n) (n2 : n ≤ 9223372036854775807) (d1 : -9223372036854775808 ≤ d) (d2 : d ≤ 9223372036854775807) (w : World) :
  Calls Tryz.prog 90 #[.int .i64 n, .int .i64 d] w fun e w' => e = .returned (.tuple #[.agg #[.int .i64 (makeP n d).1, .int .i64 (makeP n d).2.1], .int .i64 (makeP n d).2.2]) ∧ Below w.heap.size w w' := by
 by_cases hd : d = 0
 ·have HR : Hid (makeP n d = (0, 0, 16)) := lh (by unfold makeP; rw [if_pos hd])
  rw [HR.out];subst hd
  go_enter Tryz.func90, Tryz.ntmps90
  go_wp2
  refine bodyPost_ret (v := .tuple #[.agg #[.int .i64 0, .int .i64 0], .int .i64 16]) (by simp [results, Tryz.results90, go_sem]) rfl ⟨rfl, ?_⟩;exact below_new _ _
 ·have hd0 : (d == 0) = false := by simpa using hd
  obtain ⟨a, ha⟩ := nm ((n.natAbs : Int) : Int);obtain ⟨b, hb⟩ := nm ((d.natAbs : Int) : Int);obtain ⟨g, hg⟩ := nm ((Int.gcd a b : Int) : Int);have a0 : 0 ≤ a := by omega
  have a1 : a < 18446744073709551616 := by omega
  have b0 : 0 < b := by omega
  have b1 : b < 18446744073709551616 := by omega
  have gp : 0 < g := by rw [← hg]; exact gcd_posR b0
  have g0 : ¬ g = 0 := by omega
  have g0' : (g == 0) = false := by simpa using g0
  have q0 : 0 ≤ a / g := Int.ediv_nonneg a0 (by omega);have q1 : 0 ≤ b / g := Int.ediv_nonneg (by omega) (by omega);have q2 : IntKind.u64.wrap (a.tdiv g) = a / g := by rw [Int.tdiv_eq_ediv_of_nonneg a0, IntKind.wrap_u64]; exact Int.emod_eq_of_lt q0 (by have := Int.ediv_le_self g a0; omega)
  have q3 : IntKind.u64.wrap (b.tdiv g) = b / g := by rw [Int.tdiv_eq_ediv_of_nonneg (by omega), IntKind.wrap_u64]; exact Int.emod_eq_of_lt q1 (by have := Int.ediv_le_self g (Int.le_of_lt b0); omega)
  have hgg : Int.gcd n d = Int.gcd a b := by rw [← ha, ← hb]; simp [Int.gcd]
  have HA := lh ha;have HB := lh hb;have HG := lh hg;have HP : Hid (makeP n d = signP (!(n == 0) && (decide (n < 0) != decide (d < 0))) (a / g) (b / g)) := lh (by unfold makeP; rw [if_neg hd, ha, hb, hgg, hg]);clear ha hb hg hgg hd;have c0 : (n == 0) = false := by simpa using hn0
  have c0' : (n != 0) = true := by simpa using hn0
  clear hn0
  by_cases hn : n < 0
  ·have c1 := decide_eq_true hn
   clear hn
   by_cases hd : d < 0
   ·have c2 := decide_eq_true hd
    clear hd;obtain ⟨r, hr⟩ := nm (signP false (a / g) (b / g));have HR : Hid (makeP n d = r) := lh (by rw [HP.out, c0, c1, c2, show (!false && (true != true)) = false from rfl]; exact hr);have HS := lh hr;rw [HR.out];clear hr
    go_enter Tryz.func90, Tryz.ntmps90
    go_wp2_with (first | (go_at_call 69; (with_reducible refine (size_any n n1 n2 _).mono ?_); rintro e w' ⟨rfl, rfl⟩; rw [HA.out]) | (go_at_call 69; (with_reducible refine (size_any d d1 d2 _).mono ?_); rintro e w' ⟨rfl, rfl⟩; rw [HB.out]) | (go_at_call 68; (with_reducible refine (gcd_any a b a0 a1 (by omega) b1 _).mono ?_); rintro e w' ⟨rfl, m, rfl⟩; rw [HG.out]))
    have hbr : Below w.heap.size w ((w.alloc (.cells #[.int .i64 0, .int .i64 0] 29)).drewN m) := below_drewN (below_new _ _) _;have z0 : ((w.alloc (.cells #[.int .i64 0, .int .i64 0] 29)).drewN m).cell? ⟨w.heap.size, 0, none⟩ = some (.int .i64 0) := by simp
    have z1 : ((w.alloc (.cells #[.int .i64 0, .int .i64 0] 29)).drewN m).cell? ⟨w.heap.size, 1, none⟩ = some (.int .i64 0) := by simp
    have z2 : ((w.alloc (.cells #[.int .i64 0, .int .i64 0] 29)).drewN m).frozen? ⟨w.heap.size, 0, none⟩ = false := by simp
    have z3 : ((w.alloc (.cells #[.int .i64 0, .int .i64 0] 29)).drewN m).frozen? ⟨w.heap.size, 1, none⟩ = false := by simp
    have z4 : w.heap.size < ((w.alloc (.cells #[.int .i64 0, .int .i64 0] 29)).drewN m).heap.size := by simp
    generalize (w.alloc (.cells #[.int .i64 0, .int .i64 0] 29)).drewN m = W0 at *;have HSS : Hid (∀ w', Below W0.heap.size W0 w' → Below W0.heap.size W0 w' ∧ w'.cell? ⟨w.heap.size, 0, none⟩ = some (.int .i64 0) ∧ w'.cell? ⟨w.heap.size, 1, none⟩ = some (.int .i64 0) ∧ w'.frozen? ⟨w.heap.size, 0, none⟩ = false ∧ w'.frozen? ⟨w.heap.size, 1, none⟩ = false) := lh fun w' h => ⟨h, (h.cell (p := ⟨w.heap.size, 0, none⟩) z4).trans z0, (h.cell (p := ⟨w.heap.size, 1, none⟩) z4).trans z1, (h.frozen (p := ⟨w.heap.size, 0, none⟩) z4).trans z2, (h.frozen (p := ⟨w.heap.size, 1, none⟩) z4).trans z3⟩;have hb0 := Below.refl W0.heap.size W0
    first
    | go_region_held3 (fun w' => Below w.heap.size w w')
      (first | exact hbr.drew | exact hbr | exact hbw | exact (hbw.setCell (p := ⟨w.heap.size, 0, none⟩) (Nat.le_refl _) _).setCell (p := ⟨w.heap.size, 1, none⟩) (Nat.le_refl _) _)
      (first
       | (go_at_call 71; go_split_ands; (with_reducible refine (signed_any false (a / g) (b / g) q0 q1 _).mono ?_); rintro e w2 ⟨rfl, hb2⟩; rw [HS.out]; obtain ⟨hbn, u0, u1, u2, u3⟩ := HSS.out _ (held_next (wr := W0) hb0.drew hb2); have hbw := hbr.trans (hbn.mono (by omega))))
    | fail
    all_goals go_wp2
    all_goals
     have s0 := World.cell?_setCell_same w2 ⟨w.heap.size, 0, none⟩ (.int .i64 r.1) u0;have s1 : (w2.setCell ⟨w.heap.size, 0, none⟩ (.int .i64 r.1)).cell? ⟨w.heap.size, 1, none⟩ = some (.int .i64 0) := (World.cell?_setCell_other _ _ _ _ (fun x => absurd (congrArg Addr.off x) (by simp))).trans u1;have s2 := World.cell?_setCell_same _ ⟨w.heap.size, 1, none⟩ (.int .i64 r.2.1) s1;have s3 : ((w2.setCell ⟨w.heap.size, 0, none⟩ (.int .i64 r.1)).setCell ⟨w.heap.size, 1, none⟩ (.int .i64 r.2.1)).cell? ⟨w.heap.size, 0, none⟩ = some (.int .i64 r.1) := (World.cell?_setCell_other _ _ _ _ (fun x => absurd (congrArg Addr.off x) (by simp))).trans s0;refine bodyPost_ret (v := .tuple #[.agg #[.int .i64 r.1, .int .i64 r.2.1], .int .i64 r.2.2]) (by simp [results, Tryz.results90, go_sem, s2, s3]) rfl ⟨rfl, ?_⟩;exact (hbw.setCell (p := ⟨w.heap.size, 0, none⟩) (Nat.le_refl _) _).setCell (p := ⟨w.heap.size, 1, none⟩) (Nat.le_refl _) _
   ·have c2 := decide_eq_false hd
    clear hd;obtain ⟨r, hr⟩ := nm (signP true (a / g) (b / g));have HR : Hid (makeP n d = r) := lh (by rw [HP.out, c0, c1, c2, show (!false && (true != false)) = true from rfl]; exact hr);have HS := lh hr;rw [HR.out];clear hr
    go_enter Tryz.func90, Tryz.ntmps90
    go_wp2_with (first | (go_at_call 69; (with_reducible refine (size_any n n1 n2 _).mono ?_); rintro e w' ⟨rfl, rfl⟩; rw [HA.out]) | (go_at_call 69; (with_reducible refine (size_any d d1 d2 _).mono ?_); rintro e w' ⟨rfl, rfl⟩; rw [HB.out]) | (go_at_call 68; (with_reducible refine (gcd_any a b a0 a1 (by omega) b1 _).mono ?_); rintro e w' ⟨rfl, m, rfl⟩; rw [HG.out]))
    have hbr : Below w.heap.size w ((w.alloc (.cells #[.int .i64 0, .int .i64 0] 29)).drewN m) := below_drewN (below_new _ _) _;have z0 : ((w.alloc (.cells #[.int .i64 0, .int .i64 0] 29)).drewN m).cell? ⟨w.heap.size, 0, none⟩ = some (.int .i64 0) := by simp
    have z1 : ((w.alloc (.cells #[.int .i64 0, .int .i64 0] 29)).drewN m).cell? ⟨w.heap.size, 1, none⟩ = some (.int .i64 0) := by simp
    have z2 : ((w.alloc (.cells #[.int .i64 0, .int .i64 0] 29)).drewN m).frozen? ⟨w.heap.size, 0, none⟩ = false := by simp
    have z3 : ((w.alloc (.cells #[.int .i64 0, .int .i64 0] 29)).drewN m).frozen? ⟨w.heap.size, 1, none⟩ = false := by simp
    have z4 : w.heap.size < ((w.alloc (.cells #[.int .i64 0, .int .i64 0] 29)).drewN m).heap.size := by simp
    generalize (w.alloc (.cells #[.int .i64 0, .int .i64 0] 29)).drewN m = W0 at *;have HSS : Hid (∀ w', Below W0.heap.size W0 w' → Below W0.heap.size W0 w' ∧ w'.cell? ⟨w.heap.size, 0, none⟩ = some (.int .i64 0) ∧ w'.cell? ⟨w.heap.size, 1, none⟩ = some (.int .i64 0) ∧ w'.frozen? ⟨w.heap.size, 0, none⟩ = false ∧ w'.frozen? ⟨w.heap.size, 1, none⟩ = false) := lh fun w' h => ⟨h, (h.cell (p := ⟨w.heap.size, 0, none⟩) z4).trans z0, (h.cell (p := ⟨w.heap.size, 1, none⟩) z4).trans z1, (h.frozen (p := ⟨w.heap.size, 0, none⟩) z4).trans z2, (h.frozen (p := ⟨w.heap.size, 1, none⟩) z4).trans z3⟩;have hb0 := Below.refl W0.heap.size W0
    first
    | go_region_held3 (fun w' => Below w.heap.size w w')
      (first | exact hbr.drew | exact hbr | exact hbw | exact (hbw.setCell (p := ⟨w.heap.size, 0, none⟩) (Nat.le_refl _) _).setCell (p := ⟨w.heap.size, 1, none⟩) (Nat.le_refl _) _)
      (first
       | (go_at_call 71; go_split_ands; (with_reducible refine (signed_any true (a / g) (b / g) q0 q1 _).mono ?_); rintro e w2 ⟨rfl, hb2⟩; rw [HS.out]; obtain ⟨hbn, u0, u1, u2, u3⟩ := HSS.out _ (held_next (wr := W0) hb0.drew hb2); have hbw := hbr.trans (hbn.mono (by omega))))
    | fail
    all_goals go_wp2
    all_goals
     have s0 := World.cell?_setCell_same w2 ⟨w.heap.size, 0, none⟩ (.int .i64 r.1) u0;have s1 : (w2.setCell ⟨w.heap.size, 0, none⟩ (.int .i64 r.1)).cell? ⟨w.heap.size, 1, none⟩ = some (.int .i64 0) := (World.cell?_setCell_other _ _ _ _ (fun x => absurd (congrArg Addr.off x) (by simp))).trans u1;have s2 := World.cell?_setCell_same _ ⟨w.heap.size, 1, none⟩ (.int .i64 r.2.1) s1;have s3 : ((w2.setCell ⟨w.heap.size, 0, none⟩ (.int .i64 r.1)).setCell ⟨w.heap.size, 1, none⟩ (.int .i64 r.2.1)).cell? ⟨w.heap.size, 0, none⟩ = some (.int .i64 r.1) := (World.cell?_setCell_other _ _ _ _ (fun x => absurd (congrArg Addr.off x) (by simp))).trans s0;refine bodyPost_ret (v := .tuple #[.agg #[.int .i64 r.1, .int .i64 r.2.1], .int .i64 r.2.2]) (by simp [results, Tryz.results90, go_sem, s2, s3]) rfl ⟨rfl, ?_⟩;exact (hbw.setCell (p := ⟨w.heap.size, 0, none⟩) (Nat.le_refl _) _).setCell (p := ⟨w.heap.size, 1, none⟩) (Nat.le_refl _) _
  ·have c1 := decide_eq_false hn
   clear hn
   by_cases hd : d < 0
   ·have c2 := decide_eq_true hd
    clear hd;obtain ⟨r, hr⟩ := nm (signP true (a / g) (b / g));have HR : Hid (makeP n d = r) := lh (by rw [HP.out, c0, c1, c2, show (!false && (false != true)) = true from rfl]; exact hr);have HS := lh hr;rw [HR.out];clear hr
    go_enter Tryz.func90, Tryz.ntmps90
    go_wp2_with (first | (go_at_call 69; (with_reducible refine (size_any n n1 n2 _).mono ?_); rintro e w' ⟨rfl, rfl⟩; rw [HA.out]) | (go_at_call 69; (with_reducible refine (size_any d d1 d2 _).mono ?_); rintro e w' ⟨rfl, rfl⟩; rw [HB.out]) | (go_at_call 68; (with_reducible refine (gcd_any a b a0 a1 (by omega) b1 _).mono ?_); rintro e w' ⟨rfl, m, rfl⟩; rw [HG.out]))
    have hbr : Below w.heap.size w ((w.alloc (.cells #[.int .i64 0, .int .i64 0] 29)).drewN m) := below_drewN (below_new _ _) _;have z0 : ((w.alloc (.cells #[.int .i64 0, .int .i64 0] 29)).drewN m).cell? ⟨w.heap.size, 0, none⟩ = some (.int .i64 0) := by simp
    have z1 : ((w.alloc (.cells #[.int .i64 0, .int .i64 0] 29)).drewN m).cell? ⟨w.heap.size, 1, none⟩ = some (.int .i64 0) := by simp
    have z2 : ((w.alloc (.cells #[.int .i64 0, .int .i64 0] 29)).drewN m).frozen? ⟨w.heap.size, 0, none⟩ = false := by simp
    have z3 : ((w.alloc (.cells #[.int .i64 0, .int .i64 0] 29)).drewN m).frozen? ⟨w.heap.size, 1, none⟩ = false := by simp
    have z4 : w.heap.size < ((w.alloc (.cells #[.int .i64 0, .int .i64 0] 29)).drewN m).heap.size := by simp
    generalize (w.alloc (.cells #[.int .i64 0, .int .i64 0] 29)).drewN m = W0 at *;have HSS : Hid (∀ w', Below W0.heap.size W0 w' → Below W0.heap.size W0 w' ∧ w'.cell? ⟨w.heap.size, 0, none⟩ = some (.int .i64 0) ∧ w'.cell? ⟨w.heap.size, 1, none⟩ = some (.int .i64 0) ∧ w'.frozen? ⟨w.heap.size, 0, none⟩ = false ∧ w'.frozen? ⟨w.heap.size, 1, none⟩ = false) := lh fun w' h => ⟨h, (h.cell (p := ⟨w.heap.size, 0, none⟩) z4).trans z0, (h.cell (p := ⟨w.heap.size, 1, none⟩) z4).trans z1, (h.frozen (p := ⟨w.heap.size, 0, none⟩) z4).trans z2, (h.frozen (p := ⟨w.heap.size, 1, none⟩) z4).trans z3⟩;have hb0 := Below.refl W0.heap.size W0
    first
    | go_region_held3 (fun w' => Below w.heap.size w w')
      (first | exact hbr.drew | exact hbr | exact hbw | exact (hbw.setCell (p := ⟨w.heap.size, 0, none⟩) (Nat.le_refl _) _).setCell (p := ⟨w.heap.size, 1, none⟩) (Nat.le_refl _) _)
      (first
       | (go_at_call 71; go_split_ands; (with_reducible refine (signed_any true (a / g) (b / g) q0 q1 _).mono ?_); rintro e w2 ⟨rfl, hb2⟩; rw [HS.out]; obtain ⟨hbn, u0, u1, u2, u3⟩ := HSS.out _ (held_next (wr := W0) hb0.drew hb2); have hbw := hbr.trans (hbn.mono (by omega))))
    | fail
    all_goals go_wp2
    all_goals
     have s0 := World.cell?_setCell_same w2 ⟨w.heap.size, 0, none⟩ (.int .i64 r.1) u0;have s1 : (w2.setCell ⟨w.heap.size, 0, none⟩ (.int .i64 r.1)).cell? ⟨w.heap.size, 1, none⟩ = some (.int .i64 0) := (World.cell?_setCell_other _ _ _ _ (fun x => absurd (congrArg Addr.off x) (by simp))).trans u1;have s2 := World.cell?_setCell_same _ ⟨w.heap.size, 1, none⟩ (.int .i64 r.2.1) s1;have s3 : ((w2.setCell ⟨w.heap.size, 0, none⟩ (.int .i64 r.1)).setCell ⟨w.heap.size, 1, none⟩ (.int .i64 r.2.1)).cell? ⟨w.heap.size, 0, none⟩ = some (.int .i64 r.1) := (World.cell?_setCell_other _ _ _ _ (fun x => absurd (congrArg Addr.off x) (by simp))).trans s0;refine bodyPost_ret (v := .tuple #[.agg #[.int .i64 r.1, .int .i64 r.2.1], .int .i64 r.2.2]) (by simp [results, Tryz.results90, go_sem, s2, s3]) rfl ⟨rfl, ?_⟩;exact (hbw.setCell (p := ⟨w.heap.size, 0, none⟩) (Nat.le_refl _) _).setCell (p := ⟨w.heap.size, 1, none⟩) (Nat.le_refl _) _
   ·have c2 := decide_eq_false hd
    clear hd;obtain ⟨r, hr⟩ := nm (signP false (a / g) (b / g));have HR : Hid (makeP n d = r) := lh (by rw [HP.out, c0, c1, c2, show (!false && (false != false)) = false from rfl]; exact hr);have HS := lh hr;rw [HR.out];clear hr
    go_enter Tryz.func90, Tryz.ntmps90
    go_wp2_with (first | (go_at_call 69; (with_reducible refine (size_any n n1 n2 _).mono ?_); rintro e w' ⟨rfl, rfl⟩; rw [HA.out]) | (go_at_call 69; (with_reducible refine (size_any d d1 d2 _).mono ?_); rintro e w' ⟨rfl, rfl⟩; rw [HB.out]) | (go_at_call 68; (with_reducible refine (gcd_any a b a0 a1 (by omega) b1 _).mono ?_); rintro e w' ⟨rfl, m, rfl⟩; rw [HG.out]))
    have hbr : Below w.heap.size w ((w.alloc (.cells #[.int .i64 0, .int .i64 0] 29)).drewN m) := below_drewN (below_new _ _) _;have z0 : ((w.alloc (.cells #[.int .i64 0, .int .i64 0] 29)).drewN m).cell? ⟨w.heap.size, 0, none⟩ = some (.int .i64 0) := by simp
    have z1 : ((w.alloc (.cells #[.int .i64 0, .int .i64 0] 29)).drewN m).cell? ⟨w.heap.size, 1, none⟩ = some (.int .i64 0) := by simp
    have z2 : ((w.alloc (.cells #[.int .i64 0, .int .i64 0] 29)).drewN m).frozen? ⟨w.heap.size, 0, none⟩ = false := by simp
    have z3 : ((w.alloc (.cells #[.int .i64 0, .int .i64 0] 29)).drewN m).frozen? ⟨w.heap.size, 1, none⟩ = false := by simp
    have z4 : w.heap.size < ((w.alloc (.cells #[.int .i64 0, .int .i64 0] 29)).drewN m).heap.size := by simp
    generalize (w.alloc (.cells #[.int .i64 0, .int .i64 0] 29)).drewN m = W0 at *;have HSS : Hid (∀ w', Below W0.heap.size W0 w' → Below W0.heap.size W0 w' ∧ w'.cell? ⟨w.heap.size, 0, none⟩ = some (.int .i64 0) ∧ w'.cell? ⟨w.heap.size, 1, none⟩ = some (.int .i64 0) ∧ w'.frozen? ⟨w.heap.size, 0, none⟩ = false ∧ w'.frozen? ⟨w.heap.size, 1, none⟩ = false) := lh fun w' h => ⟨h, (h.cell (p := ⟨w.heap.size, 0, none⟩) z4).trans z0, (h.cell (p := ⟨w.heap.size, 1, none⟩) z4).trans z1, (h.frozen (p := ⟨w.heap.size, 0, none⟩) z4).trans z2, (h.frozen (p := ⟨w.heap.size, 1, none⟩) z4).trans z3⟩;have hb0 := Below.refl W0.heap.size W0
    first
    | go_region_held3 (fun w' => Below w.heap.size w w')
      (first | exact hbr.drew | exact hbr | exact hbw | exact (hbw.setCell (p := ⟨w.heap.size, 0, none⟩) (Nat.le_refl _) _).setCell (p := ⟨w.heap.size, 1, none⟩) (Nat.le_refl _) _)
      (first
       | (go_at_call 71; go_split_ands; (with_reducible refine (signed_any false (a / g) (b / g) q0 q1 _).mono ?_); rintro e w2 ⟨rfl, hb2⟩; rw [HS.out]; obtain ⟨hbn, u0, u1, u2, u3⟩ := HSS.out _ (held_next (wr := W0) hb0.drew hb2); have hbw := hbr.trans (hbn.mono (by omega))))
    | fail
    all_goals go_wp2
    all_goals
     have s0 := World.cell?_setCell_same w2 ⟨w.heap.size, 0, none⟩ (.int .i64 r.1) u0;have s1 : (w2.setCell ⟨w.heap.size, 0, none⟩ (.int .i64 r.1)).cell? ⟨w.heap.size, 1, none⟩ = some (.int .i64 0) := (World.cell?_setCell_other _ _ _ _ (fun x => absurd (congrArg Addr.off x) (by simp))).trans u1;have s2 := World.cell?_setCell_same _ ⟨w.heap.size, 1, none⟩ (.int .i64 r.2.1) s1;have s3 : ((w2.setCell ⟨w.heap.size, 0, none⟩ (.int .i64 r.1)).setCell ⟨w.heap.size, 1, none⟩ (.int .i64 r.2.1)).cell? ⟨w.heap.size, 0, none⟩ = some (.int .i64 r.1) := (World.cell?_setCell_other _ _ _ _ (fun x => absurd (congrArg Addr.off x) (by simp))).trans s0;refine bodyPost_ret (v := .tuple #[.agg #[.int .i64 r.1, .int .i64 r.2.1], .int .i64 r.2.2]) (by simp [results, Tryz.results90, go_sem, s2, s3]) rfl ⟨rfl, ?_⟩;exact (hbw.setCell (p := ⟨w.heap.size, 0, none⟩) (Nat.le_refl _) _).setCell (p := ⟨w.heap.size, 1, none⟩) (Nat.le_refl _) _
end
end Go.Proofs.YtbgkgahmicepdaaGreat
namespace Go.Proofs
open Go.Shelf
def Tryz.lays134_ren : Go.Shelf.Ren := ⟨fun | 134 => 132 | 129 => 147 | n => n, fun | 53 => 67 | 3 => 3 | 4 => 4 | 46 => 138 | 5 => 5 | 9 => 9 | n => n, fun | n => n⟩
theorem Tryz.lays134 : Go.Proofs.Lays.n134 Tryz.prog Tryz.lays134_ren := {
 mixed := by kernel_rfl
 f129 := Tryz.func147.trans (congrArg some (by kernel_rfl))
 f134 := Tryz.func132.trans (congrArg some (by kernel_rfl))
 t3 := Tryz.underlying3
 a3 := Tryz.isAgg3
 z3 := Tryz.sizeOf3
 v3 := Tryz.zeroValue3
 t4 := Tryz.underlying4
 a4 := Tryz.isAgg4
 z4 := Tryz.sizeOf4
 v4 := Tryz.zeroValue4
 t5 := Tryz.underlying5
 a5 := Tryz.isAgg5
 z5 := Tryz.sizeOf5
 v5 := Tryz.zeroValue5
 t9 := Tryz.underlying9
 a9 := Tryz.isAgg9
 z9 := Tryz.sizeOf9
 v9 := Tryz.zeroValue9
 t46 := Tryz.underlying138
 a46 := Tryz.isAgg138
 z46 := Tryz.sizeOf138
 v46 := Tryz.zeroValue138
 t53 := Tryz.underlying67
 a53 := Tryz.isAgg67
 z53 := Tryz.sizeOf67
 v53 := Tryz.zeroValue67 }
theorem Tryz.bits_LeadingZeros64 (x : Int) (w : World) (h0 : 0 ≤ x) (h1 : x ≤ 18446744073709551615) :
  Calls Tryz.prog 132 #[.int .u64 x] w fun e w' => e = .returned (.int .i64 (64 - (Lib.bitLen x.toNat : Int))) ∧ w' = w := Any.bits_LeadingZeros64 Tryz.lays134 x w h0 h1
def Tryz.lays264_ren : Go.Shelf.Ren := ⟨fun | 264 => 109 | n => n, fun | 53 => 67 | 46 => 138 | n => n, fun | n => n⟩
theorem Tryz.lays264 : Go.Proofs.Lays.n264 Tryz.prog Tryz.lays264_ren := {
 mixed := by kernel_rfl
 f264 := Tryz.func109.trans (congrArg some (by kernel_rfl))
 t46 := Tryz.underlying138
 a46 := Tryz.isAgg138
 z46 := Tryz.sizeOf138
 v46 := Tryz.zeroValue138
 t53 := Tryz.underlying67
 a53 := Tryz.isAgg67
 z53 := Tryz.sizeOf67
 v53 := Tryz.zeroValue67 }
open Go.RowKit Go.Lib in
theorem Tryz.bits_Mul64 (x y : Nat) (hx : x < 18446744073709551616) (hy : y < 18446744073709551616) (w : World) :
  Calls Tryz.prog 109 #[.int .u64 x, .int .u64 y] w fun e w' => e = .returned (.tuple #[.int .u64 ((x * y / 18446744073709551616 : Nat) : Int), .int .u64 ((x * y % 18446744073709551616 : Nat) : Int)]) ∧ w' = w := Any.bits_Mul64 Tryz.lays264 x y hx hy w
end Go.Proofs
namespace Go.Proofs.YtbgkgahmicepdaaGreat
set_option maxRecDepth 100000
set_option maxHeartbeats 80000000
section
open Go.RowKit Go.Shelf
theorem add64s (x y : Int) (hx : 0 ≤ x) (hy : 0 ≤ y) (h : x + y < 18446744073709551616) (w : World) : (callFunc 110 #[.int .u64 x, .int .u64 y, .int .u64 0]).run Tryz.prog w =
  .ok (.value (.tuple #[.int .u64 (x + y), .int .u64 0])) w := by
 obtain ⟨x, rfl⟩ := Int.eq_ofNat_of_zero_le hx;obtain ⟨y, rfl⟩ := Int.eq_ofNat_of_zero_le hy;rw [run_callFunc_extern Tryz.func110 (by kernel_rfl) (by kernel_rfl) (by kernel_rfl) (e := add64Entry) (by kernel_rfl), run_add64 x y 0 (by omega) (by omega) (by omega) (by omega)];have e1 : ((x : Int) + y + 0) % 18446744073709551616 = x + y := by omega
 have e2 : ((x : Int) + y + 0) / 18446744073709551616 = 0 := by omega
 rw [e1, e2]
 rfl
theorem sub64s (x y : Int) (hx : x < 18446744073709551616) (hy : 0 ≤ y) (h : y ≤ x) (w : World) : (callFunc 111 #[.int .u64 x, .int .u64 y, .int .u64 0]).run Tryz.prog w =
  .ok (.value (.tuple #[.int .u64 (x - y), .int .u64 0])) w := by
 obtain ⟨x, rfl⟩ := Int.eq_ofNat_of_zero_le (show 0 ≤ x by omega);obtain ⟨y, rfl⟩ := Int.eq_ofNat_of_zero_le hy;refine Eq.trans (b := (callFunc 111 #[.int .u64 (x : Int), .int .u64 (y : Int), .int .u64 ((0 : Nat) : Int)]).run Tryz.prog w) rfl ?_;rw [run_callFunc_extern Tryz.func111 (by kernel_rfl) (by kernel_rfl) (by kernel_rfl) (e := sub64Entry) (by kernel_rfl), run_sub64 x y 0 (by omega) w, if_neg (by omega)];have e : (((x + 18446744073709551616 - y - 0) % 18446744073709551616 : Nat) : Int) = (x : Int) - y := by omega
 rw [e]
 rfl

theorem mul64_any (x y : Int) (hx : 0 ≤ x) (hx' : x < 18446744073709551616) (hy : 0 ≤ y) (hy' : y < 18446744073709551616) (w : World) :
  Calls Tryz.prog 109 #[.int .u64 x, .int .u64 y] w fun e w' => e = .returned (.tuple #[.int .u64 (x * y / 18446744073709551616), .int .u64 (x * y % 18446744073709551616)]) ∧ w = w' := by
 obtain ⟨x, rfl⟩ := Int.eq_ofNat_of_zero_le hx;obtain ⟨y, rfl⟩ := Int.eq_ofNat_of_zero_le hy;exact (Tryz.bits_Mul64 x y (by omega) (by omega) w).mono fun e w' h => ⟨h.1.trans (by simp), h.2.symm⟩

theorem product_any (x y : Int) (hx : 0 ≤ x) (hx' : x < 18446744073709551616) (hy : 0 ≤ y) (hy' : y < 18446744073709551616) (w : World) :
  Calls Tryz.prog 70 #[.int .u64 x, .int .u64 y] w fun e w' => e = .returned (.agg #[.int .u64 (x * y / 18446744073709551616), .int .u64 (x * y % 18446744073709551616)]) ∧ Below w.heap.size w w' := by
 obtain ⟨h, hh⟩ := nm (x * y / 18446744073709551616);obtain ⟨l, hl⟩ := nm (x * y % 18446744073709551616);have HH := lh hh;have HL := lh hl;rw [hh, hl];clear hh hl
 go_enter Tryz.func70, Tryz.ntmps70
 go_wp2_with (go_at_call 109; (with_reducible refine (mul64_any x y hx hx' hy hy' _).mono ?_); rintro e w' ⟨rfl, rfl⟩; rw [HH.out, HL.out])
 refine bodyPost_ret (v := .agg #[.int .u64 h, .int .u64 l]) (by simp [results, Tryz.results70, go_sem]) rfl ⟨rfl, ?_⟩;exact below_new _ _
theorem product_small (x y : Int) (hx : 0 ≤ x) (hx' : x < 18446744073709551616) (hy : 0 ≤ y) (hy' : y < 18446744073709551616) (h : x * y < 18446744073709551616) (w : World) :
  Calls Tryz.prog 70 #[.int .u64 x, .int .u64 y] w fun e w' => e = .returned (.agg #[.int .u64 0, .int .u64 (x * y)]) ∧ Below w.heap.size w w' := by
 have h0 := Int.mul_nonneg hx hy;have e1 : x * y / 18446744073709551616 = 0 := by omega
 have e2 : x * y % 18446744073709551616 = x * y := by omega
 have := product_any x y hx hx' hy hy' w;rw [e1, e2] at this;exact this

theorem plus_small (a b : Int) (ha : 0 ≤ a) (hb : 0 ≤ b) (h : a + b < 18446744073709551616) (w : World) :
  Calls Tryz.prog 72 #[.agg #[.int .u64 0, .int .u64 a], .agg #[.int .u64 0, .int .u64 b]] w fun e w' => e = .returned (.agg #[.int .u64 0, .int .u64 (a + b)]) ∧ Below w.heap.size w w' := by
 have z := add64s 0 0 (by decide) (by decide) (by decide);simp only [Int.add_zero] at z
 go_enter Tryz.func72, Tryz.ntmps72
 go_wp2_with (first | simp only [z] | simp only [add64s a b ha hb h])
 refine bodyPost_ret (v := .agg #[.int .u64 0, .int .u64 (a + b)]) (by simp [results, Tryz.results72, go_sem]) rfl ⟨rfl, ?_⟩;exact ((below_new _ _).alloc (by simp) _).alloc (by simp; omega) _
theorem minus_small (a b : Int) (ha : a < 18446744073709551616) (hb : 0 ≤ b) (h : b ≤ a) (w : World) :
  Calls Tryz.prog 74 #[.agg #[.int .u64 0, .int .u64 a], .agg #[.int .u64 0, .int .u64 b]] w fun e w' => e = .returned (.agg #[.int .u64 0, .int .u64 (a - b)]) ∧ Below w.heap.size w w' := by
 have z := sub64s 0 0 (by decide) (by decide) (by decide);simp only [Int.sub_zero] at z
 go_enter Tryz.func74, Tryz.ntmps74
 go_wp2_with (first | simp only [z] | simp only [sub64s a b ha hb h])
 refine bodyPost_ret (v := .agg #[.int .u64 0, .int .u64 (a - b)]) (by simp [results, Tryz.results74, go_sem]) rfl ⟨rfl, ?_⟩;exact ((below_new _ _).alloc (by simp) _).alloc (by simp; omega) _
theorem less_small (a b : Int) (w : World) :
  Calls Tryz.prog 73 #[.agg #[.int .u64 0, .int .u64 a], .agg #[.int .u64 0, .int .u64 b]] w fun e w' => e = .returned (.bool (decide (a < b))) ∧ Below w.heap.size w w' := by
 go_enter Tryz.func73, Tryz.ntmps73
 go_wp2
 go_ret;exact ⟨by simp, (below_new _ _).alloc (by simp) _⟩

theorem div64_small (x y : Int) (hx : 0 ≤ x) (hx' : x < 18446744073709551616) (hy : 0 < y) (hy' : y < 18446744073709551616) (w : World) :
  Calls Tryz.prog 112 #[.int .u64 0, .int .u64 x, .int .u64 y] w fun e w' => e = .returned (.tuple #[.int .u64 (x / y), .int .u64 (x % y)]) ∧ ∃ m, w' = w.drewN m := by
 have y0 : ¬ y = 0 := by omega
 have y0' : (y == 0) = false := by simpa using y0
 have y1 : decide (y ≤ 0) = false := by simp; omega
 have q0 : 0 ≤ x / y := Int.ediv_nonneg hx (by omega);have q2 : IntKind.u64.wrap (x.tdiv y) = x / y := by rw [Int.tdiv_eq_ediv_of_nonneg hx, IntKind.wrap_u64]; exact Int.emod_eq_of_lt q0 (by have := Int.ediv_le_self y hx; omega)
 have r0 : 0 ≤ x % y := Int.emod_nonneg _ y0;have r1 : x % y < y := Int.emod_lt_of_pos _ hy;have q3 : IntKind.u64.wrap (x.tmod y) = x % y := by rw [Int.tmod_eq_emod_of_nonneg hx, IntKind.wrap_u64]; omega
 go_enter Tryz.func112, Tryz.ntmps112
 go_wp2_with fail
 go_quiet (fail)
 go_wp2_with fail
 go_ret2
 exact ⟨by first | rfl | rw [q2] | rw [q2, q3], _, rfl⟩

theorem over_small (x y : Int) (hx : 0 ≤ x) (hx' : x < 18446744073709551616) (hy : 0 < y) (hy' : y < 18446744073709551616) (w : World) :
  Calls Tryz.prog 75 #[.agg #[.int .u64 0, .int .u64 x], .int .u64 y] w fun e w' => e = .returned (.tuple #[.agg #[.int .u64 0, .int .u64 (x / y)], .int .u64 (x % y)]) ∧ Below w.heap.size w w' := by
 have y0 : ¬ y = 0 := by omega
 have y0' : (y == 0) = false := by simpa using y0
 have z1 : (0 : Int) % y = 0 := Int.zero_emod y;have z2 : (0 : Int) / y = 0 := Int.zero_ediv y;have z3 : (0 : Int).tdiv y = 0 := Int.zero_tdiv y;have z4 : (0 : Int).tmod y = 0 := Int.zero_tmod y
 go_enter Tryz.func75, Tryz.ntmps75
 go_wp2_with fail
 go_quiet ((go_at_call 112; refine Calls.quiet_of (div64_small x y hx hx' hy hy' _)))
 go_wp2_with fail
 refine bodyPost_ret (v := .tuple #[.agg #[.int .u64 0, .int .u64 (x / y)], .int .u64 (x % y)]) (by simp [results, Tryz.results75, go_sem]) rfl ⟨rfl, ?_⟩;exact ((below_drewN ((below_new _ _).alloc (by simp) _) _).setCell (p := ⟨w.heap.size + 1, 0, none⟩) (by simp) _).setCell (p := ⟨w.heap.size + 1, 1, none⟩) (by simp) _
end
end Go.Proofs.YtbgkgahmicepdaaGreat
