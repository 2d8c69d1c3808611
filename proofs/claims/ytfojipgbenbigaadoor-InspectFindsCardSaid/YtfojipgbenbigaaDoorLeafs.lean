/-
  THE WALKS of the small functions of package inspect and of its reference (leap, long, days, Month, isDay, Every), and the plain functions that they compute. Condition of days: the months' table lies in memory as the program's text lays it.
-/
import Derived.Test.YtfojipgbenbigaaDoorRows
import Derived.Test.YtfojipgbenbigaaDoorCal
import Derived.WalkKit
import Derived.WalkSpells
import Derived.WalkLawsBesides
import Derived.Deep.QuietTactic
import Derived.BigQuiet
import Derived.Lib.Hide
import Derived.Deep.RegionHeld3
import Derived.Deep.DeepCutAuto
namespace Go.Proofs.YtfojipgbenbigaaDoor
open Go.RowKit

theorem ret_bool {a b : Bool} (h : a = b) : Ending.returned (.bool a) = .returned (.bool b) := by rw [h]
theorem ret_int {k : IntKind} {a b : Int} (h : a = b) : Ending.returned (.int k a) = .returned (.int k b) := by rw [h]

theorem ret_ii {a b c : Int} (h : a = b) : Ending.returned (.tuple #[.int .i64 a, .int .i64 c]) = .returned (.tuple #[.int .i64 b, .int .i64 c]) := by rw [h]
theorem ret_ib {a b : Int} {c d : Bool} (h : a = b) (h' : c = d) : Ending.returned (.tuple #[.int .i64 a, .bool c]) = .returned (.tuple #[.int .i64 b, .bool d]) := by rw [h, h']

set_option maxHeartbeats 400000 in
theorem leap_any (y : Int) (h0 : 0 ≤ y) (w : World) :
    Calls Tryd.prog 54 #[.int .i64 y] w fun e w' => e = .returned (.bool (leapB y)) ∧ w = w' := by
  go_enter Tryd.func54, Tryd.ntmps54
  go_wp2
  all_goals (go_ret; exact ⟨ret_bool (by (first | (simp only [leapB]; simp_all; done) | (rw [Bool.eq_iff_iff]; simp [leapB]; omega))), rfl⟩)

set_option maxHeartbeats 400000 in
theorem refleap_any (y : Int) (h0 : 0 ≤ y) (w : World) :
    Calls Tryd.prog 42 #[.int .i64 y] w fun e w' => e = .returned (.bool (leapB y)) ∧ w = w' := by
  go_enter Tryd.func42, Tryd.ntmps42
  go_wp2
  all_goals (go_ret; exact ⟨ret_bool (by (first | (simp only [leapB]; simp_all; done) | (rw [Bool.eq_iff_iff]; simp [leapB]; omega))), rfl⟩)

set_option maxHeartbeats 400000 in
theorem long_any (y : Int) (h0 : 0 ≤ y) (w : World) :
    Calls Tryd.prog 40 #[.int .i64 y] w fun e w' => e = .returned (.int .i64 (longI y)) ∧ w = w' := by
  by_cases h : leapB y = true
  all_goals
    go_enter Tryd.func40, Tryd.ntmps40
    go_wp2_with (go_at_call 54; refine (leap_any _ h0 _).mono ?_; rintro e w' ⟨rfl, rfl⟩)
    go_ret
    exact ⟨ret_int (by simp [longI, h]), rfl⟩

/-- The months' table, as memory holds it. -/
def Months (w : World) : Prop :=
  ∀ i : Nat, i < 12 → w.cell? ⟨0, i, none⟩ = some (.int .i64 (([31, 28, 31, 30, 31, 30, 31, 31, 30, 31, 30, 31] : List Int).getD i 0))

theorem tab_mon (y : Int) (i : Nat) (h : i < 12) (h2 : ((i : Int) + 1 = 2) → leapB y = false) :
    ([31, 28, 31, 30, 31, 30, 31, 31, 30, 31, 30, 31] : List Int).getD i 0 = monI y (i + 1) := by
  match i, h with
  | 0, _ => rfl
  | 1, _ => simp [monI, h2 (by rfl)]
  | 2, _ => rfl
  | 3, _ => rfl
  | 4, _ => rfl
  | 5, _ => rfl
  | 6, _ => rfl
  | 7, _ => rfl
  | 8, _ => rfl
  | 9, _ => rfl
  | 10, _ => rfl
  | 11, _ => rfl

set_option maxHeartbeats 400000 in
theorem days_any (y m : Int) (h0 : 0 ≤ y) (h1 : 1 ≤ m) (h2 : m ≤ 12) (w : World) (hm : Months w) :
    Calls Tryd.prog 39 #[.int .i64 y, .int .i64 m] w fun e w' => e = .returned (.int .i64 (monI y m)) ∧ w = w' := by
  obtain ⟨i, hi⟩ := Int.eq_ofNat_of_zero_le (show 0 ≤ m - 1 by omega)
  obtain rfl : m = (i : Int) + 1 := by omega
  have hc := hm i (by omega)
  clear hm hi
  by_cases hb : (i : Int) + 1 = 2
  · obtain rfl : i = 1 := by omega
    by_cases h : leapB y = true
    all_goals
      go_enter Tryd.func39, Tryd.ntmps39
      go_wp2_with (go_at_call 54; refine (leap_any _ h0 _).mono ?_; rintro e w' ⟨rfl, rfl⟩)
      go_ret
      exact ⟨ret_int (by simp [monI, h]), rfl⟩
  · have hb' : (((i : Int) + 1) == 2) = false := by simpa using hb
    rw [tab_mon y i (by omega) (fun h => absurd h hb)] at hc
    go_enter Tryd.func39, Tryd.ntmps39
    go_wp2
    go_ret
    exact ⟨rfl, rfl⟩

set_option maxHeartbeats 400000 in
theorem month_any (y m : Int) (h0 : 0 ≤ y) (w : World) :
    Calls Tryd.prog 41 #[.int .i64 y, .int .i64 m] w fun e w' => e = .returned (.int .i64 (monI y m)) ∧ w = w' := by
  by_cases h : leapB y = true
  all_goals
    go_enter Tryd.func41, Tryd.ntmps41
    go_wp2_with (go_at_call 42; refine (refleap_any _ h0 _).mono ?_; rintro e w' ⟨rfl, rfl⟩)
    all_goals (go_ret; exact ⟨ret_int (by simp only [monI]; simp_all), rfl⟩)

set_option maxHeartbeats 400000 in
theorem isDay_any (n : Int) (w : World) :
    Calls Tryd.prog 45 #[.int .i64 n] w fun e w' => e = .returned (.bool (isDayB n)) ∧ w = w' := by
  go_enter Tryd.func45, Tryd.ntmps45
  go_wp2
  all_goals (go_ret; exact ⟨ret_bool (by rw [Bool.eq_iff_iff]; simp [isDayB]; omega), rfl⟩)

set_option maxHeartbeats 400000 in
theorem every_any (n : Int) (w : World) :
    Calls Tryd.prog 18 #[.int .i64 n] w fun e w' => e = .returned (.bool (everyB n)) ∧ w = w' := by
  go_enter Tryd.func18, Tryd.ntmps18
  go_wp2
  all_goals (go_ret; exact ⟨ret_bool (by rw [Bool.eq_iff_iff]; simp [everyB]; omega), rfl⟩)
end Go.Proofs.YtfojipgbenbigaaDoor
