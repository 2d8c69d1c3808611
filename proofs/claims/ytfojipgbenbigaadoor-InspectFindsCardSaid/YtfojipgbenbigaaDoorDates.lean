/-
  THE WALKS of Day and Date (package inspect) and of their references: the day of a date, and the date of a day. Condition of package inspect's: the months' table lies in memory as the program's text lays it.
-/
import Derived.Test.YtfojipgbenbigaaDoorLeafs
namespace Go.Proofs.YtfojipgbenbigaaDoor
open Go.RowKit

/-- What Day hands back. -/
def dayE (y m d : Int) : Ending := if dateOK y m d then .returned (.tuple #[.int .i64 (dayI y m d), .int .i64 0]) else .returned (.tuple #[.int .i64 0, .int .i64 2])
def refdayE (y m d : Int) : Ending := if dateOK y m d then .returned (.tuple #[.int .i64 (dayI y m d), .bool true]) else .returned (.tuple #[.int .i64 0, .bool false])

theorem dateOK_not (y m d : Int) (h : dateOK y m d = false) (a : 1900 ≤ y) (b : y ≤ 2199) (c : 1 ≤ m) (e : m ≤ 12) (f : 1 ≤ d) (g : d ≤ monI y m) : False := by
  have := (dateOK_iff y m d).2 ⟨a, b, c, e, f, g⟩
  rw [h] at this; cases this

set_option maxHeartbeats 1000000 in
theorem day_no (y m d : Int) (w : World) (hm : Months w) (hno : dateOK y m d = false) :
    Calls Tryd.prog 11 #[.int .i64 y, .int .i64 m, .int .i64 d] w fun e w' => e = .returned (.tuple #[.int .i64 0, .int .i64 2]) ∧ w = w' := by
  have Hm := Lib.hid hm; clear hm
  have Hno := Lib.hid hno; clear hno
  have Hx := Lib.hid (dateOK_not y m d Hno.out)
  go_enter Tryd.func11, Tryd.ntmps11
  go_wp2_with (go_at_call 39; refine (days_any _ _ (by omega) (by omega) (by omega) _ Hm.out).mono ?_; rintro e w' ⟨rfl, rfl⟩)
  all_goals first
    | (go_ret2; exact ⟨rfl, rfl⟩)
    | (exfalso; exact Hx.out (by omega) (by omega) (by omega) (by omega) (by omega) (by omega))

set_option maxHeartbeats 1000000 in
theorem day_yes (y m d : Int) (w : World) (hm : Months w) (hok : dateOK y m d = true) :
    Calls Tryd.prog 11 #[.int .i64 y, .int .i64 m, .int .i64 d] w fun e w' => e = .returned (.tuple #[.int .i64 (dayI y m d), .int .i64 0]) ∧ w = w' := by
  have Hm := Lib.hid hm; clear hm
  obtain ⟨g1, g2, g3, g4, g5, g6⟩ := (dateOK_iff y m d).1 hok
  clear hok
  have g7 := (monI_bd y m).2
  go_enter Tryd.func11, Tryd.ntmps11
  go_wp2_with (go_at_call 39; refine (days_any _ _ (by omega) (by omega) (by omega) _ Hm.out).mono ?_; rintro e w' ⟨rfl, rfl⟩)
  go_loop [8, 9] (fun n t => ∃ k : Nat, 1900 + (k : Int) ≤ y ∧ t = .int .i64 (1900 + k) ∧ n = .int .i64 (d - 1 + yr k)) (fun _ t => (y - intOf t).toNat)
  case atStart => exact ⟨0, by omega, rfl, by simp [yr]⟩
  case round =>
    obtain ⟨k, hk, rfl, rfl⟩ := hrel
    have b1 := yr_bd k
    have b2 := longI_bd (1900 + k)
    by_cases hlt : 1900 + (k : Int) < y
    · go_wp2_with (go_at_call 40; refine (long_any _ (by omega) _).mono ?_; rintro e w' ⟨rfl, rfl⟩)
      go_round
      case rel => exact ⟨k + 1, by omega, by go_num, by rw [yr_succ]; go_num⟩
      case measure => simp [intOf]; omega
    · obtain rfl : y = 1900 + (k : Int) := by omega
      go_wp2
      go_loop [8, 10] (fun n t => ∃ j : Nat, 1 + (j : Int) ≤ m ∧ t = .int .i64 (1 + j) ∧ n = .int .i64 (d - 1 + yr k + mo (1900 + k) j)) (fun _ t => (m - intOf t).toNat)
      case atStart => exact ⟨0, by omega, rfl, by simp [mo]⟩
      case round =>
        obtain ⟨j, hj, rfl, rfl⟩ := hrel
        have c1 := mo_bd (1900 + k) j
        have c2 := monI_bd (1900 + k) (1 + j)
        by_cases hlt : 1 + (j : Int) < m
        · go_wp2_with (go_at_call 39; refine (days_any _ _ (by omega) (by omega) (by omega) _ Hm.out).mono ?_; rintro e w' ⟨rfl, rfl⟩)
          go_round
          case rel => exact ⟨j + 1, by omega, by go_num, by rw [mo_succ]; go_num⟩
          case measure => simp [intOf]; omega
        · obtain rfl : m = 1 + (j : Int) := by omega
          go_wp2
          go_ret2
          exact ⟨ret_ii (day_eq k j d), rfl⟩

set_option maxHeartbeats 1000000 in
theorem refday_no (y m d : Int) (w : World) (hno : dateOK y m d = false) :
    Calls Tryd.prog 12 #[.int .i64 y, .int .i64 m, .int .i64 d] w fun e w' => e = .returned (.tuple #[.int .i64 0, .bool false]) ∧ w = w' := by
  have Hno := Lib.hid hno; clear hno
  have Hx := Lib.hid (dateOK_not y m d Hno.out)
  go_enter Tryd.func12, Tryd.ntmps12
  go_wp2_with (go_at_call 41; refine (month_any _ _ (by omega) _).mono ?_; rintro e w' ⟨rfl, rfl⟩)
  all_goals first
    | (go_ret2; exact ⟨rfl, rfl⟩)
    | (exfalso; exact Hx.out (by omega) (by omega) (by omega) (by omega) (by omega) (by omega))

set_option maxHeartbeats 1000000 in
theorem refday_yes (y m d : Int) (w : World) (hok : dateOK y m d = true) :
    Calls Tryd.prog 12 #[.int .i64 y, .int .i64 m, .int .i64 d] w fun e w' => e = .returned (.tuple #[.int .i64 (dayI y m d), .bool true]) ∧ w = w' := by
  have hl := dayI_bd y m d hok
  obtain ⟨g1, g2, g3, g4, g5, g6⟩ := (dateOK_iff y m d).1 hok
  clear hok
  have g7 := (monI_bd y m).2
  go_enter Tryd.func12, Tryd.ntmps12
  go_wp2_with (go_at_call 41; refine (month_any _ _ (by omega) _).mono ?_; rintro e w' ⟨rfl, rfl⟩)
  go_loop [8, 9] (fun n t => ∃ k : Nat, 1900 + (k : Int) ≤ y ∧ t = .int .i64 (1900 + k) ∧ n = .int .i64 (d - 1 + yr k)) (fun _ t => (y - intOf t).toNat)
  case atStart => exact ⟨0, by omega, rfl, by simp [yr]⟩
  case round =>
    obtain ⟨k, hk, rfl, rfl⟩ := hrel
    have b1 := yr_bd k
    by_cases hlt : 1900 + (k : Int) < y
    · by_cases hb : leapB (1900 + (k : Int)) = true
      all_goals
        have b2 : longI (1900 + (k : Int)) = if leapB (1900 + (k : Int)) then 366 else 365 := rfl
        simp only [hb] at b2
        have H2 := Lib.hid b2; clear b2
        go_wp2_with (go_at_call 42; refine (refleap_any _ (by omega) _).mono ?_; rintro e w' ⟨rfl, rfl⟩)
        go_round
        case rel => exact ⟨k + 1, by omega, by go_num, by rw [yr_succ, H2.out]; go_num⟩
        case measure => simp [intOf]; omega
    · obtain rfl : y = 1900 + (k : Int) := by omega
      go_wp2
      go_loop [8, 10] (fun n t => ∃ j : Nat, 1 + (j : Int) ≤ m ∧ t = .int .i64 (1 + j) ∧ n = .int .i64 (d - 1 + yr k + mo (1900 + k) j)) (fun _ t => (m - intOf t).toNat)
      case atStart => exact ⟨0, by omega, rfl, by simp [mo]⟩
      case round =>
        obtain ⟨j, hj, rfl, rfl⟩ := hrel
        have c1 := mo_bd (1900 + k) j
        have c2 := monI_bd (1900 + k) (1 + j)
        by_cases hlt : 1 + (j : Int) < m
        · go_wp2_with (go_at_call 41; refine (month_any _ _ (by omega) _).mono ?_; rintro e w' ⟨rfl, rfl⟩)
          go_round
          case rel => exact ⟨j + 1, by omega, by go_num, by rw [mo_succ]; go_num⟩
          case measure => simp [intOf]; omega
        · obtain rfl : m = 1 + (j : Int) := by omega
          rw [← day_eq] at hl
          go_wp2
          go_ret2
          exact ⟨ret_ib (day_eq k j d) rfl, rfl⟩

/-- The date that Date hands back. -/
def Dated (n : Int) (P : Int → Int → Int → Ending) (w : World) (e : Ending) (w' : World) : Prop := ∃ y m d : Int, IsDate n y m d ∧ e = P y m d ∧ w = w'

set_option maxHeartbeats 1000000 in
theorem date_no (n : Int) (w : World) (h : isDayB n = false) :
    Calls Tryd.prog 13 #[.int .i64 n] w fun e w' => e = .returned (.tuple #[.int .i64 0, .int .i64 0, .int .i64 0, .int .i64 2]) ∧ w = w' := by
  have H := Lib.hid (show 0 ≤ n → 109572 < n by intro a; simp [isDayB] at h; omega)
  clear h
  go_enter Tryd.func13, Tryd.ntmps13
  by_cases h0 : n < 0
  · go_wp2
    exact bodyPost_ret (v := .tuple #[.int .i64 0, .int .i64 0, .int .i64 0, .int .i64 2]) (by simp [results, Tryd.results13, go_sem]) rfl ⟨rfl, rfl⟩
  · have h1 := H.out (by omega)
    go_wp2
    exact bodyPost_ret (v := .tuple #[.int .i64 0, .int .i64 0, .int .i64 0, .int .i64 2]) (by simp [results, Tryd.results13, go_sem]) rfl ⟨rfl, rfl⟩

theorem year_next (n : Int) (k : Nat) (hk : k ≤ 299) (h1 : n ≤ 109572) (h : longI (1900 + k) ≤ n - yr k) : k + 1 ≤ 299 ∧ 0 ≤ n - yr (k + 1) := by
  rw [yr_succ]
  have a := yr_succ k
  rcases Nat.lt_or_ge k 299 with l | l
  · exact ⟨by omega, by omega⟩
  · obtain rfl : k = 299 := by omega
    rw [show 299 + 1 = 300 from rfl, yr_all] at a
    omega
theorem month_next (y r : Int) (j : Nat) (hj : j ≤ 11) (h1 : r < longI y) (h : monI y (1 + j) ≤ r - mo y j) : j + 1 ≤ 11 ∧ 0 ≤ r - mo y (j + 1) := by
  have a := mo_succ y j
  rcases Nat.lt_or_ge j 11 with l | l
  · exact ⟨by omega, by omega⟩
  · obtain rfl : j = 11 := by omega
    rw [show 11 + 1 = 12 from rfl, mo_all] at a
    omega

set_option maxHeartbeats 2000000 in
theorem date_yes (n : Int) (w : World) (hm : Months w) (h0 : 0 ≤ n) (h1 : n ≤ 109572) :
    Calls Tryd.prog 13 #[.int .i64 n] w (Dated n (fun y m d => .returned (.tuple #[.int .i64 y, .int .i64 m, .int .i64 d, .int .i64 0])) w) := by
  have Hm := Lib.hid hm; clear hm
  go_enter Tryd.func13, Tryd.ntmps13
  go_wp2
  go_loop [0, 6] (fun r t => ∃ k : Nat, k ≤ 299 ∧ t = .int .i64 (1900 + k) ∧ 0 ≤ n - yr k ∧ r = .int .i64 (n - yr k)) (fun _ t => (2199 - intOf t).toNat)
  case atStart => exact ⟨0, by omega, rfl, by simpa [yr] using h0, by simp [yr]⟩
  case round =>
    obtain ⟨k, hk, rfl, hr, rfl⟩ := hrel
    have b1 := yr_bd k
    have b2 := longI_bd (1900 + k)
    by_cases hlt : longI (1900 + (k : Int)) ≤ n - yr k
    · obtain ⟨n1, n2⟩ := year_next n k hk h1 hlt
      go_wp2_with (go_at_call 40; refine (long_any _ (by omega) _).mono ?_; rintro e w' ⟨rfl, rfl⟩)
      go_round
      case rel => exact ⟨k + 1, n1, by go_num, n2, by rw [yr_succ]; go_num⟩
      case measure => simp [intOf]; omega
    · go_wp2_with (go_at_call 40; refine (long_any _ (by omega) _).mono ?_; rintro e w' ⟨rfl, rfl⟩)
      go_loop [0, 7] (fun r t => ∃ j : Nat, j ≤ 11 ∧ t = .int .i64 (1 + j) ∧ 0 ≤ n - yr k - mo (1900 + k) j ∧ r = .int .i64 (n - yr k - mo (1900 + k) j)) (fun _ t => (12 - intOf t).toNat)
      case atStart => exact ⟨0, by omega, rfl, by simpa [mo] using hr, by simp [mo]⟩
      case round =>
        obtain ⟨j, hj, rfl, hs, rfl⟩ := hrel
        have c1 := mo_bd (1900 + k) j
        have c2 := monI_bd (1900 + k) (1 + j)
        by_cases hl2 : monI (1900 + (k : Int)) (1 + j) ≤ n - yr k - mo (1900 + k) j
        · obtain ⟨n1, n2⟩ := month_next (1900 + k) (n - yr k) j hj (by omega) hl2
          go_wp2_with (go_at_call 39; refine (days_any _ _ (by omega) (by omega) (by omega) _ Hm.out).mono ?_; rintro e w' ⟨rfl, rfl⟩)
          go_round
          case rel => exact ⟨j + 1, n1, by go_num, n2, by rw [mo_succ]; go_num⟩
          case measure => simp [intOf]; omega
        · have H := Lib.hid (isDate_mk n k j hk hs (by omega) hj)
          go_wp2_with (go_at_call 39; refine (days_any _ _ (by omega) (by omega) (by omega) _ Hm.out).mono ?_; rintro e w' ⟨rfl, rfl⟩)
          exact bodyPost_ret (v := .tuple #[.int .i64 (1900 + k), .int .i64 (1 + j), .int .i64 (n - yr k - mo (1900 + k) j + 1), .int .i64 0]) (by simp [results, Tryd.results13, go_sem]) rfl ⟨_, _, _, H.out, rfl, rfl⟩

set_option maxHeartbeats 2000000 in
theorem refdate_yes (n : Int) (w : World) (h0 : 0 ≤ n) (h1 : n ≤ 109572) :
    Calls Tryd.prog 14 #[.int .i64 n] w (Dated n (fun y m d => .returned (.tuple #[.int .i64 y, .int .i64 m, .int .i64 d])) w) := by
  go_enter Tryd.func14, Tryd.ntmps14
  go_wp2
  go_loop [0, 5, 7] (fun r t _ => ∃ k : Nat, k ≤ 299 ∧ t = .int .i64 (1900 + k) ∧ 0 ≤ n - yr k ∧ r = .int .i64 (n - yr k)) (fun _ t _ => (2199 - intOf t).toNat)
  case atStart => exact ⟨0, by omega, rfl, by simpa [yr] using h0, by simp [yr]⟩
  case round =>
    obtain ⟨k, hk, rfl, hr, rfl⟩ := hrel
    have b1 := yr_bd k
    have b3 : longI (1900 + (k : Int)) = if leapB (1900 + (k : Int)) then 366 else 365 := rfl
    by_cases hlt : longI (1900 + (k : Int)) ≤ n - yr k
    · obtain ⟨n1, n2⟩ := year_next n k hk h1 hlt
      by_cases hb : leapB (1900 + (k : Int)) = true
      all_goals
        simp only [hb] at b3
        have b4 : longI (1900 + (k : Int)) = _ := b3
        simp only [if_true, Bool.false_eq_true, if_false] at b4
        rw [b4] at hlt
        have H2 := Lib.hid b4; clear b3 b4
        go_wp2_with (go_at_call 42; refine (refleap_any _ (by omega) _).mono ?_; rintro e w' ⟨rfl, rfl⟩)
        go_round
        case rel => exact ⟨k + 1, n1, by go_num, n2, by rw [yr_succ, H2.out]; go_num⟩
        case measure => simp [intOf]; omega
    · have hgt : n - yr k < longI (1900 + (k : Int)) := by omega
      have Hgt := Lib.hid hgt
      by_cases hb : leapB (1900 + (k : Int)) = true
      all_goals
        simp only [hb] at b3
        have b4 : longI (1900 + (k : Int)) = _ := b3
        simp only [if_true, Bool.false_eq_true, if_false] at b4
        rw [b4] at hgt
        clear b3 b4 hlt
        go_wp2_with (go_at_call 42; refine (refleap_any _ (by omega) _).mono ?_; rintro e w' ⟨rfl, rfl⟩)
        go_loop [0, 6] (fun r t => ∃ j : Nat, j ≤ 11 ∧ t = .int .i64 (1 + j) ∧ 0 ≤ n - yr k - mo (1900 + k) j ∧ r = .int .i64 (n - yr k - mo (1900 + k) j)) (fun _ t => (12 - intOf t).toNat)
        case atStart => exact ⟨0, by omega, rfl, by simpa [mo] using hr, by simp [mo]⟩
        case round =>
          obtain ⟨j, hj, rfl, hs, rfl⟩ := hrel
          have c1 := mo_bd (1900 + k) j
          have c2 := monI_bd (1900 + k) (1 + j)
          by_cases hl2 : monI (1900 + (k : Int)) (1 + j) ≤ n - yr k - mo (1900 + k) j
          · obtain ⟨n1, n2⟩ := month_next (1900 + k) (n - yr k) j hj Hgt.out hl2
            go_wp2_with (go_at_call 41; refine (month_any _ _ (by omega) _).mono ?_; rintro e w' ⟨rfl, rfl⟩)
            go_round
            case rel => exact ⟨j + 1, n1, by go_num, n2, by rw [mo_succ]; go_num⟩
            case measure => simp [intOf]; omega
          · have H := Lib.hid (isDate_mk n k j hk hs (by omega) hj)
            go_wp2_with (go_at_call 41; refine (month_any _ _ (by omega) _).mono ?_; rintro e w' ⟨rfl, rfl⟩)
            go_ret3
            exact ⟨_, _, _, H.out, rfl, rfl⟩
end Go.Proofs.YtfojipgbenbigaaDoor
