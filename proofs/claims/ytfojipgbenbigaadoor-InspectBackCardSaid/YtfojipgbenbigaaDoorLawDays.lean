/-
  THE WALKS of the laws InspectDays and InspectBack: they answer true at every input. Condition: the months' table lies in memory as the program's text lays it.
-/
import Derived.Test.YtfojipgbenbigaaDoorLawA
namespace Go.Proofs.YtfojipgbenbigaaDoor
open Go.RowKit Go.Shelf

set_option maxRecDepth 100000 in
set_option maxHeartbeats 4000000 in
theorem days_law_no_neg (y m d n : Int) (w : World) (hm : Months w) (hok : dateOK y m d = false) (hn : n < 0) : Calls Tryd.prog 3 #[.int .i64 y, .int .i64 m, .int .i64 d, .int .i64 n] w fun e w' => e = .returned (.bool true) ∧ Below w.heap.size w w' := by
  have HA := Lib.hid (awake_any w hm)
  have HM := Lib.hid hm; clear hm
  have HOK := Lib.hid hok; clear hok
  have HN : Hid (isDayB n = false) := Lib.hid (by unfold isDayB; exact decide_eq_false (by omega))
  go_enter Tryd.func3, Tryd.ntmps3
  go_wp2_with (first
    | (go_at_call 10; (with_reducible refine HA.out.mono ?_); rintro e w1 ⟨rfl, hb1⟩)
    | (go_at_call 11; (with_reducible refine (day_no y m d _ (HM.out.below hb1) HOK.out).mono ?_); rintro e w' ⟨rfl, rfl⟩)
    | (go_at_call 12; (with_reducible refine (refday_no y m d _ HOK.out).mono ?_); rintro e w' ⟨rfl, rfl⟩)
    | (go_at_call 13; (with_reducible refine (date_no n _ HN.out).mono ?_); rintro e w' ⟨rfl, rfl⟩))
  go_ret
  exact ⟨rfl, hb1⟩

set_option maxRecDepth 100000 in
set_option maxHeartbeats 4000000 in
theorem days_law_no_big (y m d n : Int) (w : World) (hm : Months w) (hok : dateOK y m d = false) (hn : 109572 < n) : Calls Tryd.prog 3 #[.int .i64 y, .int .i64 m, .int .i64 d, .int .i64 n] w fun e w' => e = .returned (.bool true) ∧ Below w.heap.size w w' := by
  have HA := Lib.hid (awake_any w hm)
  have HM := Lib.hid hm; clear hm
  have HOK := Lib.hid hok; clear hok
  have HN : Hid (isDayB n = false) := Lib.hid (by unfold isDayB; exact decide_eq_false (by omega))
  have hn0 : ¬ n < 0 := by omega
  go_enter Tryd.func3, Tryd.ntmps3
  go_wp2_with (first
    | (go_at_call 10; (with_reducible refine HA.out.mono ?_); rintro e w1 ⟨rfl, hb1⟩)
    | (go_at_call 11; (with_reducible refine (day_no y m d _ (HM.out.below hb1) HOK.out).mono ?_); rintro e w' ⟨rfl, rfl⟩)
    | (go_at_call 12; (with_reducible refine (refday_no y m d _ HOK.out).mono ?_); rintro e w' ⟨rfl, rfl⟩)
    | (go_at_call 13; (with_reducible refine (date_no n _ HN.out).mono ?_); rintro e w' ⟨rfl, rfl⟩))
  go_ret
  exact ⟨rfl, hb1⟩

set_option maxRecDepth 100000 in
set_option maxHeartbeats 4000000 in
theorem days_law_no_day (y m d n : Int) (w : World) (hm : Months w) (hok : dateOK y m d = false) (h0 : 0 ≤ n) (h1 : n ≤ 109572) : Calls Tryd.prog 3 #[.int .i64 y, .int .i64 m, .int .i64 d, .int .i64 n] w fun e w' => e = .returned (.bool true) ∧ Below w.heap.size w w' := by
  have HA := Lib.hid (awake_any w hm)
  have HM := Lib.hid hm; clear hm
  have HOK := Lib.hid hok; clear hok
  go_enter Tryd.func3, Tryd.ntmps3
  go_wp2_with (first
    | (go_at_call 10; (with_reducible refine HA.out.mono ?_); rintro e w1 ⟨rfl, hb1⟩)
    | (go_at_call 11; (with_reducible refine (day_no y m d _ (HM.out.below hb1) HOK.out).mono ?_); rintro e w' ⟨rfl, rfl⟩)
    | (go_at_call 12; (with_reducible refine (refday_no y m d _ HOK.out).mono ?_); rintro e w' ⟨rfl, rfl⟩)
    | (go_at_call 13; (with_reducible refine (date_yes n _ (HM.out.below hb1) h0 h1).mono ?_); rintro e w' ⟨y1, m1, d1, hD1, rfl, rfl⟩; have HD1 := Lib.hid hD1; clear hD1)
    | (go_at_call 14; (with_reducible refine (refdate_yes n _ h0 h1).mono ?_); rintro e w' ⟨y2, m2, d2, hD2, rfl, rfl⟩; obtain ⟨rfl, rfl, rfl⟩ := isDate_one HD1.out hD2; clear hD2))
  go_ret
  exact ⟨rfl, hb1⟩

set_option maxRecDepth 100000 in
set_option maxHeartbeats 4000000 in
theorem days_law_yes_neg (y m d n : Int) (w : World) (hm : Months w) (hok : dateOK y m d = true) (hn : n < 0) : Calls Tryd.prog 3 #[.int .i64 y, .int .i64 m, .int .i64 d, .int .i64 n] w fun e w' => e = .returned (.bool true) ∧ Below w.heap.size w w' := by
  have HA := Lib.hid (awake_any w hm)
  have HM := Lib.hid hm; clear hm
  have HOK := Lib.hid hok; clear hok
  have HN : Hid (isDayB n = false) := Lib.hid (by unfold isDayB; exact decide_eq_false (by omega))
  go_enter Tryd.func3, Tryd.ntmps3
  go_wp2_with (first
    | (go_at_call 10; (with_reducible refine HA.out.mono ?_); rintro e w1 ⟨rfl, hb1⟩)
    | (go_at_call 11; (with_reducible refine (day_yes y m d _ (HM.out.below hb1) HOK.out).mono ?_); rintro e w' ⟨rfl, rfl⟩)
    | (go_at_call 12; (with_reducible refine (refday_yes y m d _ HOK.out).mono ?_); rintro e w' ⟨rfl, rfl⟩)
    | (go_at_call 13; (with_reducible refine (date_no n _ HN.out).mono ?_); rintro e w' ⟨rfl, rfl⟩))
  go_ret
  exact ⟨rfl, hb1⟩

set_option maxRecDepth 100000 in
set_option maxHeartbeats 4000000 in
theorem days_law_yes_big (y m d n : Int) (w : World) (hm : Months w) (hok : dateOK y m d = true) (hn : 109572 < n) : Calls Tryd.prog 3 #[.int .i64 y, .int .i64 m, .int .i64 d, .int .i64 n] w fun e w' => e = .returned (.bool true) ∧ Below w.heap.size w w' := by
  have HA := Lib.hid (awake_any w hm)
  have HM := Lib.hid hm; clear hm
  have HOK := Lib.hid hok; clear hok
  have HN : Hid (isDayB n = false) := Lib.hid (by unfold isDayB; exact decide_eq_false (by omega))
  have hn0 : ¬ n < 0 := by omega
  go_enter Tryd.func3, Tryd.ntmps3
  go_wp2_with (first
    | (go_at_call 10; (with_reducible refine HA.out.mono ?_); rintro e w1 ⟨rfl, hb1⟩)
    | (go_at_call 11; (with_reducible refine (day_yes y m d _ (HM.out.below hb1) HOK.out).mono ?_); rintro e w' ⟨rfl, rfl⟩)
    | (go_at_call 12; (with_reducible refine (refday_yes y m d _ HOK.out).mono ?_); rintro e w' ⟨rfl, rfl⟩)
    | (go_at_call 13; (with_reducible refine (date_no n _ HN.out).mono ?_); rintro e w' ⟨rfl, rfl⟩))
  go_ret
  exact ⟨rfl, hb1⟩

set_option maxRecDepth 100000 in
set_option maxHeartbeats 4000000 in
theorem days_law_yes_day (y m d n : Int) (w : World) (hm : Months w) (hok : dateOK y m d = true) (h0 : 0 ≤ n) (h1 : n ≤ 109572) : Calls Tryd.prog 3 #[.int .i64 y, .int .i64 m, .int .i64 d, .int .i64 n] w fun e w' => e = .returned (.bool true) ∧ Below w.heap.size w w' := by
  have HA := Lib.hid (awake_any w hm)
  have HM := Lib.hid hm; clear hm
  have HOK := Lib.hid hok; clear hok
  go_enter Tryd.func3, Tryd.ntmps3
  go_wp2_with (first
    | (go_at_call 10; (with_reducible refine HA.out.mono ?_); rintro e w1 ⟨rfl, hb1⟩)
    | (go_at_call 11; (with_reducible refine (day_yes y m d _ (HM.out.below hb1) HOK.out).mono ?_); rintro e w' ⟨rfl, rfl⟩)
    | (go_at_call 12; (with_reducible refine (refday_yes y m d _ HOK.out).mono ?_); rintro e w' ⟨rfl, rfl⟩)
    | (go_at_call 13; (with_reducible refine (date_yes n _ (HM.out.below hb1) h0 h1).mono ?_); rintro e w' ⟨y1, m1, d1, hD1, rfl, rfl⟩; have HD1 := Lib.hid hD1; clear hD1)
    | (go_at_call 14; (with_reducible refine (refdate_yes n _ h0 h1).mono ?_); rintro e w' ⟨y2, m2, d2, hD2, rfl, rfl⟩; obtain ⟨rfl, rfl, rfl⟩ := isDate_one HD1.out hD2; clear hD2))
  go_ret
  exact ⟨rfl, hb1⟩

theorem days_law (y m d n : Int) (w : World) (hm : Months w) : Calls Tryd.prog 3 #[.int .i64 y, .int .i64 m, .int .i64 d, .int .i64 n] w fun e w' => e = .returned (.bool true) ∧ Below w.heap.size w w' := by
  cases hok : dateOK y m d <;> rcases (show n < 0 ∨ 109572 < n ∨ (0 ≤ n ∧ n ≤ 109572) by omega) with h | h | ⟨h0, h1⟩
  · exact days_law_no_neg y m d n w hm hok h
  · exact days_law_no_big y m d n w hm hok h
  · exact days_law_no_day y m d n w hm hok h0 h1
  · exact days_law_yes_neg y m d n w hm hok h
  · exact days_law_yes_big y m d n w hm hok h
  · exact days_law_yes_day y m d n w hm hok h0 h1

/-- What the law InspectBack asks of a date and of the next one. -/
theorem back_plain (k y m d a b c : Int) (h : IsDate k y m d) (h' : IsDate (k + 1) a b c) (hk : k < 109572) :
    (a = y ∧ b = m ∧ c = d + 1) ∨ (a = y ∧ b = m + 1 ∧ c = 1 ∧ 28 ≤ d) ∨ (a = y + 1 ∧ b = 1 ∧ m = 12 ∧ c = 1 ∧ 28 ≤ d) := by
  have hb := isDate_bd h
  have hm := monI_bd y m
  rcases isDate_next k y m d h with ⟨h1, h2⟩ | ⟨h1, h2, h3⟩ | ⟨h1, h2, h3, h4⟩
  · obtain ⟨rfl, rfl, rfl⟩ := isDate_one h' h2
    exact .inl ⟨rfl, rfl, rfl⟩
  · obtain ⟨rfl, rfl, rfl⟩ := isDate_one h' h3
    exact .inr (.inl ⟨rfl, rfl, rfl, by omega⟩)
  · obtain ⟨rfl, rfl, rfl⟩ := isDate_one h' (h3 (by omega))
    exact .inr (.inr ⟨rfl, rfl, h2, rfl, by omega⟩)

set_option maxRecDepth 100000 in
set_option maxHeartbeats 4000000 in
theorem back_law (n : Int) (w : World) (hm : Months w) (h0 : 0 ≤ n) (h1 : n ≤ 4294967295) : Calls Tryd.prog 4 #[.int .u32 n] w fun e w' => e = .returned (.bool true) ∧ Below w.heap.size w w' := by
  have HA := Lib.hid (awake_any w hm)
  have HM := Lib.hid hm; clear hm
  have k0 : 0 ≤ n % 109572 := by omega
  have k1 : n % 109572 < 109572 := by omega
  go_enter Tryd.func4, Tryd.ntmps4
  go_wp2_with (first | (go_at_call 10; (with_reducible refine HA.out.mono ?_); rintro e w1 ⟨rfl, hb1⟩))
  generalize n % 109572 = k at *
  have HM1 := Lib.hid (HM.out.below hb1)
  refine (date_yes k _ HM1.out (by omega) (by omega)).mono ?_
  rintro e w' ⟨y, m, d, hD, rfl, rfl⟩
  have HD := Lib.hid hD; clear hD
  go_wp2_with fail
  refine (date_yes (k + 1) _ HM1.out (by omega) (by omega)).mono ?_
  rintro e w' ⟨a, b, c, hE, rfl, rfl⟩
  have HE := Lib.hid hE; clear hE
  go_wp2_with fail
  refine (day_yes y m d _ HM1.out HD.out.1).mono ?_
  rintro e w' ⟨rfl, rfl⟩
  rw [HD.out.2]
  go_wp2_with fail
  refine (day_yes a b c _ HM1.out HE.out.1).mono ?_
  rintro e w' ⟨rfl, rfl⟩
  rw [HE.out.2]
  obtain ⟨p1, p2, p3, p4, p5, p6, _⟩ := isDate_bd HD.out
  rcases back_plain k y m d a b c HD.out HE.out k1 with ⟨rfl, rfl, rfl⟩ | ⟨rfl, rfl, rfl, h28⟩ | ⟨rfl, rfl, rfl, rfl, h28⟩
  · go_wp2_with fail
    go_ret
    exact ⟨rfl, hb1⟩
  · go_wp2_with fail
    go_ret
    exact ⟨rfl, hb1⟩
  · go_wp2_with fail
    go_ret
    exact ⟨rfl, hb1⟩
end Go.Proofs.YtfojipgbenbigaaDoor
