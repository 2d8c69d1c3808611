/-
  THE WALKS of the laws' own helpers: awake (the chapter's examples hold) and short. Condition: the months' table lies in memory as the program's text lays it.
-/
import Derived.Test.YtfojipgbenbigaaDoorRefCheck
import Derived.Test.YtfojipgbenbigaaDoorDates
namespace Go.Proofs.YtfojipgbenbigaaDoor
open Go.RowKit Go.Shelf

theorem Months.below {w w' : World} (h : Months w) (hB : Below w.heap.size w w') : Months w' := fun i hi => by
  have h0 := h i hi
  exact (hB.cell (p := ⟨0, i, none⟩) (World.block_lt_of_cell? w _ h0)).trans h0

def rS : ByteArray := ⟨#[114]⟩
def L0 : List LogR := [⟨10, rS, 1, 0⟩]
def F0 : List (Int × ByteArray) := [(2, rS)]
theorem logs0 (w : World) : Logs (w.alloc (.cells #[.int .i64 10, .string ⟨#[114]⟩, .int .i64 1, .int .i64 0] 55)).heap.size (w.alloc (.cells #[.int .i64 10, .string ⟨#[114]⟩, .int .i64 1, .int .i64 0] 55)) (some ⟨w.heap.size, 0, none⟩) L0 := fun _ =>
  ⟨_, 0, rfl, by simp, fun i hi => by
    match i, hi with
    | 0, _ => exact ⟨by simp [go_sem, lg, L0], by simp [go_sem, lg, L0, rS], by simp [go_sem, lg, L0], by simp [go_sem, lg, L0]⟩⟩
theorem finds0 (w : World) : Finds (w.alloc (.cells #[.int .i64 2, .string ⟨#[114]⟩] 43)).heap.size (w.alloc (.cells #[.int .i64 2, .string ⟨#[114]⟩] 43)) (some ⟨w.heap.size, 0, none⟩) F0 := fun _ =>
  ⟨_, 0, rfl, by simp, fun i hi => by
    match i, hi with
    | 0, _ => exact ⟨by simp [go_sem, fg, F0], by simp [go_sem, fg, F0, rS]⟩⟩
theorem check40 : checkP L0 40 30 = (F0, 0) := by decide +kernel
theorem check39 : checkP L0 39 30 = ([], 0) := by decide +kernel
theorem day2000 : dayI 2000 1 1 = 36524 ∧ dateOK 2000 1 1 = true := by decide +kernel
theorem date2000 : IsDate 36583 2000 2 29 := by unfold IsDate; decide +kernel

/-- Check at the example's log. -/
theorem check0 (today : Int) (F : List (Int × ByteArray)) (hP : checkP L0 today 30 = (F, 0)) (B : Nat) (w w1 : World) (hB : Below w.heap.size w w1) (hI : Logs w1.heap.size w1 (some ⟨B, 0, none⟩) L0) :
    Calls Tryd.prog 16 #[.slice (some ⟨B, 0, none⟩) 1 1, .int .i64 today, .int .i64 30] w1 fun e w' => Hid (∃ a cap, e = .returned (.tuple #[.slice a F.length cap, .int .i64 0]) ∧ Finds w'.heap.size w' a F) ∧ Below w1.heap.size w1 w' ∧ Below w.heap.size w w' :=
  (check_any (some ⟨B, 0, none⟩) L0 1 today 30 w1 (by decide) hI).mono fun e w' h => by
    rw [hP] at h
    obtain ⟨v, he, hrow, hb⟩ := h
    obtain ⟨a, cap, rfl, hF⟩ := finds_of_row hrow
    exact ⟨Lib.hid ⟨a, cap, he, hF⟩, hb, hB.trans (hb.mono hB.size)⟩

set_option maxRecDepth 100000 in
set_option maxHeartbeats 2000000 in
theorem awake_any (w : World) (hm : Months w) : Calls Tryd.prog 10 #[] w fun e w' => e = .returned (.bool true) ∧ Below w.heap.size w w' := by
  have HM := Lib.hid hm; clear hm
  have HD := Lib.hid ((day_yes 2000 1 1 w HM.out day2000.2).mono fun e w' h => show e = .returned (.tuple #[.int .i64 36524, .int .i64 0]) ∧ w = w' by rw [day2000.1] at h; exact h)
  have HT := Lib.hid ((date_yes 36583 w HM.out (by decide) (by decide)).mono fun e w' h => show e = .returned (.tuple #[.int .i64 2000, .int .i64 2, .int .i64 29, .int .i64 0]) ∧ w = w' by
    obtain ⟨y, m, d, h1, h2, h3⟩ := h
    obtain ⟨rfl, rfl, rfl⟩ := isDate_one h1 date2000
    exact ⟨h2, h3⟩)
  go_enter Tryd.func10, Tryd.ntmps10
  go_wp2_with (first | (go_at_call 11; (with_reducible refine HD.out.mono ?_); rintro e w' ⟨rfl, rfl⟩) | (go_at_call 13; (with_reducible refine HT.out.mono ?_); rintro e w' ⟨rfl, rfl⟩))
  have hB0 : Below w.heap.size w (w.alloc (.cells #[.int .i64 10, .string ⟨#[114]⟩, .int .i64 1, .int .i64 0] 55)) := (Below.refl _ _).alloc (Nat.le_refl _) _
  refine (check0 40 F0 check40 _ w _ hB0 (logs0 w)).mono ?_
  rintro e w1 ⟨hx, hb1, hB1⟩
  obtain ⟨a1, cap1, rfl, hF1⟩ := hx.out
  have HF1 := Lib.hid hF1
  have HL1 := Lib.hid ((logs0 w).grow hb1)
  clear hF1 hx
  rw [show F0.length = 1 from rfl]
  go_wp2_with fail
  refine (check0 39 [] check39 _ w _ hB1 HL1.out).mono ?_
  rintro e w2 ⟨hx, hb2, hB2⟩
  obtain ⟨a2, cap2, rfl, hF2⟩ := hx.out
  have HF2 := Lib.hid (HF1.out.grow hb2)
  clear hF2 hx
  rw [show ([] : List (Int × ByteArray)).length = 0 from rfl]
  go_wp2_with fail
  have hB3 : Below w2.heap.size w2 (w2.alloc (.cells #[.int .i64 2, .string ⟨#[114]⟩] 43)) := (Below.refl _ _).alloc (Nat.le_refl _) _
  refine (equal_any a1 _ F0 F0 cap1 1 _ (by decide) (HF2.out.grow hB3) (finds0 w2) (by decide)).mono ?_
  rintro e w4 ⟨rfl, hb4⟩
  rw [show decide (F0 = F0) = true from decide_eq_true rfl]
  go_wp2_with fail
  go_ret
  exact ⟨rfl, hB2.trans ((hB3.trans (hb4.mono (by simp))).mono hB2.size)⟩

def shortB (L : List LogR) : Bool := (decide (L.length ≤ 40) || decide (1000 < L.length ∧ L.length ≤ 1010)) && !hasP L (fun r => decide ((60 : Int) < r.rope.size))

set_option maxHeartbeats 1000000 in
theorem short_any (a : Option Addr) (L : List LogR) (cap : Nat) (w : World) (hI : Logs w.heap.size w a L) :
    Calls Tryd.prog 15 #[.slice a L.length cap] w fun e w' => e = .returned (.bool (shortB L)) ∧ Below w.heap.size w w' := by
  have HI := Lib.hid hI; clear hI
  obtain ⟨hp, hhp⟩ : ∃ hp, hasP L (fun r => decide ((60 : Int) < r.rope.size)) = hp := ⟨_, rfl⟩
  have HP := Lib.hid hhp; clear hhp
  by_cases q1 : (L.length : Int) ≤ 40
  · have H : Hid (shortB L = !hp) := Lib.hid (by unfold shortB; rw [HP.out, decide_eq_true (show L.length ≤ 40 by omega)]; simp)
    have g1 := decide_eq_true q1
    have hlen : L.length ≤ 1100 := by omega
    clear q1
    go_enter Tryd.func15, Tryd.ntmps15
    go_wp2_with (go_at_call 43; (refine (containsFunc_any _ L _ w.heap.size _ _ (fun r => decide ((60 : Int) < r.rope.size)) _ (enters_of Tryd.func44 (by kernel_rfl) rfl) hlen (Nat.le_refl _) HI.out (asks_short _ _)).mono ?_); rintro e w2 ⟨rfl, hb2⟩; rw [HP.out])
    all_goals
      go_ret
      exact ⟨by rw [H.out]; rfl, hb2⟩
  · by_cases q2 : (1000 : Int) < L.length
    · by_cases q3 : (L.length : Int) ≤ 1010
      · have H : Hid (shortB L = !hp) := Lib.hid (by unfold shortB; rw [HP.out, decide_eq_true (show 1000 < L.length ∧ L.length ≤ 1010 by omega)]; simp)
        have g1 := decide_eq_false q1
        have g2 := decide_eq_true q2
        have g3 := decide_eq_true q3
        have hlen : L.length ≤ 1100 := by omega
        clear q1 q2 q3
        go_enter Tryd.func15, Tryd.ntmps15
        go_wp2_with (go_at_call 43; (refine (containsFunc_any _ L _ w.heap.size _ _ (fun r => decide ((60 : Int) < r.rope.size)) _ (enters_of Tryd.func44 (by kernel_rfl) rfl) hlen (Nat.le_refl _) HI.out (asks_short _ _)).mono ?_); rintro e w2 ⟨rfl, hb2⟩; rw [HP.out])
        all_goals
          go_ret
          exact ⟨by rw [H.out]; rfl, hb2⟩
      · have H : Hid (shortB L = false) := Lib.hid (by unfold shortB; rw [decide_eq_false (show ¬ L.length ≤ 40 by omega), decide_eq_false (show ¬ (1000 < L.length ∧ L.length ≤ 1010) by omega)]; rfl)
        go_enter Tryd.func15, Tryd.ntmps15
        go_wp2
        go_ret
        exact ⟨by rw [H.out]; rfl, Below.refl _ _⟩
    · have H : Hid (shortB L = false) := Lib.hid (by unfold shortB; rw [decide_eq_false (show ¬ L.length ≤ 40 by omega), decide_eq_false (show ¬ (1000 < L.length ∧ L.length ≤ 1010) by omega)]; rfl)
      go_enter Tryd.func15, Tryd.ntmps15
      go_wp2
      go_ret
      exact ⟨by rw [H.out]; rfl, Below.refl _ _⟩

end Go.Proofs.YtfojipgbenbigaaDoor
