/-
  THE WALKS of decimal.IsName and of the reference's IsName: both say whether a string is a name (1 to 20 bytes: letters, digits, underscores; a letter first).
-/
import Derived.Test.YtfkmnneieglolaaGreatDoorRows
import Derived.WalkKit
import Derived.WalkSpells
import Derived.WalkLawsBesides
import Derived.Deep.QuietTactic
import Derived.BigQuiet
import Derived.Lib.Hide
namespace Go.Proofs.YtfkmnneieglolaaGreatDoor
open Go.RowKit

def letterB (c : Int) : Bool := decide (97 ≤ c ∧ c ≤ 122 ∨ 65 ≤ c ∧ c ≤ 90)
def digitB (c : Int) : Bool := decide (48 ≤ c ∧ c ≤ 57)
def wordB (c : Int) : Bool := letterB c || digitB c || c == 95
/-- How many bytes ahead are those of a word. -/
def wordN (l : List UInt8) : Nat := (l.takeWhile fun c => wordB (c.toNat : Int)).length
def isNameB (s : ByteArray) : Bool := decide (1 ≤ s.size ∧ s.size ≤ 20) && letterB ((s.data.toList.headD 0).toNat : Int) && wordN s.data.toList == s.size

theorem wordN_le (l : List UInt8) : wordN l ≤ l.length := (List.takeWhile_sublist _).length_le
theorem wordN_of (l : List UInt8) (k : Nat) (hk : k ≤ l.length) (ha : ∀ j, (h : j < k) → wordB ((l[j]'(by omega)).toNat : Int) = true)
    (hb : (h : k < l.length) → wordB ((l[k]'h).toNat : Int) = false) : wordN l = k := by
  induction l generalizing k with
  | nil => simp at hk; subst hk; rfl
  | cons x r ih =>
    unfold wordN
    match k, hk, ha, hb with
    | 0, _, _, hb => have := hb (by simp); simp at this; simp [this]
    | k + 1, hk, ha, hb =>
      have h0 := ha 0 (by omega)
      simp only [List.getElem_cons_zero] at h0
      rw [List.takeWhile_cons, if_pos h0, List.length_cons]
      have := ih k (by simp at hk; omega) (fun j h => by have := ha (j + 1) (by omega); simpa using this) (fun h => by have := hb (by simp; omega); simpa using this)
      unfold wordN at this
      rw [this]

set_option maxHeartbeats 400000 in
theorem letter_any (c : Int) (w : World) :
    Calls Tryz.prog 74 #[.int .u8 c] w fun e w' => e = .returned (.bool (letterB c)) ∧ w = w' := by
  go_enter Tryz.func74, Tryz.ntmps74
  go_wp2
  all_goals (go_ret; exact ⟨congrArg (fun b => Ending.returned (.bool b)) (by rw [Bool.eq_iff_iff]; simp [letterB]; omega), rfl⟩)
set_option maxHeartbeats 400000 in
theorem digit_any (c : Int) (w : World) :
    Calls Tryz.prog 101 #[.int .u8 c] w fun e w' => e = .returned (.bool (digitB c)) ∧ w = w' := by
  go_enter Tryz.func101, Tryz.ntmps101
  go_wp2
  all_goals (go_ret; exact ⟨congrArg (fun b => Ending.returned (.bool b)) (by rw [Bool.eq_iff_iff]; simp [digitB]; omega), rfl⟩)
set_option maxHeartbeats 400000 in
theorem refletter_any (c : Int) (w : World) :
    Calls Tryz.prog 40 #[.int .u8 c] w fun e w' => e = .returned (.bool (letterB c)) ∧ w = w' := by
  go_enter Tryz.func40, Tryz.ntmps40
  go_wp2
  all_goals (go_ret; exact ⟨congrArg (fun b => Ending.returned (.bool b)) (by rw [Bool.eq_iff_iff]; simp [letterB]; omega), rfl⟩)
set_option maxHeartbeats 400000 in
theorem refdigit_any (c : Int) (w : World) :
    Calls Tryz.prog 69 #[.int .u8 c] w fun e w' => e = .returned (.bool (digitB c)) ∧ w = w' := by
  go_enter Tryz.func69, Tryz.ntmps69
  go_wp2
  all_goals (go_ret; exact ⟨congrArg (fun b => Ending.returned (.bool b)) (by rw [Bool.eq_iff_iff]; simp [digitB]; omega), rfl⟩)

set_option maxHeartbeats 1000000 in
theorem word_any (s : ByteArray) (w : World) (hs : s.size ≤ 20) :
    Calls Tryz.prog 75 #[.string s] w fun e w' => e = .returned (.int .i64 (wordN s.data.toList)) ∧ w = w' := by
  go_enter Tryz.func75, Tryz.ntmps75
  go_wp2
  go_loop [3] (fun i => ∃ k : Nat, k ≤ s.size ∧ i = .int .i64 k ∧ Hid (∀ j, (h : j < k) → (h' : j < s.data.toList.length) → wordB ((s.data.toList[j]'h').toNat : Int) = true)) (fun i => s.size - (intOf i).toNat)
  case atStart => exact ⟨0, Nat.zero_le _, rfl, Lib.hid (fun _ h => absurd h (Nat.not_lt_zero _))⟩
  case round =>
    obtain ⟨k, hk, rfl, HA⟩ := hrel
    by_cases hlt : k < s.size
    · have hw : ∀ b, wordB (s[k].toNat : Int) = b → Hid (wordB (s[k].toNat : Int) = b) := fun b h => Lib.hid h
      have Hend : wordB (s[k].toNat : Int) = false → Hid (wordN s.data.toList = k) := fun h => Lib.hid (wordN_of _ k (by simpa using hk) (fun j h => HA.out j h _) (fun _ => h))
      have Hgo : wordB (s[k].toNat : Int) = true → Hid (∀ j, (h : j < k + 1) → (h' : j < s.data.toList.length) → wordB ((s.data.toList[j]'h').toNat : Int) = true) := fun h => Lib.hid (fun j hj h' => by
        rcases Nat.lt_or_ge j k with l | l
        · exact HA.out j l h'
        · obtain rfl : j = k := by omega
          exact h)
      clear hw
      by_cases c1 : letterB (s[k].toNat : Int) = true
      · have H := Hgo (by simp [wordB, c1])
        clear Hend Hgo
        go_wp2_with (go_at_call 74; refine (letter_any _ _).mono ?_; rintro e w' ⟨rfl, rfl⟩)
        go_round
        case rel => exact ⟨k + 1, by omega, by go_num, H⟩
        case measure => simp [intOf]; omega
      · have c1' : letterB (s[k].toNat : Int) = false := by simpa using c1
        by_cases c2 : digitB (s[k].toNat : Int) = true
        · have H := Hgo (by simp [wordB, c2])
          clear Hend Hgo c1
          go_wp2_with (first | (go_at_call 74; refine (letter_any _ _).mono ?_; rintro e w' ⟨rfl, rfl⟩) | (go_at_call 101; refine (digit_any _ _).mono ?_; rintro e w' ⟨rfl, rfl⟩))
          go_round
          case rel => exact ⟨k + 1, by omega, by go_num, H⟩
          case measure => simp [intOf]; omega
        · have c2' : digitB (s[k].toNat : Int) = false := by simpa using c2
          by_cases c3 : ((s[k].toNat : Int) == 95) = true
          · have H := Hgo (by simp [wordB]; right; simpa using c3)
            clear Hend Hgo c1 c2
            go_wp2_with (first | (go_at_call 74; refine (letter_any _ _).mono ?_; rintro e w' ⟨rfl, rfl⟩) | (go_at_call 101; refine (digit_any _ _).mono ?_; rintro e w' ⟨rfl, rfl⟩))
            go_round
            case rel => exact ⟨k + 1, by omega, by go_num, H⟩
            case measure => simp [intOf]; omega
          · have c3' : ((s[k].toNat : Int) == 95) = false := by simpa using c3
            have H := Hend (by simp only [wordB, c1', c2', c3']; rfl)
            clear Hend Hgo c1 c2 c3
            go_wp2_with (first | (go_at_call 74; refine (letter_any _ _).mono ?_; rintro e w' ⟨rfl, rfl⟩) | (go_at_call 101; refine (digit_any _ _).mono ?_; rintro e w' ⟨rfl, rfl⟩))
            go_ret
            exact ⟨congrArg (fun n : Nat => Ending.returned (.int .i64 n)) H.out.symm, rfl⟩
    · obtain rfl : k = s.size := by omega
      have H : Hid (wordN s.data.toList = s.size) := Lib.hid (wordN_of _ _ (by simp) (fun j h => HA.out j h _) (fun h' => absurd h' (by simp)))
      go_wp2
      go_ret
      exact ⟨congrArg (fun n : Nat => Ending.returned (.int .i64 n)) H.out.symm, rfl⟩

set_option maxHeartbeats 1000000 in
theorem refword_any (s : ByteArray) (w : World) (hs : s.size ≤ 20) :
    Calls Tryz.prog 41 #[.string s, .int .i64 0] w fun e w' => e = .returned (.int .i64 (wordN s.data.toList)) ∧ w = w' := by
  go_enter Tryz.func41, Tryz.ntmps41
  go_wp2
  go_loop [1] (fun i => ∃ k : Nat, k ≤ s.size ∧ i = .int .i64 k ∧ Hid (∀ j, (h : j < k) → (h' : j < s.data.toList.length) → wordB ((s.data.toList[j]'h').toNat : Int) = true)) (fun i => s.size - (intOf i).toNat)
  case atStart => exact ⟨0, Nat.zero_le _, rfl, Lib.hid (fun _ h => absurd h (Nat.not_lt_zero _))⟩
  case round =>
    obtain ⟨k, hk, rfl, HA⟩ := hrel
    by_cases hlt : k < s.size
    · have Hend : wordB (s[k].toNat : Int) = false → Hid (wordN s.data.toList = k) := fun h => Lib.hid (wordN_of _ k (by simpa using hk) (fun j h => HA.out j h _) (fun _ => h))
      have Hgo : wordB (s[k].toNat : Int) = true → Hid (∀ j, (h : j < k + 1) → (h' : j < s.data.toList.length) → wordB ((s.data.toList[j]'h').toNat : Int) = true) := fun h => Lib.hid (fun j hj h' => by
        rcases Nat.lt_or_ge j k with l | l
        · exact HA.out j l h'
        · obtain rfl : j = k := by omega
          exact h)
      by_cases c1 : letterB (s[k].toNat : Int) = true
      · have H := Hgo (by simp [wordB, c1])
        clear Hend Hgo
        go_wp2_with (go_at_call 40; refine (refletter_any _ _).mono ?_; rintro e w' ⟨rfl, rfl⟩)
        go_round
        case rel => exact ⟨k + 1, by omega, by go_num, H⟩
        case measure => simp [intOf]; omega
      · have c1' : letterB (s[k].toNat : Int) = false := by simpa using c1
        by_cases c2 : digitB (s[k].toNat : Int) = true
        · have H := Hgo (by simp [wordB, c2])
          clear Hend Hgo c1
          go_wp2_with (first | (go_at_call 40; refine (refletter_any _ _).mono ?_; rintro e w' ⟨rfl, rfl⟩) | (go_at_call 69; refine (refdigit_any _ _).mono ?_; rintro e w' ⟨rfl, rfl⟩))
          go_round
          case rel => exact ⟨k + 1, by omega, by go_num, H⟩
          case measure => simp [intOf]; omega
        · have c2' : digitB (s[k].toNat : Int) = false := by simpa using c2
          by_cases c3 : ((s[k].toNat : Int) == 95) = true
          · have H := Hgo (by simp [wordB]; right; simpa using c3)
            clear Hend Hgo c1 c2
            go_wp2_with (first | (go_at_call 40; refine (refletter_any _ _).mono ?_; rintro e w' ⟨rfl, rfl⟩) | (go_at_call 69; refine (refdigit_any _ _).mono ?_; rintro e w' ⟨rfl, rfl⟩))
            go_round
            case rel => exact ⟨k + 1, by omega, by go_num, H⟩
            case measure => simp [intOf]; omega
          · have c3' : ((s[k].toNat : Int) == 95) = false := by simpa using c3
            have H := Hend (by simp only [wordB, c1', c2', c3']; rfl)
            clear Hend Hgo c1 c2 c3
            go_wp2_with (first | (go_at_call 40; refine (refletter_any _ _).mono ?_; rintro e w' ⟨rfl, rfl⟩) | (go_at_call 69; refine (refdigit_any _ _).mono ?_; rintro e w' ⟨rfl, rfl⟩))
            go_ret
            exact ⟨congrArg (fun n : Nat => Ending.returned (.int .i64 n)) H.out.symm, rfl⟩
    · obtain rfl : k = s.size := by omega
      have H : Hid (wordN s.data.toList = s.size) := Lib.hid (wordN_of _ _ (by simp) (fun j h => HA.out j h _) (fun h' => absurd h' (by simp)))
      go_wp2
      go_ret
      exact ⟨congrArg (fun n : Nat => Ending.returned (.int .i64 n)) H.out.symm, rfl⟩

theorem head_eq (s : ByteArray) (h : 0 < s.size) : s.data.toList.headD 0 = s[0] := by
  obtain ⟨⟨l⟩⟩ := s
  cases l with
  | nil => simp [ByteArray.size] at h
  | cons x r => rfl

theorem empty_of (s : ByteArray) (h : s.toList = []) : s.size = 0 := by
  rw [ByteArray.toList_eq] at h
  have : s.data.toList.length = 0 := by rw [h]; rfl
  simpa using this
theorem not_empty_of (s : ByteArray) (h : ¬ s.toList = []) : 0 < s.size := by
  rw [ByteArray.toList_eq] at h
  have : s.data.toList.length ≠ 0 := fun e => h (List.eq_nil_of_length_eq_zero e)
  have e : s.data.toList.length = s.size := by simp
  omega

theorem name_yes (s : ByteArray) (h0 : 0 < s.size) (h1 : s.size ≤ 20) (h2 : letterB (s[0].toNat : Int) = true) : isNameB s = (wordN s.data.toList == s.size) := by
  simp only [isNameB, head_eq s h0, h2]; rw [decide_eq_true (show 1 ≤ s.size ∧ s.size ≤ 20 by omega)]; rfl
theorem name_no (s : ByteArray) (h0 : 0 < s.size) (h2 : letterB (s[0].toNat : Int) = false) : isNameB s = false := by
  simp only [isNameB, head_eq s h0, h2]; simp
theorem name_long (s : ByteArray) (h : s.size = 0 ∨ 20 < s.size) : isNameB s = false := by
  unfold isNameB
  rw [decide_eq_false (show ¬ (1 ≤ s.size ∧ s.size ≤ 20) by omega)]
  rfl

set_option maxHeartbeats 1000000 in
theorem isName_any (s : ByteArray) (w : World) :
    Calls Tryz.prog 48 #[.string s] w fun e w' => e = .returned (.bool (isNameB s)) ∧ w = w' := by
  by_cases h0 : s.toList = []
  · have H := Lib.hid (name_long s (.inl (empty_of s h0)))
    go_enter Tryz.func48, Tryz.ntmps48
    go_wp2_with fail
    go_ret
    exact ⟨by rw [H.out]; rfl, rfl⟩
  · have hp := not_empty_of s h0
    by_cases h1 : (s.size : Int) ≤ 20
    · by_cases h2 : letterB (s[0].toNat : Int) = true
      · have H := Lib.hid (name_yes s hp (by omega) h2)
        obtain ⟨b, H3, h3⟩ : ∃ b : Bool, Hid ((wordN s.data.toList == s.size) = b) ∧ (((wordN s.data.toList : Nat) : Int) == (s.size : Int)) = b := by
          by_cases e : wordN s.data.toList = s.size
          · exact ⟨true, Lib.hid (beq_iff_eq.2 e), beq_iff_eq.2 (by omega)⟩
          · exact ⟨false, Lib.hid (beq_eq_false_iff_ne.2 e), beq_eq_false_iff_ne.2 (by omega)⟩
        cases b
        all_goals
          go_enter Tryz.func48, Tryz.ntmps48
          go_wp2_with (first | (go_at_call 74; refine (letter_any _ _).mono ?_; rintro e w' ⟨rfl, rfl⟩) | (go_at_call 75; refine (word_any _ _ (by omega)).mono ?_; rintro e w' ⟨rfl, rfl⟩))
          go_ret
          exact ⟨congrArg (fun b => Ending.returned (.bool b)) (by first | (rw [H.out, H3.out]; done) | (rw [H.out, H3.out]; simpa using h0)), rfl⟩
      · have h2' : letterB (s[0].toNat : Int) = false := by simpa using h2
        have H := Lib.hid (name_no s hp h2')
        clear h2
        go_enter Tryz.func48, Tryz.ntmps48
        go_wp2_with (go_at_call 74; refine (letter_any _ _).mono ?_; rintro e w' ⟨rfl, rfl⟩)
        go_ret
        exact ⟨by rw [H.out]; rfl, rfl⟩
    · have H := Lib.hid (name_long s (.inr (by omega)))
      go_enter Tryz.func48, Tryz.ntmps48
      go_wp2_with fail
      go_ret
      exact ⟨by rw [H.out]; rfl, rfl⟩

set_option maxHeartbeats 1000000 in
theorem refisName_any (s : ByteArray) (w : World) :
    Calls Tryz.prog 17 #[.string s] w fun e w' => e = .returned (.bool (isNameB s)) ∧ w = w' := by
  by_cases hz : s.size = 0
  · have H := Lib.hid (name_long s (.inl hz))
    have h0 : ((s.size : Int) == 0) = true := beq_iff_eq.2 (by omega)
    clear hz
    go_enter Tryz.func17, Tryz.ntmps17
    go_wp2_with fail
    go_ret
    exact ⟨by rw [H.out]; rfl, rfl⟩
  · have hp : 0 < s.size := by omega
    have h0' : ((s.size : Int) == 0) = false := beq_eq_false_iff_ne.2 (by omega)
    clear hz
    by_cases h1 : (s.size : Int) ≤ 20
    · by_cases h2 : letterB (s[0].toNat : Int) = true
      · have H := Lib.hid (name_yes s hp (by omega) h2)
        obtain ⟨b, H3, h3⟩ : ∃ b : Bool, Hid ((wordN s.data.toList == s.size) = b) ∧ (((wordN s.data.toList : Nat) : Int) == (s.size : Int)) = b := by
          by_cases e : wordN s.data.toList = s.size
          · exact ⟨true, Lib.hid (beq_iff_eq.2 e), beq_iff_eq.2 (by omega)⟩
          · exact ⟨false, Lib.hid (beq_eq_false_iff_ne.2 e), beq_eq_false_iff_ne.2 (by omega)⟩
        cases b
        all_goals
          go_enter Tryz.func17, Tryz.ntmps17
          go_wp2_with (first | (go_at_call 40; refine (refletter_any _ _).mono ?_; rintro e w' ⟨rfl, rfl⟩) | (go_at_call 41; refine (refword_any _ _ (by omega)).mono ?_; rintro e w' ⟨rfl, rfl⟩))
          go_ret
          exact ⟨congrArg (fun b => Ending.returned (.bool b)) (by rw [H.out, H3.out]), rfl⟩
      · have h2' : letterB (s[0].toNat : Int) = false := by simpa using h2
        have H := Lib.hid (name_no s hp h2')
        clear h2
        go_enter Tryz.func17, Tryz.ntmps17
        go_wp2_with (go_at_call 40; refine (refletter_any _ _).mono ?_; rintro e w' ⟨rfl, rfl⟩)
        go_ret
        exact ⟨by rw [H.out]; rfl, rfl⟩
    · have H := Lib.hid (name_long s (.inr (by omega)))
      go_enter Tryz.func17, Tryz.ntmps17
      go_wp2_with fail
      go_ret
      exact ⟨by rw [H.out]; rfl, rfl⟩
end Go.Proofs.YtfkmnneieglolaaGreatDoor
