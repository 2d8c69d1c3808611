/-
  THE WALKS of decimal.IsName and of the reference's IsName: both say whether a string is a name (1 to 20 bytes: letters, digits, underscores; a letter first).
  THE WALKS of arbor.Valid and of the reference's Bricks (21), Right and Count (26): which bricks are right.
  PLAIN: line sets, their items, lines and bricks; what the arbor needs, and the imbalance.
  HOW SLICES OF ITEMS LIE IN MEMORY; slices.IndexFunc, ContainsFunc and Clone at them.
  NAMES THAT COME TWICE (batten.twice, at items and at bricks).
  THE WALKS of batten's and the reference's (21) small tests: between, alone, inside, apart.
-/
import Derived.Test.YtbgkgahmicepdaaRows
import Derived.WalkKit
import Derived.WalkSpells
import Derived.WalkLawsBesides
import Derived.Deep.QuietTactic
import Derived.BigQuiet
import Derived.Lib.Hide
import Derived.IntWalk
import Derived.Maps.OwnOps
import Derived.Maps.OwnSet
import Derived.Maps.Views
import Derived.Test.YtbgkgahmicepdaaZ1
namespace Go.Proofs.Ytbgkgahmicepdaa
open Go.RowKit
def letterB (c : Int) : Bool := decide (97 ≤ c ∧ c ≤ 122 ∨ 65 ≤ c ∧ c ≤ 90)
def digitB (c : Int) : Bool := decide (48 ≤ c ∧ c ≤ 57)
def wordB (c : Int) : Bool := letterB c || digitB c || c == 95
def wordN (l : List UInt8) : Nat := (l.takeWhile fun c => wordB (c.toNat : Int)).length
def isNameB (s : ByteArray) : Bool := decide (1 ≤ s.size ∧ s.size ≤ 20) && letterB ((s.data.toList.headD 0).toNat : Int) && wordN s.data.toList == s.size

theorem wordN_of (l : List UInt8) (k : Nat) (hk : k ≤ l.length) (ha : ∀ j, (h : j < k) → wordB ((l[j]'(by omega)).toNat : Int) = true)
  (hb : (h : k < l.length) → wordB ((l[k]'h).toNat : Int) = false) : wordN l = k := by
 induction l generalizing k with
 | nil => simp at hk; subst hk; rfl
 | cons x r ih =>
  unfold wordN
  match k, hk, ha, hb with
  | 0, _, _, hb => have := hb (by simp); simp at this; simp [this]
  | k + 1, hk, ha, hb =>
   have h0 := ha 0 (by omega)
   simp only [List.getElem_cons_zero] at h0
   rw [List.takeWhile_cons, if_pos h0, List.length_cons]
   have := ih k (by simp at hk; omega) (fun j h => by have := ha (j + 1) (by omega); simpa using this) (fun h => by have := hb (by simp; omega); simpa using this)
   unfold wordN at this
   rw [this]

set_option maxHeartbeats 400000 in
theorem letter_any (c : Int) (w : World) :
  Calls Try.prog 75 #[.int .u8 c] w fun e w' => e = .returned (.bool (letterB c)) ∧ w = w' := by
 go_enter Try.func75, Try.ntmps75
 go_wp2
 all_goals (go_ret; exact ⟨congrArg (fun b => Ending.returned (.bool b)) (by rw [Bool.eq_iff_iff]; simp [letterB]; omega), rfl⟩)
set_option maxHeartbeats 400000 in
theorem digit_any (c : Int) (w : World) :
  Calls Try.prog 87 #[.int .u8 c] w fun e w' => e = .returned (.bool (digitB c)) ∧ w = w' := by
 go_enter Try.func87, Try.ntmps87
 go_wp2
 all_goals (go_ret; exact ⟨congrArg (fun b => Ending.returned (.bool b)) (by rw [Bool.eq_iff_iff]; simp [digitB]; omega), rfl⟩)
set_option maxHeartbeats 1000000 in
theorem word_any (s : ByteArray) (w : World) (hs : s.size ≤ 20) :
  Calls Try.prog 76 #[.string s] w fun e w' => e = .returned (.int .i64 (wordN s.data.toList)) ∧ w = w' := by
 go_enter Try.func76, Try.ntmps76
 go_wp2
 go_loop [3] (fun i => ∃ k : Nat, k ≤ s.size ∧ i = .int .i64 k ∧ Hid (∀ j, (h : j < k) → (h' : j < s.data.toList.length) → wordB ((s.data.toList[j]'h').toNat : Int) = true)) (fun i => s.size - (intOf i).toNat)
 case atStart => exact ⟨0, Nat.zero_le _, rfl, Lib.hid (fun _ h => absurd h (Nat.not_lt_zero _))⟩
 case round =>
  obtain ⟨k, hk, rfl, HA⟩ := hrel
  by_cases hlt : k < s.size
  ·have hw : ∀ b, wordB (s[k].toNat : Int) = b → Hid (wordB (s[k].toNat : Int) = b) := fun b h => Lib.hid h
   have Hend : wordB (s[k].toNat : Int) = false → Hid (wordN s.data.toList = k) := fun h => Lib.hid (wordN_of _ k (by simpa using hk) (fun j h => HA.out j h _) (fun _ => h))
   have Hgo : wordB (s[k].toNat : Int) = true → Hid (∀ j, (h : j < k + 1) → (h' : j < s.data.toList.length) → wordB ((s.data.toList[j]'h').toNat : Int) = true) := fun h => Lib.hid (fun j hj h' => by
    rcases Nat.lt_or_ge j k with l | l
    ·exact HA.out j l h'
    ·obtain rfl : j = k := by omega
     exact h)
   clear hw
   by_cases c1 : letterB (s[k].toNat : Int) = true
   ·have H := Hgo (by simp [wordB, c1])
    clear Hend Hgo
    go_wp2_with (go_at_call 75; refine (letter_any _ _).mono ?_; rintro e w' ⟨rfl, rfl⟩)
    go_round
    case rel => exact ⟨k + 1, by omega, by go_num, H⟩
    case measure => simp [intOf]; omega
   ·have c1' : letterB (s[k].toNat : Int) = false := by simpa using c1
    by_cases c2 : digitB (s[k].toNat : Int) = true
    ·have H := Hgo (by simp [wordB, c2])
     clear Hend Hgo c1
     go_wp2_with (first | (go_at_call 75; refine (letter_any _ _).mono ?_; rintro e w' ⟨rfl, rfl⟩) | (go_at_call 87; refine (digit_any _ _).mono ?_; rintro e w' ⟨rfl, rfl⟩))
     go_round
     case rel => exact ⟨k + 1, by omega, by go_num, H⟩
     case measure => simp [intOf]; omega
    ·have c2' : digitB (s[k].toNat : Int) = false := by simpa using c2
     by_cases c3 : ((s[k].toNat : Int) == 95) = true
     ·have H := Hgo (by simp [wordB]; right; simpa using c3)
      clear Hend Hgo c1 c2
      go_wp2_with (first | (go_at_call 75; refine (letter_any _ _).mono ?_; rintro e w' ⟨rfl, rfl⟩) | (go_at_call 87; refine (digit_any _ _).mono ?_; rintro e w' ⟨rfl, rfl⟩))
      go_round
      case rel => exact ⟨k + 1, by omega, by go_num, H⟩
      case measure => simp [intOf]; omega
     ·have c3' : ((s[k].toNat : Int) == 95) = false := by simpa using c3
      have H := Hend (by simp only [wordB, c1', c2', c3']; rfl)
      clear Hend Hgo c1 c2 c3
      go_wp2_with (first | (go_at_call 75; refine (letter_any _ _).mono ?_; rintro e w' ⟨rfl, rfl⟩) | (go_at_call 87; refine (digit_any _ _).mono ?_; rintro e w' ⟨rfl, rfl⟩))
      go_ret
      exact ⟨congrArg (fun n : Nat => Ending.returned (.int .i64 n)) H.out.symm, rfl⟩
  ·obtain rfl : k = s.size := by omega
   have H : Hid (wordN s.data.toList = s.size) := Lib.hid (wordN_of _ _ (by simp) (fun j h => HA.out j h _) (fun h' => absurd h' (by simp)))
   go_wp2
   go_ret
   exact ⟨congrArg (fun n : Nat => Ending.returned (.int .i64 n)) H.out.symm, rfl⟩

theorem head_eq (s : ByteArray) (h : 0 < s.size) : s.data.toList.headD 0 = s[0] := by
 obtain ⟨⟨l⟩⟩ := s
 cases l with
 | nil => simp [ByteArray.size] at h
 | cons x r => rfl

theorem empty_of (s : ByteArray) (h : s.toList = []) : s.size = 0 := by
 rw [ByteArray.toList_eq] at h
 have : s.data.toList.length = 0 := by rw [h]; rfl
 simpa using this
theorem not_empty_of (s : ByteArray) (h : ¬ s.toList = []) : 0 < s.size := by
 rw [ByteArray.toList_eq] at h
 have : s.data.toList.length ≠ 0 := fun e => h (List.eq_nil_of_length_eq_zero e)
 have e : s.data.toList.length = s.size := by simp
 omega

theorem name_yes (s : ByteArray) (h0 : 0 < s.size) (h1 : s.size ≤ 20) (h2 : letterB (s[0].toNat : Int) = true) : isNameB s = (wordN s.data.toList == s.size) := by
 simp only [isNameB, head_eq s h0, h2]; rw [decide_eq_true (show 1 ≤ s.size ∧ s.size ≤ 20 by omega)]; rfl
theorem name_no (s : ByteArray) (h0 : 0 < s.size) (h2 : letterB (s[0].toNat : Int) = false) : isNameB s = false := by
 simp only [isNameB, head_eq s h0, h2]; simp
theorem name_long (s : ByteArray) (h : s.size = 0 ∨ 20 < s.size) : isNameB s = false := by
 unfold isNameB
 rw [decide_eq_false (show ¬ (1 ≤ s.size ∧ s.size ≤ 20) by omega)]
 rfl

set_option maxHeartbeats 1000000 in
theorem isName_any (s : ByteArray) (w : World) :
  Calls Try.prog 67 #[.string s] w fun e w' => e = .returned (.bool (isNameB s)) ∧ w = w' := by
 by_cases h0 : s.toList = []
 ·have H := Lib.hid (name_long s (.inl (empty_of s h0)))
  go_enter Try.func67, Try.ntmps67
  go_wp2_with fail
  go_ret
  exact ⟨by rw [H.out]; rfl, rfl⟩
 ·have hp := not_empty_of s h0
  by_cases h1 : (s.size : Int) ≤ 20
  ·by_cases h2 : letterB (s[0].toNat : Int) = true
   ·have H := Lib.hid (name_yes s hp (by omega) h2)
    obtain ⟨b, H3, h3⟩ : ∃ b : Bool, Hid ((wordN s.data.toList == s.size) = b) ∧ (((wordN s.data.toList : Nat) : Int) == (s.size : Int)) = b := by
     by_cases e : wordN s.data.toList = s.size
     ·exact ⟨true, Lib.hid (beq_iff_eq.2 e), beq_iff_eq.2 (by omega)⟩
     ·exact ⟨false, Lib.hid (beq_eq_false_iff_ne.2 e), beq_eq_false_iff_ne.2 (by omega)⟩
    cases b
    all_goals
     go_enter Try.func67, Try.ntmps67
     go_wp2_with (first | (go_at_call 75; refine (letter_any _ _).mono ?_; rintro e w' ⟨rfl, rfl⟩) | (go_at_call 76; refine (word_any _ _ (by omega)).mono ?_; rintro e w' ⟨rfl, rfl⟩))
     go_ret
     exact ⟨congrArg (fun b => Ending.returned (.bool b)) (by first | (rw [H.out, H3.out]; done) | (rw [H.out, H3.out]; simpa using h0)), rfl⟩
   ·have h2' : letterB (s[0].toNat : Int) = false := by simpa using h2
    have H := Lib.hid (name_no s hp h2')
    clear h2
    go_enter Try.func67, Try.ntmps67
    go_wp2_with (go_at_call 75; refine (letter_any _ _).mono ?_; rintro e w' ⟨rfl, rfl⟩)
    go_ret
    exact ⟨by rw [H.out]; rfl, rfl⟩
  ·have H := Lib.hid (name_long s (.inr (by omega)))
   go_enter Try.func67, Try.ntmps67
   go_wp2_with fail
   go_ret
   exact ⟨by rw [H.out]; rfl, rfl⟩
end Go.Proofs.Ytbgkgahmicepdaa
namespace Go.Proofs.Ytbgkgahmicepdaa
open Go.RowKit Go.Shelf
theorem str_eq (a b : ByteArray) : (a.toList == b.toList) = decide (a = b) := by
 rw [Bool.eq_iff_iff, beq_iff_eq, decide_eq_true_eq, ByteArray.toList_eq, ByteArray.toList_eq]
 constructor
 ·intro h
  obtain ⟨⟨x⟩⟩ := a
  obtain ⟨⟨y⟩⟩ := b
  simpa using h
 ·exact fun h => by rw [h]
def sameN (s : ByteArray) (r : BrickR) : Bool := decide (r.name = s)
def brick1 (b : BrickR) : Bool := isNameB b.name && (decide (1 ≤ b.weight) && (decide (b.weight ≤ 1048576) && (decide (0 ≤ b.count) && decide (b.count ≤ 60))))
def brickK (L : List BrickR) (k : Nat) : Bool := brick1 (bg L k) && !(brick_any (L.take k) (sameN (bg L k).name))
def okTo (L : List BrickR) : Nat → Bool
 | 0 => true
 | k + 1 => okTo L k && brickK L k
def cntTo (L : List BrickR) : Nat → Int
 | 0 => 0
 | k + 1 => cntTo L k + (bg L k).count
def brickB (L : List BrickR) : Bool := decide (L.length ≤ 8) && (okTo L L.length && decide (cntTo L L.length ≤ 60))
theorem brick1_iff (b : BrickR) : brick1 b = true ↔ isNameB b.name = true ∧ 1 ≤ b.weight ∧ b.weight ≤ 1048576 ∧ 0 ≤ b.count ∧ b.count ≤ 60 := by
 unfold brick1
 simp only [Bool.and_eq_true, decide_eq_true_eq]
end Go.Proofs.Ytbgkgahmicepdaa
namespace Go.Proofs.Ytbgkgahmicepdaa
open Go.RowKit Go.Shelf
structure ItemR where
 name : ByteArray
 pos : Int
 width : Int
 weight : Int
 hang : Int
 front : Int
 back : Int
structure SetR where
 name : ByteArray
 depth : Int
 low : Int
 high : Int
 length : Int
 la : Option Addr
 lines : List Int
 lc : Nat
 pipe : Int
 arbor : Int
 purchase : Int
 most : Int
 brake : Int
 ia : Option Addr
 items : List ItemR
 ic : Nat
 ba : Option Addr
 bricks : List BrickR
 bc : Nat
def betB (n lo hi : Int) : Bool := decide (lo ≤ n) && decide (n ≤ hi)
theorem betB_iff {n lo hi : Int} : betB n lo hi = true ↔ lo ≤ n ∧ n ≤ hi := by unfold betB; rw [Bool.and_eq_true, decide_eq_true_eq, decide_eq_true_eq]
def aloneB (x : ItemR) : Bool := isNameB x.name && (betB x.weight 0 1048576 && (betB x.hang 0 1048576 && (betB x.front 0 1048576 && betB x.back 0 1048576)))
def insideB (x : ItemR) (len : Int) : Bool := decide (0 ≤ x.pos) && (betB x.width 1 1048576 && decide (x.pos ≤ len - x.width))
def apartB (x y : ItemR) : Bool := decide (x.pos + x.width ≤ y.pos) || decide (y.pos + y.width ≤ x.pos)
def item1 (len : Int) (x : ItemR) : Bool := aloneB x && insideB x len
theorem apart_symm (x y : ItemR) : apartB x y = apartB y x := by unfold apartB; rw [Bool.or_comm]
def itemsB (I : List ItemR) (len : Int) : Bool := decide (I.length ≤ 40) && (I.all (item1 len) && decide (I.Pairwise fun x y => x.name ≠ y.name ∧ apartB x y = true))
def linesB (L : List Int) (len : Int) : Bool := betB L.length 2 10 && (L.all (fun n => betB n 0 len) && decide (L.Pairwise (· < ·)))
def setB (r : SetR) : Bool :=
 isNameB r.name && (betB r.depth 0 1048576 && (decide (0 ≤ r.low) && (decide (r.low ≤ r.high) && (decide (r.high ≤ 1048576) && (betB r.length 1000 1048576 && ((r.length % 1000 == 0) && (linesB r.lines r.length &&
  (betB r.pipe 0 1048576 && (betB r.arbor 0 1048576 && (betB r.purchase 1 2 && (betB r.most 1 67108864 && (betB r.brake 0 67108864 && (itemsB r.items r.length && brickB r.bricks)))))))))))))
structure SetOK (r : SetR) : Prop where
 name : isNameB r.name = true
 depth : 0 ≤ r.depth ∧ r.depth ≤ 1048576
 low : 0 ≤ r.low ∧ r.low ≤ r.high ∧ r.high ≤ 1048576
 length : 1000 ≤ r.length ∧ r.length ≤ 1048576 ∧ r.length % 1000 = 0
 lines : linesB r.lines r.length = true
 pipe : 0 ≤ r.pipe ∧ r.pipe ≤ 1048576
 arbor : 0 ≤ r.arbor ∧ r.arbor ≤ 1048576
 purchase : 1 ≤ r.purchase ∧ r.purchase ≤ 2
 most : 1 ≤ r.most ∧ r.most ≤ 67108864
 brake : 0 ≤ r.brake ∧ r.brake ≤ 67108864
 items : itemsB r.items r.length = true
 bricks : brickB r.bricks = true
theorem setB_iff {r : SetR} : setB r = true ↔ SetOK r := by
 unfold setB
 simp only [Bool.and_eq_true, betB_iff, decide_eq_true_eq, beq_iff_eq]
 constructor
 ·rintro ⟨h1, h2, h3, h4, h5, h6, h7, h8, h9, h10, h11, h12, h13, h14, h15⟩
  exact ⟨h1, h2, ⟨h3, h4, h5⟩, ⟨h6.1, h6.2, h7⟩, h8, h9, h10, h11, h12, h13, h14, h15⟩
 ·rintro ⟨h1, h2, ⟨h3, h4, h5⟩, ⟨h6, h6', h7⟩, h8, h9, h10, h11, h12, h13, h14, h15⟩
  exact ⟨h1, h2, h3, h4, h5, ⟨h6, h6'⟩, h7, h8, h9, h10, h11, h12, h13, h14, h15⟩
theorem item1_iff {len : Int} {x : ItemR} : item1 len x = true ↔ isNameB x.name = true ∧ (0 ≤ x.weight ∧ x.weight ≤ 1048576) ∧ (0 ≤ x.hang ∧ x.hang ≤ 1048576) ∧ (0 ≤ x.front ∧ x.front ≤ 1048576) ∧ (0 ≤ x.back ∧ x.back ≤ 1048576) ∧ 0 ≤ x.pos ∧ (1 ≤ x.width ∧ x.width ≤ 1048576) ∧ x.pos ≤ len - x.width := by
 unfold item1 aloneB insideB
 simp only [Bool.and_eq_true, betB_iff, decide_eq_true_eq]
 constructor
 ·rintro ⟨⟨a, b, c, d, e⟩, f, g, h⟩; exact ⟨a, b, c, d, e, f, g, h⟩
 ·rintro ⟨a, b, c, d, e, f, g, h⟩; exact ⟨⟨a, b, c, d, e⟩, f, g, h⟩
theorem items_iff {I : List ItemR} {len : Int} : itemsB I len = true ↔ I.length ≤ 40 ∧ (∀ x ∈ I, item1 len x = true) ∧ I.Pairwise fun x y => x.name ≠ y.name ∧ apartB x y = true := by
 unfold itemsB
 simp only [Bool.and_eq_true, decide_eq_true_eq, List.all_eq_true]
end Go.Proofs.Ytbgkgahmicepdaa
namespace Go.Proofs.Ytbgkgahmicepdaa
open Go.RowKit Go.Shelf
attribute [local go_sem] Oper.semAt_some
/-! ### Slices of api.Item -/

def tg (L : List (ItemR)) (i : Nat) : ItemR := (L[i]?).getD ⟨⟨#[]⟩, 0, 0, 0, 0, 0, 0⟩
theorem tg_eq (L : List (ItemR)) (i : Nat) (h : i < L.length) : tg L i = L[i] := by unfold tg; rw [List.getElem?_eq_getElem h]; rfl
def itemV (r : ItemR) : Value := .agg #[.string r.name, .int .i64 r.pos, .int .i64 r.width, .int .i64 r.weight, .int .i64 r.hang, .int .i64 r.front, .int .i64 r.back]
def tflat (L : List (ItemR)) : List Value := L.flatMap fun r => [.string r.name, .int .i64 r.pos, .int .i64 r.width, .int .i64 r.weight, .int .i64 r.hang, .int .i64 r.front, .int .i64 r.back]
theorem tflat_at (L : List (ItemR)) (i : Nat) (hi : i < L.length) : (tflat L)[i * 7]? = some (.string (tg L i).name) ∧ (tflat L)[i * 7 + 1]? = some (.int .i64 (tg L i).pos) ∧ (tflat L)[i * 7 + 2]? = some (.int .i64 (tg L i).width) ∧ (tflat L)[i * 7 + 3]? = some (.int .i64 (tg L i).weight) ∧ (tflat L)[i * 7 + 4]? = some (.int .i64 (tg L i).hang) ∧ (tflat L)[i * 7 + 5]? = some (.int .i64 (tg L i).front) ∧ (tflat L)[i * 7 + 6]? = some (.int .i64 (tg L i).back) := by
 induction L generalizing i with
 | nil => simp at hi
 | cons x r ih =>
  match i with
  | 0 => exact ⟨rfl, rfl, rfl, rfl, rfl, rfl, rfl⟩
  | i + 1 =>
   have := ih i (by simpa using hi)
   have e : tflat (x :: r) = .string x.name :: .int .i64 x.pos :: .int .i64 x.width :: .int .i64 x.weight :: .int .i64 x.hang :: .int .i64 x.front :: .int .i64 x.back :: tflat r := rfl
   rw [e, show (i + 1) * 7 = i * 7 + 1 + 1 + 1 + 1 + 1 + 1 + 1 by omega]
   simpa [tg] using this
def Items (n₀ : Nat) (w : World) (a : Option Addr) (L : List (ItemR)) : Prop :=
 0 < L.length → ∃ b off, a = some ⟨b, off, none⟩ ∧ b < n₀ ∧ ∀ i, i < L.length → w.cell? ⟨b, off + i * 7, none⟩ = some (.string (tg L i).name) ∧ w.cell? ⟨b, off + i * 7 + 1, none⟩ = some (.int .i64 (tg L i).pos) ∧ w.cell? ⟨b, off + i * 7 + 2, none⟩ = some (.int .i64 (tg L i).width) ∧ w.cell? ⟨b, off + i * 7 + 3, none⟩ = some (.int .i64 (tg L i).weight) ∧ w.cell? ⟨b, off + i * 7 + 4, none⟩ = some (.int .i64 (tg L i).hang) ∧ w.cell? ⟨b, off + i * 7 + 5, none⟩ = some (.int .i64 (tg L i).front) ∧ w.cell? ⟨b, off + i * 7 + 6, none⟩ = some (.int .i64 (tg L i).back)
theorem Items.below {n₀ : Nat} {w w' : World} {a : Option Addr} {L : List (ItemR)} (h : Items n₀ w a L) (hb : Below n₀ w w') : Items n₀ w' a L := fun hl => by
 obtain ⟨b, off, rfl, hlt, hc⟩ := h hl
 refine ⟨b, off, rfl, hlt, fun i hi => ?_⟩
 obtain ⟨c0, c1, c2, c3, c4, c5, c6⟩ := hc i hi
 exact ⟨(hb.cell (p := ⟨b, _, none⟩) hlt).trans c0, (hb.cell (p := ⟨b, _, none⟩) hlt).trans c1, (hb.cell (p := ⟨b, _, none⟩) hlt).trans c2, (hb.cell (p := ⟨b, _, none⟩) hlt).trans c3, (hb.cell (p := ⟨b, _, none⟩) hlt).trans c4, (hb.cell (p := ⟨b, _, none⟩) hlt).trans c5, (hb.cell (p := ⟨b, _, none⟩) hlt).trans c6⟩
theorem Items.mono {n₀ n₁ : Nat} {w : World} {a : Option Addr} {L : List (ItemR)} (h : Items n₀ w a L) (hn : n₀ ≤ n₁) : Items n₁ w a L := fun hl => by
 obtain ⟨b, off, rfl, hlt, hc⟩ := h hl
 exact ⟨b, off, rfl, by omega, hc⟩
theorem Items.grow {w w' : World} {a : Option Addr} {L : List (ItemR)} (h : Items w.heap.size w a L) (hb : Below w.heap.size w w') : Items w'.heap.size w' a L := (h.below hb).mono hb.size
theorem Items.nil {n₀ : Nat} {w : World} {a : Option Addr} : Items n₀ w a [] := fun h => absurd h (Nat.not_lt_zero _)
theorem Items.take {n₀ : Nat} {w : World} {a : Option Addr} {L : List (ItemR)} (h : Items n₀ w a L) (n : Nat) : Items n₀ w a (L.take n) := fun hl => by
 have hl' : 0 < L.length := by rw [List.length_take] at hl; omega
 obtain ⟨b, off, rfl, hlt, hc⟩ := h hl'
 refine ⟨b, off, rfl, hlt, fun i hi => ?_⟩
 rw [List.length_take] at hi
 have e : tg (L.take n) i = tg L i := by unfold tg; rw [List.getElem?_take, if_pos (by omega)]
 rw [e]
 exact hc i (by omega)
def AsksI (g : Nat) (cb : Array Value) (n₀ : Nat) (w : World) (p : ItemR → Bool) : Prop :=
 ∀ (W : World) (r : ItemR), Below n₀ w W → Calls Try.prog g (#[itemV r] ++ cb) W fun e w' => e = .returned (.bool (p r)) ∧ Below W.heap.size W w'
def item_first (L : List (ItemR)) (p : ItemR → Bool) : Int := match (List.range L.length).find? (fun i => p (tg L i)) with
 | some i => i
 | none => -1
theorem item_first_hit (L : List (ItemR)) (p : ItemR → Bool) (k : Nat) (hk : k < L.length) (h : p (tg L k) = true) (hn : ∀ j, j < k → p (tg L j) = false) : item_first L p = k := by
 unfold item_first
 have : (List.range L.length).find? (fun i => p (tg L i)) = some k := by
  rw [List.find?_eq_some_iff_getElem]
  refine ⟨by simpa using h, k, by simpa using hk, by simp, fun j hj => ?_⟩
  simpa using hn j hj
 rw [this]
theorem item_first_miss (L : List (ItemR)) (p : ItemR → Bool) (hn : ∀ j, j < L.length → p (tg L j) = false) : item_first L p = -1 := by
 unfold item_first
 have : (List.range L.length).find? (fun i => p (tg L i)) = none := by
  rw [List.find?_eq_none]
  intro x hx
  simpa using hn x (by simpa using hx)
 rw [this]
theorem item_first_cases (L : List (ItemR)) (p : ItemR → Bool) : (item_first L p = -1 ∧ ∀ j, j < L.length → p (tg L j) = false) ∨ ∃ k : Nat, k < L.length ∧ item_first L p = k ∧ p (tg L k) = true ∧ ∀ j, j < k → p (tg L j) = false := by
 have main : ∀ n, n ≤ L.length → (∀ j, j < n → p (tg L j) = false) ∨ ∃ k, k < n ∧ p (tg L k) = true ∧ ∀ j, j < k → p (tg L j) = false := by
  intro n
  induction n with
  | zero => exact fun _ => .inl fun j hj => absurd hj (Nat.not_lt_zero _)
  | succ n ih =>
   intro hn
   rcases ih (by omega) with h | ⟨k, hk, h1, h2⟩
   ·cases e : p (tg L n)
    ·refine .inl fun j hj => ?_
     rcases Nat.lt_or_ge j n with l | l
     ·exact h j l
     ·obtain rfl : j = n := by omega
      exact e
    ·exact .inr ⟨n, by omega, e, h⟩
   ·exact .inr ⟨k, by omega, h1, h2⟩
 rcases main L.length (Nat.le_refl _) with h | ⟨k, hk, h1, h2⟩
 ·exact .inl ⟨item_first_miss L p h, h⟩
 ·exact .inr ⟨k, hk, item_first_hit L p k hk h1 h2, h1, h2⟩
def item_any (L : List (ItemR)) (p : ItemR → Bool) : Bool := decide (0 ≤ item_first L p)
theorem item_any_eq (L : List (ItemR)) (p : ItemR → Bool) : item_any L p = L.any p := by
 unfold item_any
 rw [Bool.eq_iff_iff, List.any_eq_true, decide_eq_true_eq]
 rcases item_first_cases L p with ⟨h, h2⟩ | ⟨k, hk, h, h1, _⟩
 ·rw [h]
  refine ⟨fun h => by omega, fun ⟨x, hx, hp⟩ => ?_⟩
  obtain ⟨j, hj, e⟩ := List.getElem_of_mem hx
  have := h2 j hj
  rw [tg_eq L j hj, e, hp] at this
  cases this
 ·rw [h]
  exact ⟨fun _ => ⟨_, by rw [tg_eq L k hk]; exact List.getElem_mem hk, h1⟩, fun _ => by omega⟩

set_option maxHeartbeats 2000000 in
theorem item_indexFunc (a : Option Addr) (L : List (ItemR)) (cap n₀ g : Nat) (cb : Array Value) (p : ItemR → Bool) (w : World) (eg : ∀ args w, (callFunc g args).run Try.prog w = .ok (.enter g args) w)
  (hl : L.length ≤ 1100) (hn₀ : n₀ ≤ w.heap.size) (hI : Items n₀ w a L) (hp : AsksI g cb n₀ w p) :
  Calls Try.prog 99 #[.slice a L.length cap, .func (.func g) #[] cb] w fun e w' => e = .returned (.int .i64 (item_first L p)) ∧ Below w.heap.size w w' := by
 have HI := Lib.hid hI; clear hI
 have HP := Lib.hid hp; clear hp
 go_enter Try.func99, Try.ntmps99
 go_wp2
 go_loopw [8] (fun i wr => ∃ k : Nat, k ≤ L.length ∧ i = .int .i64 k ∧ Below w.heap.size w wr ∧ Hid (∀ j, j < k → p (tg L j) = false)) (fun i _ => L.length - (intOf i).toNat)
 case atStart => exact ⟨0, Nat.zero_le _, rfl, Below.refl _ _, Lib.hid (fun _ h => absurd h (Nat.not_lt_zero _))⟩
 case round =>
  obtain ⟨k, hk, rfl, hB, HA⟩ := hrel
  by_cases hlt : k < L.length
  ·obtain ⟨b, off, rfl, hb, hc⟩ := HI.out (by omega)
   obtain ⟨c0, c1, c2, c3, c4, c5, c6⟩ := hc k hlt
   have d0 := (hB.cell (p := ⟨b, off + k * 7, none⟩) (show b < w.heap.size by omega)).trans c0
   have d1 := (hB.cell (p := ⟨b, off + k * 7 + 1, none⟩) (show b < w.heap.size by omega)).trans c1
   have d2 := (hB.cell (p := ⟨b, off + k * 7 + 2, none⟩) (show b < w.heap.size by omega)).trans c2
   have d3 := (hB.cell (p := ⟨b, off + k * 7 + 3, none⟩) (show b < w.heap.size by omega)).trans c3
   have d4 := (hB.cell (p := ⟨b, off + k * 7 + 4, none⟩) (show b < w.heap.size by omega)).trans c4
   have d5 := (hB.cell (p := ⟨b, off + k * 7 + 5, none⟩) (show b < w.heap.size by omega)).trans c5
   have d6 := (hB.cell (p := ⟨b, off + k * 7 + 6, none⟩) (show b < w.heap.size by omega)).trans c6
   clear c0 c1 c2 c3 c4 c5 c6 hc
   have HC := Lib.hid (show Calls Try.prog g (#[.agg #[.string (tg L k).name, .int .i64 (tg L k).pos, .int .i64 (tg L k).width, .int .i64 (tg L k).weight, .int .i64 (tg L k).hang, .int .i64 (tg L k).front, .int .i64 (tg L k).back]] ++ cb) wr _ from HP.out wr (tg L k) (hB.mono hn₀))
   obtain ⟨bv, hbv⟩ : ∃ bv, p (tg L k) = bv := ⟨_, rfl⟩
   rw [hbv] at HC
   cases bv
   ·have HB : Hid (∀ j, j < k + 1 → p (tg L j) = false) := Lib.hid fun j hj => by
     rcases Nat.lt_or_ge j k with l | l
     ·exact HA.out j l
     ·obtain rfl : j = k := by omega
      exact hbv
    clear hbv
    go_wp2_with ((with_reducible refine HC.out.mono ?_); rintro e w1 ⟨rfl, hb1⟩)
    go_roundw
    case rel => exact ⟨k + 1, by omega, by go_num, hB.trans (hb1.mono hB.size), HB⟩
    case measure => simp [intOf]; omega
   ·have H := Lib.hid (item_first_hit L p k hlt hbv HA.out)
    clear hbv
    go_wp2_with ((with_reducible refine HC.out.mono ?_); rintro e w1 ⟨rfl, hb1⟩)
    go_ret
    exact ⟨ret_int H.out.symm, hB.trans (hb1.mono hB.size)⟩
  ·obtain rfl : k = L.length := by omega
   have H := Lib.hid (item_first_miss L p HA.out)
   go_wp2
   go_ret
   exact ⟨ret_int H.out.symm, hB⟩

set_option maxHeartbeats 1000000 in
theorem item_containsFunc (a : Option Addr) (L : List (ItemR)) (cap n₀ g : Nat) (cb : Array Value) (p : ItemR → Bool) (w : World) (eg : ∀ args w, (callFunc g args).run Try.prog w = .ok (.enter g args) w)
  (hl : L.length ≤ 1100) (hn₀ : n₀ ≤ w.heap.size) (hI : Items n₀ w a L) (hp : AsksI g cb n₀ w p) :
  Calls Try.prog 93 #[.slice a L.length cap, .func (.func g) #[] cb] w fun e w' => e = .returned (.bool (item_any L p)) ∧ Below w.heap.size w w' := by
 have HC := Lib.hid (item_indexFunc a L cap n₀ g cb p w eg hl hn₀ hI hp)
 clear hI hp eg
 go_enter Try.func93, Try.ntmps93
 go_wp2_with (go_at_call 99; (with_reducible refine HC.out.mono ?_); rintro e w1 ⟨rfl, hb1⟩)
 go_ret
 exact ⟨rfl, hb1⟩

end Go.Proofs.Ytbgkgahmicepdaa
namespace Go.Proofs.Ytbgkgahmicepdaa
open Go.RowKit Go.Shelf Go.Maps Go.WideMaps
attribute [local go_sem] Oper.semAt_some
def keyLs (l : List ByteArray) : List Lit := l.map fun s => .string s.data.toList
theorem keyLs_is (l : List ByteArray) : ∀ x ∈ keyLs l, WideAt.IsKeyLit x := by
 intro x hx
 unfold keyLs at hx
 rw [List.mem_map] at hx
 obtain ⟨s, _, rfl⟩ := hx
 trivial
theorem any_mem (acc : List Lit) (x : Lit) (hx : WideAt.IsKeyLit x) : acc.any (fun y => y.sameKey x) = true ↔ x ∈ acc := by
 rw [List.any_eq_true]
 constructor
 ·rintro ⟨y, hy, e⟩
  rw [← WideAt.sameKey_eq e]; exact hy
 ·exact fun h => ⟨x, h, WideAt.sameKey_self hx⟩
theorem addKey_len : ∀ (xs acc : List Lit), (∀ x ∈ xs, WideAt.IsKeyLit x) → (xs.foldl addKey acc).length ≤ acc.length + xs.length ∧ ((xs.foldl addKey acc).length < acc.length + xs.length ↔ ¬ (xs.Nodup ∧ ∀ x ∈ xs, x ∉ acc))
 | [], acc, _ => ⟨Nat.le_refl _, by simp⟩
 | x :: r, acc, h => by
  have hx := h x (List.mem_cons_self ..)
  rw [List.foldl_cons, List.length_cons]
  by_cases hm : x ∈ acc
  ·rw [show addKey acc x = acc by unfold addKey; rw [if_pos ((any_mem acc x hx).2 hm)]]
   have h1 := (addKey_len r acc fun y hy => h y (List.mem_cons_of_mem _ hy)).1
   refine ⟨by omega, fun _ q => q.2 x (List.mem_cons_self ..) hm, fun _ => by omega⟩
  ·rw [show addKey acc x = acc ++ [x] by unfold addKey; rw [if_neg fun q => hm ((any_mem acc x hx).1 q)]]
   obtain ⟨h1, h2⟩ := addKey_len r (acc ++ [x]) fun y hy => h y (List.mem_cons_of_mem _ hy)
   rw [List.length_append, List.length_singleton] at h1 h2
   refine ⟨by omega, ?_⟩
   rw [show acc.length + (r.length + 1) = acc.length + 1 + r.length by omega, h2]
   apply not_congr
   rw [List.nodup_cons]
   simp only [List.mem_append, List.mem_cons, not_or]
   constructor
   ·rintro ⟨a, b⟩
    refine ⟨⟨fun q => (b x q).2.1 rfl, a⟩, fun y hy => ?_⟩
    rcases hy with rfl | hy
    ·exact hm
    ·exact (b y hy).1
   ·rintro ⟨⟨a, b⟩, c⟩
    exact ⟨b, fun y hy => ⟨c y (.inr hy), fun e => a (e ▸ hy), fun h => by cases h⟩⟩
def twiceB (l : List ByteArray) : Bool := decide (¬ l.Nodup)
theorem keyLs_nodup (l : List ByteArray) : (keyLs l).Nodup ↔ l.Nodup := by
 unfold keyLs
 induction l with
 | nil => simp
 | cons s t ih =>
  rw [List.map_cons, List.nodup_cons, List.nodup_cons, ih, List.mem_map]
  constructor
  ·rintro ⟨a, b⟩
   exact ⟨fun q => a ⟨s, q, rfl⟩, b⟩
  ·rintro ⟨a, b⟩
   refine ⟨?_, b⟩
   rintro ⟨t', h1, h2⟩
   apply a
   have : t' = s := by
    obtain ⟨⟨x⟩⟩ := t'
    obtain ⟨⟨y⟩⟩ := s
    simp at h2
    rw [h2]
   rw [← this]; exact h1
def NameD (l : List ByteArray) : DataW Unit := setOf (.agg []) (keyLs l)
theorem nameD_size (l : List ByteArray) : Maps.size (NameD l) ≤ l.length ∧ decide (Maps.size (NameD l) < l.length) = twiceB l := by
 unfold NameD
 rw [size_setOf _ _ (keyLs_is l)]
 obtain ⟨h1, h2⟩ := addKey_len (keyLs l) [] (keyLs_is l)
 have e : (keyLs l).length = l.length := by unfold keyLs; rw [List.length_map]
 rw [List.length_nil, Nat.zero_add, e] at h1 h2
 refine ⟨h1, ?_⟩
 unfold twiceB
 rw [Bool.eq_iff_iff, decide_eq_true_eq, decide_eq_true_eq, ← keyLs_nodup l]
 have h3 : (∀ x ∈ keyLs l, x ∉ ([] : List Lit)) := fun _ _ h => by cases h
 rw [h2]
 exact not_congr ⟨fun h => h.1, fun h => ⟨h, h3⟩⟩
theorem nameD_next (l : List ByteArray) (s : ByteArray) : (NameD l).put (.string s.data.toList) (.agg []) = NameD (l ++ [s]) := by
 unfold NameD keyLs
 rw [List.map_append, List.map_cons, List.map_nil, setOf_snoc]
theorem keyedN : Keyed Try.prog 9 := string_keyed Try.underlying9
theorem below_map {H : Type} {w w' : World} {b n : Nat} {D : DataW H} {R : Value → Option (DataW H × List MemPlace)} {k : TypeId} {P : Program} (h : w.ownsMap P k R b n D) (hB : Below w.heap.size w w') : w'.ownsMap P k R b n D := by
 have hlt := h.lt
 obtain ⟨es, clock, hb, F, hs, hD⟩ := h
 exact ⟨es, clock, (hB.block b hlt).trans hb, F, hs, hD⟩
theorem twice_grow {w wr w2 w3 : World} {o : Obj} (hB : Below w.heap.size w wr) (h2 : Below (wr.alloc o).heap.size (wr.alloc o) w2) (h3 : w2.grownBy w3 (some w.heap.size)) : Below w.heap.size w w3 :=
 have h4 : Below w.heap.size w w2 := hB.trans ((mono_in _ h2).mono hB.size)
 h4.grown h3 h4.size (fun j hj => by cases hj; exact Nat.le_refl _)
theorem item_names_next (L : List ItemR) {k : Nat} (h : k < L.length) : (L.take (k + 1)).map (·.name) = (L.take k).map (·.name) ++ [(tg L k).name] := by
 rw [List.take_succ_eq_append_getElem h, List.map_append, tg_eq L k h]
 rfl
set_option maxHeartbeats 1000000 in
theorem item_name_any (r : ItemR) (w : World) :
  Calls Try.prog 90 #[.agg #[.string r.name, .int .i64 r.pos, .int .i64 r.width, .int .i64 r.weight, .int .i64 r.hang, .int .i64 r.front, .int .i64 r.back]] w fun e w' => e = .returned (.string r.name) ∧ Below w.heap.size w w' := by
 go_enter Try.func90, Try.ntmps90
 go_wp2_with fail
 go_ret
 exact ⟨rfl, (Below.refl _ _).alloc (Nat.le_refl _) _⟩
set_option maxRecDepth 100000 in
set_option maxHeartbeats 4000000 in
theorem item_twice (a : Option Addr) (L : List ItemR) (cap n₀ : Nat) (w : World) (hn₀ : n₀ ≤ w.heap.size) (hl : L.length ≤ 1000) (hs : ∀ x ∈ L, x.name.size ≤ 1000) (h : Items n₀ w a L) :
  Calls Try.prog 89 #[.slice a L.length cap, .func (.func 90) #[] #[]] w fun e w' => e = .returned (.bool (twiceB (L.map (·.name)))) ∧ Below w.heap.size w w' := by
 have HL := Lib.hid h
 have HS : Hid (∀ k, k < L.length → (tg L k).name.size ≤ 1000) := Lib.hid fun k hk => hs _ (by rw [tg_eq L k hk]; exact List.getElem_mem hk)
 clear h hs
 have hmm := @run_makeMap Try.prog
 go_enter Try.func89, Try.ntmps89
 go_wp2
 go_loopw [11] (fun i wr => ∃ k : Nat, k ≤ L.length ∧ i = .int .i64 k ∧ Hid (wr.ownsMap Try.prog 9 unitElem w.heap.size k (NameD ((L.take k).map (·.name)))) ∧ Below w.heap.size w wr) (fun i _ => L.length - (intOf i).toNat)
 case atStart => exact ⟨0, Nat.zero_le _, rfl, Lib.hid (World.ownsMap_made _ _ _ _), (Below.refl _ _).alloc (Nat.le_refl _) _⟩
 case round =>
  obtain ⟨k, hk, rfl, HO, hB⟩ := hrel
  by_cases hlt : k < L.length
  ·obtain ⟨b, off, rfl, hb, hx⟩ := HL.out (by omega)
   obtain ⟨e0, e1, e2, e3, e4, e5, e6⟩ := hx k hlt
   have d0 := (hB.cell (p := ⟨b, _, none⟩) (show b < w.heap.size by omega)).trans e0
   have d1 := (hB.cell (p := ⟨b, _, none⟩) (show b < w.heap.size by omega)).trans e1
   have d2 := (hB.cell (p := ⟨b, _, none⟩) (show b < w.heap.size by omega)).trans e2
   have d3 := (hB.cell (p := ⟨b, _, none⟩) (show b < w.heap.size by omega)).trans e3
   have d4 := (hB.cell (p := ⟨b, _, none⟩) (show b < w.heap.size by omega)).trans e4
   have d5 := (hB.cell (p := ⟨b, _, none⟩) (show b < w.heap.size by omega)).trans e5
   have d6 := (hB.cell (p := ⟨b, _, none⟩) (show b < w.heap.size by omega)).trans e6
   have HSZ := Lib.hid (HS.out k hlt)
   have HN := Lib.hid (item_names_next L hlt)
   generalize hr : tg L k = r at *
   clear hx hr e0 e1 e2 e3 e4 e5 e6
   go_wp2_with (first
    | (go_at_call 90; (with_reducible refine (item_name_any r _).mono ?_); rintro e w2 ⟨rfl, hb2⟩; have HB2 := Lib.hid hb2; clear hb2)
    | (at_mapUpdate; refine wpList_mapUpdate_own _ rfl _ _ _ 139 rfl 9 140 keyedN Try.underlying139 unitElem w.heap.size k (NameD ((L.take k).map (·.name))) rfl (below_map (HO.out.alloc _) HB2.out) (by unfold maxLen; omega) (.string r.name) (.agg #[]) (.string r.name.data.toList) rfl rfl (keyOf_string_mk Try.underlying9 (by have := HSZ.out; unfold maxLen; omega)) (.agg []) [] unitElem_mk ?_; intro w3 hown3 hgrow3; rw [nameD_next, ← HN.out] at hown3; have HO3 := Lib.hid hown3; have HG3 := Lib.hid hgrow3; clear hown3 hgrow3))
   go_roundw
   case rel => exact ⟨k + 1, by omega, by go_num, HO3, twice_grow hB HB2.out HG3.out⟩
   case measure => simp [intOf]; omega
  ·obtain rfl : k = L.length := by omega
   rw [List.take_length] at HO
   obtain ⟨n1, n2⟩ := nameD_size (L.map (·.name))
   rw [List.length_map] at n1 n2
   have HE := Lib.hid n2
   clear n2 hlt
   go_wp2_with (at_len; refine wpList_len_own _ rfl _ 139 rfl 9 140 Try.underlying139 unitElem w.heap.size L.length _ rfl HO.out ?_)
   go_ret
   exact ⟨ret_bool HE.out, hB⟩
theorem brick_names_next (L : List BrickR) {k : Nat} (h : k < L.length) : (L.take (k + 1)).map (·.name) = (L.take k).map (·.name) ++ [(bg L k).name] := by
 rw [List.take_succ_eq_append_getElem h, List.map_append, bg_eq L k h]
 rfl
set_option maxHeartbeats 1000000 in
theorem brick_name_any (r : BrickR) (w : World) :
  Calls Try.prog 97 #[.agg #[.string r.name, .int .i64 r.weight, .int .i64 r.count]] w fun e w' => e = .returned (.string r.name) ∧ Below w.heap.size w w' := by
 go_enter Try.func97, Try.ntmps97
 go_wp2_with fail
 go_ret
 exact ⟨rfl, (Below.refl _ _).alloc (Nat.le_refl _) _⟩
set_option maxRecDepth 100000 in
set_option maxHeartbeats 4000000 in
theorem brick_twice (a : Option Addr) (L : List BrickR) (cap n₀ : Nat) (w : World) (hn₀ : n₀ ≤ w.heap.size) (hl : L.length ≤ 1000) (hs : ∀ x ∈ L, x.name.size ≤ 1000) (h : Bricks n₀ w a L) :
  Calls Try.prog 96 #[.slice a L.length cap, .func (.func 97) #[] #[]] w fun e w' => e = .returned (.bool (twiceB (L.map (·.name)))) ∧ Below w.heap.size w w' := by
 have HL := Lib.hid h
 have HS : Hid (∀ k, k < L.length → (bg L k).name.size ≤ 1000) := Lib.hid fun k hk => hs _ (by rw [bg_eq L k hk]; exact List.getElem_mem hk)
 clear h hs
 have hmm := @run_makeMap Try.prog
 go_enter Try.func96, Try.ntmps96
 go_wp2
 go_loopw [11] (fun i wr => ∃ k : Nat, k ≤ L.length ∧ i = .int .i64 k ∧ Hid (wr.ownsMap Try.prog 9 unitElem w.heap.size k (NameD ((L.take k).map (·.name)))) ∧ Below w.heap.size w wr) (fun i _ => L.length - (intOf i).toNat)
 case atStart => exact ⟨0, Nat.zero_le _, rfl, Lib.hid (World.ownsMap_made _ _ _ _), (Below.refl _ _).alloc (Nat.le_refl _) _⟩
 case round =>
  obtain ⟨k, hk, rfl, HO, hB⟩ := hrel
  by_cases hlt : k < L.length
  ·obtain ⟨b, off, rfl, hb, hx⟩ := HL.out (by omega)
   obtain ⟨e0, e1, e2⟩ := hx k hlt
   have d0 := (hB.cell (p := ⟨b, _, none⟩) (show b < w.heap.size by omega)).trans e0
   have d1 := (hB.cell (p := ⟨b, _, none⟩) (show b < w.heap.size by omega)).trans e1
   have d2 := (hB.cell (p := ⟨b, _, none⟩) (show b < w.heap.size by omega)).trans e2
   have HSZ := Lib.hid (HS.out k hlt)
   have HN := Lib.hid (brick_names_next L hlt)
   generalize hr : bg L k = r at *
   clear hx hr e0 e1 e2
   go_wp2_with (first
    | (go_at_call 97; (with_reducible refine (brick_name_any r _).mono ?_); rintro e w2 ⟨rfl, hb2⟩; have HB2 := Lib.hid hb2; clear hb2)
    | (at_mapUpdate; refine wpList_mapUpdate_own _ rfl _ _ _ 139 rfl 9 140 keyedN Try.underlying139 unitElem w.heap.size k (NameD ((L.take k).map (·.name))) rfl (below_map (HO.out.alloc _) HB2.out) (by unfold maxLen; omega) (.string r.name) (.agg #[]) (.string r.name.data.toList) rfl rfl (keyOf_string_mk Try.underlying9 (by have := HSZ.out; unfold maxLen; omega)) (.agg []) [] unitElem_mk ?_; intro w3 hown3 hgrow3; rw [nameD_next, ← HN.out] at hown3; have HO3 := Lib.hid hown3; have HG3 := Lib.hid hgrow3; clear hown3 hgrow3))
   go_roundw
   case rel => exact ⟨k + 1, by omega, by go_num, HO3, twice_grow hB HB2.out HG3.out⟩
   case measure => simp [intOf]; omega
  ·obtain rfl : k = L.length := by omega
   rw [List.take_length] at HO
   obtain ⟨n1, n2⟩ := nameD_size (L.map (·.name))
   rw [List.length_map] at n1 n2
   have HE := Lib.hid n2
   clear n2 hlt
   go_wp2_with (at_len; refine wpList_len_own _ rfl _ 139 rfl 9 140 Try.underlying139 unitElem w.heap.size L.length _ rfl HO.out ?_)
   go_ret
   exact ⟨ret_bool HE.out, hB⟩
end Go.Proofs.Ytbgkgahmicepdaa
namespace Go.Proofs.Ytbgkgahmicepdaa
open Go.RowKit Go.Shelf
theorem below_new2 (w : World) (o p : Obj) : Below w.heap.size w ((w.alloc o).alloc p) := (below_new w o).alloc (by simp) p
set_option maxRecDepth 100000 in
set_option maxHeartbeats 1000000 in
theorem betw_any (n lo hi : Int) (w : World) :
  Calls Try.prog 81 #[.int .i64 n, .int .i64 lo, .int .i64 hi] w fun e w' => e = .returned (.bool (betB n lo hi)) ∧ w = w' := by
 have HR : Hid (betB n lo hi = (decide (lo ≤ n) && decide (n ≤ hi))) := Lib.hid rfl
 by_cases p1 : lo ≤ n
 ·have g1 : decide (lo ≤ n) = true := decide_eq_true p1
  rw [g1] at HR
  clear p1
  go_enter Try.func81, Try.ntmps81
  go_wp2_with fail
  go_ret
  exact ⟨ret_bool (by rw [HR.out]; rfl), rfl⟩
 ·have g1 : decide (lo ≤ n) = false := decide_eq_false p1
  rw [g1] at HR
  clear p1
  go_enter Try.func81, Try.ntmps81
  go_wp2_with fail
  go_ret
  exact ⟨ret_bool (by rw [HR.out]; rfl), rfl⟩
set_option maxRecDepth 100000 in
set_option maxHeartbeats 4000000 in
theorem alone_any (r : ItemR) (w : World) :
  Calls Try.prog 91 #[.agg #[.string r.name, .int .i64 r.pos, .int .i64 r.width, .int .i64 r.weight, .int .i64 r.hang, .int .i64 r.front, .int .i64 r.back]] w fun e w' => e = .returned (.bool (aloneB r)) ∧ Below w.heap.size w w' := by
 cases h0 : isNameB r.name
 ·have HR : Hid (aloneB r = false) := Lib.hid (by simp only [aloneB, h0, Bool.false_and])
  have H0 := Lib.hid h0
  clear h0
  go_enter Try.func91, Try.ntmps91
  go_wp2_with (first
   | (go_at_call 67; (with_reducible refine (isName_any r.name _).mono ?_); rintro e w1 ⟨rfl, rfl⟩; rw [H0.out])
   | (go_at_call 81; (with_reducible refine (betw_any r.weight 0 1048576 _).mono ?_); rintro e w1 ⟨rfl, rfl⟩; rw [H1.out])
   | (go_at_call 81; (with_reducible refine (betw_any r.hang 0 1048576 _).mono ?_); rintro e w1 ⟨rfl, rfl⟩; rw [H2.out])
   | (go_at_call 81; (with_reducible refine (betw_any r.front 0 1048576 _).mono ?_); rintro e w1 ⟨rfl, rfl⟩; rw [H3.out])
   | (go_at_call 81; (with_reducible refine (betw_any r.back 0 1048576 _).mono ?_); rintro e w1 ⟨rfl, rfl⟩; rw [H4.out]))
  go_ret
  exact ⟨ret_bool HR.out.symm, below_new _ _⟩
 cases h1 : betB r.weight 0 1048576
 ·have HR : Hid (aloneB r = false) := Lib.hid (by simp only [aloneB, h0, h1, Bool.true_and, Bool.false_and])
  have H0 := Lib.hid h0
  have H1 := Lib.hid h1
  clear h0 h1
  go_enter Try.func91, Try.ntmps91
  go_wp2_with (first
   | (go_at_call 67; (with_reducible refine (isName_any r.name _).mono ?_); rintro e w1 ⟨rfl, rfl⟩; rw [H0.out])
   | (go_at_call 81; (with_reducible refine (betw_any r.weight 0 1048576 _).mono ?_); rintro e w1 ⟨rfl, rfl⟩; rw [H1.out])
   | (go_at_call 81; (with_reducible refine (betw_any r.hang 0 1048576 _).mono ?_); rintro e w1 ⟨rfl, rfl⟩; rw [H2.out])
   | (go_at_call 81; (with_reducible refine (betw_any r.front 0 1048576 _).mono ?_); rintro e w1 ⟨rfl, rfl⟩; rw [H3.out])
   | (go_at_call 81; (with_reducible refine (betw_any r.back 0 1048576 _).mono ?_); rintro e w1 ⟨rfl, rfl⟩; rw [H4.out]))
  go_ret
  exact ⟨ret_bool HR.out.symm, below_new _ _⟩
 cases h2 : betB r.hang 0 1048576
 ·have HR : Hid (aloneB r = false) := Lib.hid (by simp only [aloneB, h0, h1, h2, Bool.true_and, Bool.false_and])
  have H0 := Lib.hid h0
  have H1 := Lib.hid h1
  have H2 := Lib.hid h2
  clear h0 h1 h2
  go_enter Try.func91, Try.ntmps91
  go_wp2_with (first
   | (go_at_call 67; (with_reducible refine (isName_any r.name _).mono ?_); rintro e w1 ⟨rfl, rfl⟩; rw [H0.out])
   | (go_at_call 81; (with_reducible refine (betw_any r.weight 0 1048576 _).mono ?_); rintro e w1 ⟨rfl, rfl⟩; rw [H1.out])
   | (go_at_call 81; (with_reducible refine (betw_any r.hang 0 1048576 _).mono ?_); rintro e w1 ⟨rfl, rfl⟩; rw [H2.out])
   | (go_at_call 81; (with_reducible refine (betw_any r.front 0 1048576 _).mono ?_); rintro e w1 ⟨rfl, rfl⟩; rw [H3.out])
   | (go_at_call 81; (with_reducible refine (betw_any r.back 0 1048576 _).mono ?_); rintro e w1 ⟨rfl, rfl⟩; rw [H4.out]))
  go_ret
  exact ⟨ret_bool HR.out.symm, below_new _ _⟩
 cases h3 : betB r.front 0 1048576
 ·have HR : Hid (aloneB r = false) := Lib.hid (by simp only [aloneB, h0, h1, h2, h3, Bool.true_and, Bool.false_and])
  have H0 := Lib.hid h0
  have H1 := Lib.hid h1
  have H2 := Lib.hid h2
  have H3 := Lib.hid h3
  clear h0 h1 h2 h3
  go_enter Try.func91, Try.ntmps91
  go_wp2_with (first
   | (go_at_call 67; (with_reducible refine (isName_any r.name _).mono ?_); rintro e w1 ⟨rfl, rfl⟩; rw [H0.out])
   | (go_at_call 81; (with_reducible refine (betw_any r.weight 0 1048576 _).mono ?_); rintro e w1 ⟨rfl, rfl⟩; rw [H1.out])
   | (go_at_call 81; (with_reducible refine (betw_any r.hang 0 1048576 _).mono ?_); rintro e w1 ⟨rfl, rfl⟩; rw [H2.out])
   | (go_at_call 81; (with_reducible refine (betw_any r.front 0 1048576 _).mono ?_); rintro e w1 ⟨rfl, rfl⟩; rw [H3.out])
   | (go_at_call 81; (with_reducible refine (betw_any r.back 0 1048576 _).mono ?_); rintro e w1 ⟨rfl, rfl⟩; rw [H4.out]))
  go_ret
  exact ⟨ret_bool HR.out.symm, below_new _ _⟩
 cases h4 : betB r.back 0 1048576
 ·have HR : Hid (aloneB r = false) := Lib.hid (by simp only [aloneB, h0, h1, h2, h3, h4, Bool.true_and])
  have H0 := Lib.hid h0
  have H1 := Lib.hid h1
  have H2 := Lib.hid h2
  have H3 := Lib.hid h3
  have H4 := Lib.hid h4
  clear h0 h1 h2 h3 h4
  go_enter Try.func91, Try.ntmps91
  go_wp2_with (first
   | (go_at_call 67; (with_reducible refine (isName_any r.name _).mono ?_); rintro e w1 ⟨rfl, rfl⟩; rw [H0.out])
   | (go_at_call 81; (with_reducible refine (betw_any r.weight 0 1048576 _).mono ?_); rintro e w1 ⟨rfl, rfl⟩; rw [H1.out])
   | (go_at_call 81; (with_reducible refine (betw_any r.hang 0 1048576 _).mono ?_); rintro e w1 ⟨rfl, rfl⟩; rw [H2.out])
   | (go_at_call 81; (with_reducible refine (betw_any r.front 0 1048576 _).mono ?_); rintro e w1 ⟨rfl, rfl⟩; rw [H3.out])
   | (go_at_call 81; (with_reducible refine (betw_any r.back 0 1048576 _).mono ?_); rintro e w1 ⟨rfl, rfl⟩; rw [H4.out]))
  go_ret
  exact ⟨ret_bool HR.out.symm, below_new _ _⟩
 have HR : Hid (aloneB r = true) := Lib.hid (by simp only [aloneB, h0, h1, h2, h3, h4, Bool.and_self])
 have H0 := Lib.hid h0
 have H1 := Lib.hid h1
 have H2 := Lib.hid h2
 have H3 := Lib.hid h3
 have H4 := Lib.hid h4
 clear h0 h1 h2 h3 h4
 go_enter Try.func91, Try.ntmps91
 go_wp2_with (first
  | (go_at_call 67; (with_reducible refine (isName_any r.name _).mono ?_); rintro e w1 ⟨rfl, rfl⟩; rw [H0.out])
  | (go_at_call 81; (with_reducible refine (betw_any r.weight 0 1048576 _).mono ?_); rintro e w1 ⟨rfl, rfl⟩; rw [H1.out])
  | (go_at_call 81; (with_reducible refine (betw_any r.hang 0 1048576 _).mono ?_); rintro e w1 ⟨rfl, rfl⟩; rw [H2.out])
  | (go_at_call 81; (with_reducible refine (betw_any r.front 0 1048576 _).mono ?_); rintro e w1 ⟨rfl, rfl⟩; rw [H3.out])
  | (go_at_call 81; (with_reducible refine (betw_any r.back 0 1048576 _).mono ?_); rintro e w1 ⟨rfl, rfl⟩; rw [H4.out]))
 go_ret
 exact ⟨ret_bool HR.out.symm, below_new _ _⟩
set_option maxRecDepth 100000 in
set_option maxHeartbeats 4000000 in
theorem inside_any (r : ItemR) (len : Int) (w : World) (hl : 0 ≤ len ∧ len ≤ 1048576) :
  Calls Try.prog 92 #[.agg #[.string r.name, .int .i64 r.pos, .int .i64 r.width, .int .i64 r.weight, .int .i64 r.hang, .int .i64 r.front, .int .i64 r.back], .int .i64 len] w fun e w' => e = .returned (.bool (insideB r len)) ∧ Below w.heap.size w w' := by
 cases h0 : decide (0 ≤ r.pos)
 ·have HR : Hid (insideB r len = false) := Lib.hid (by simp only [insideB, h0, Bool.false_and])
  go_enter Try.func92, Try.ntmps92
  go_wp2_with (first
   | (go_at_call 81; (with_reducible refine (betw_any r.width 1 1048576 _).mono ?_); rintro e w1 ⟨rfl, rfl⟩; rw [H1.out]))
  go_ret
  exact ⟨ret_bool HR.out.symm, below_new _ _⟩
 cases h1 : betB r.width 1 1048576
 ·have HR : Hid (insideB r len = false) := Lib.hid (by simp only [insideB, h0, h1, Bool.true_and, Bool.false_and])
  have H1 := Lib.hid h1
  clear h1
  go_enter Try.func92, Try.ntmps92
  go_wp2_with (first
   | (go_at_call 81; (with_reducible refine (betw_any r.width 1 1048576 _).mono ?_); rintro e w1 ⟨rfl, rfl⟩; rw [H1.out]))
  go_ret
  exact ⟨ret_bool HR.out.symm, below_new _ _⟩
 have hw := betB_iff.1 h1
 have s1 : IntKind.i64.wrap (len - r.width) = len - r.width := IntWalk.i64_in _ (by omega)
 cases h2 : decide (r.pos ≤ len - r.width)
 ·have HR : Hid (insideB r len = false) := Lib.hid (by simp only [insideB, h0, h1, h2, Bool.true_and])
  have H1 := Lib.hid h1
  clear h1
  go_enter Try.func92, Try.ntmps92
  go_wp2_with (first
   | (go_at_call 81; (with_reducible refine (betw_any r.width 1 1048576 _).mono ?_); rintro e w1 ⟨rfl, rfl⟩; rw [H1.out]))
  go_ret
  exact ⟨ret_bool HR.out.symm, below_new _ _⟩
 have HR : Hid (insideB r len = true) := Lib.hid (by simp only [insideB, h0, h1, h2, Bool.and_self])
 have H1 := Lib.hid h1
 clear h1
 go_enter Try.func92, Try.ntmps92
 go_wp2_with (first
  | (go_at_call 81; (with_reducible refine (betw_any r.width 1 1048576 _).mono ?_); rintro e w1 ⟨rfl, rfl⟩; rw [H1.out]))
 go_ret
 exact ⟨ret_bool HR.out.symm, below_new _ _⟩
def apartW (x y : ItemR) : Bool := decide (IntKind.i64.wrap (x.pos + x.width) ≤ y.pos) || decide (IntKind.i64.wrap (y.pos + y.width) ≤ x.pos)
theorem apartW_is {x y : ItemR} {len : Int} (hx : item1 len x = true) (hy : item1 len y = true) (hl : 0 ≤ len ∧ len ≤ 1048576) : apartW x y = apartB x y := by
 obtain ⟨_, _, _, _, _, a, b, c⟩ := item1_iff.1 hx
 obtain ⟨_, _, _, _, _, d, e, f⟩ := item1_iff.1 hy
 unfold apartW apartB
 rw [IntWalk.i64_in _ (by omega), IntWalk.i64_in _ (by omega)]
set_option maxRecDepth 100000 in
set_option maxHeartbeats 2000000 in
theorem apart_any (x y : ItemR) (w : World) :
  Calls Try.prog 95 #[.agg #[.string x.name, .int .i64 x.pos, .int .i64 x.width, .int .i64 x.weight, .int .i64 x.hang, .int .i64 x.front, .int .i64 x.back], .agg #[.string y.name, .int .i64 y.pos, .int .i64 y.width, .int .i64 y.weight, .int .i64 y.hang, .int .i64 y.front, .int .i64 y.back]] w fun e w' => e = .returned (.bool (apartW x y)) ∧ Below w.heap.size w w' := by
 have HR : Hid (apartW x y = (decide (IntKind.i64.wrap (x.pos + x.width) ≤ y.pos) || decide (IntKind.i64.wrap (y.pos + y.width) ≤ x.pos))) := Lib.hid rfl
 rw [IntWalk.i64_left, IntWalk.i64_left] at HR
 obtain ⟨p, hp⟩ : ∃ p, wrap64 (x.pos + x.width) = p := ⟨_, rfl⟩
 obtain ⟨q, hq⟩ : ∃ q, wrap64 (y.pos + y.width) = q := ⟨_, rfl⟩
 rw [hp, hq] at HR
 by_cases p1 : p ≤ y.pos
 ·have g1 : decide (p ≤ y.pos) = true := decide_eq_true p1
  rw [g1] at HR
  clear p1
  go_enter Try.func95, Try.ntmps95
  go_wp2_with fail
  go_ret
  exact ⟨ret_bool (by rw [HR.out]; rfl), below_new2 _ _ _⟩
 ·have g1 : decide (p ≤ y.pos) = false := decide_eq_false p1
  rw [g1] at HR
  clear p1
  go_enter Try.func95, Try.ntmps95
  go_wp2_with fail
  go_ret
  exact ⟨ret_bool (by rw [HR.out]; rfl), below_new2 _ _ _⟩
def ItemAt (w : World) (b : Nat) (r : ItemR) : Prop := w.cell? ⟨b, 0, none⟩ = some (.string r.name) ∧ w.cell? ⟨b, 1, none⟩ = some (.int .i64 r.pos) ∧ w.cell? ⟨b, 2, none⟩ = some (.int .i64 r.width) ∧ w.cell? ⟨b, 3, none⟩ = some (.int .i64 r.weight) ∧ w.cell? ⟨b, 4, none⟩ = some (.int .i64 r.hang) ∧ w.cell? ⟨b, 5, none⟩ = some (.int .i64 r.front) ∧ w.cell? ⟨b, 6, none⟩ = some (.int .i64 r.back)
theorem ItemAt.below {w w' : World} {b : Nat} {r : ItemR} (h : ItemAt w b r) (hb : Below w.heap.size w w') (hlt : b < w.heap.size) : ItemAt w' b r :=
 let ⟨a0, a1, a2, a3, a4, a5, a6⟩ := h
 ⟨(hb.cell (p := ⟨b, 0, none⟩) hlt).trans a0, (hb.cell (p := ⟨b, 1, none⟩) hlt).trans a1, (hb.cell (p := ⟨b, 2, none⟩) hlt).trans a2, (hb.cell (p := ⟨b, 3, none⟩) hlt).trans a3, (hb.cell (p := ⟨b, 4, none⟩) hlt).trans a4, (hb.cell (p := ⟨b, 5, none⟩) hlt).trans a5, (hb.cell (p := ⟨b, 6, none⟩) hlt).trans a6⟩
theorem ItemAt.new (w : World) (r : ItemR) (t : TypeId) : ItemAt (w.alloc (.cells #[.string r.name, .int .i64 r.pos, .int .i64 r.width, .int .i64 r.weight, .int .i64 r.hang, .int .i64 r.front, .int .i64 r.back] t)) w.heap.size r := by
 unfold ItemAt
 simp
theorem ent_apart (args : Array Value) (w : World) : (callFunc 94 args).run Try.prog w = .ok (.enter 94 args) w := enters_of Try.func94 (by kernel_rfl) rfl args w
set_option maxRecDepth 100000 in
set_option maxHeartbeats 4000000 in
theorem apartC_any (bx : Nat) (x y : ItemR) (w : World) (h : ItemAt w bx x) (hlt : bx < w.heap.size) :
  Calls Try.prog 94 #[.agg #[.string y.name, .int .i64 y.pos, .int .i64 y.width, .int .i64 y.weight, .int .i64 y.hang, .int .i64 y.front, .int .i64 y.back], .pointer (some ⟨bx, 0, none⟩)] w fun e w' => e = .returned (.bool (!apartW x y)) ∧ Below w.heap.size w w' := by
 obtain ⟨a0, a1, a2, a3, a4, a5, a6⟩ := h
 go_enter Try.func94, Try.ntmps94
 go_wp2_with (first
  | (go_at_call 95; (with_reducible refine (apart_any x y _).mono ?_); rintro e w1 ⟨rfl, hb⟩))
 go_ret
 exact ⟨rfl, mono_in _ hb⟩
theorem asks_apart {w : World} {bx : Nat} {x : ItemR} (h : ItemAt w bx x) (hlt : bx < w.heap.size) : AsksI 94 #[.pointer (some ⟨bx, 0, none⟩)] w.heap.size w (fun y => !apartW x y) := by
 intro W r hb
 exact apartC_any bx x r W (h.below hb hlt) (Nat.lt_of_lt_of_le hlt hb.size)
end Go.Proofs.Ytbgkgahmicepdaa
