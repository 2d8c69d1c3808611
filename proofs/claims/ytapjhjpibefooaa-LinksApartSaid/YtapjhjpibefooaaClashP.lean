/-
  PLAIN: the clashes of cues; and the closures and small walks of Clash.
-/
import Derived.Test.YtapjhjpibefooaaRLinked
import Derived.Test.YtapjhjpibefooaaApp
import Derived.Test.YtapjhjpibefooaaOwn
namespace Go.Proofs.Ytapjhjpibefooaa
open Go.RowKit Go.Shelf

def wrongM (n : Int) : Bool := decide (n < 0 ∨ 1099511627776 < n)
def later (S : List Int) (a b : Nat) : Nat := if ig S b < ig S a then a else b
def hitB (S N : List Int) (a b : Nat) : Bool := decide (ig S a < ig S b + ig N b) && decide (ig S b < ig S a + ig N a)
def clashAt (L : List CueR) (A : List (ByteArray × ByteArray)) (S N : List Int) (k : Nat) : List (Int × ByteArray) :=
  if hitB S N (findI L (pg A k).1).toNat (findI L (pg A k).2).toNat then [((k : Int), (cg L (later S (findI L (pg A k).1).toNat (findI L (pg A k).2).toNat)).name)] else []
def clashTo (L : List CueR) (A : List (ByteArray × ByteArray)) (S N : List Int) : Nat → List (Int × ByteArray)
  | 0 => []
  | k + 1 => clashTo L A S N k ++ clashAt L A S N k
theorem clashTo_len (L : List CueR) (A : List (ByteArray × ByteArray)) (S N : List Int) (k : Nat) : (clashTo L A S N k).length ≤ k := by
  induction k with
  | zero => exact Nat.le_refl _
  | succ k ih =>
    simp only [clashTo, List.length_append]
    have : (clashAt L A S N k).length ≤ 1 := by unfold clashAt; split <;> simp
    omega
def clashP (L : List CueR) (A : List (ByteArray × ByteArray)) (S N : List Int) : List (Int × ByteArray) × Int :=
  if linkedB L A then (if S.length = L.length ∧ N.length = L.length then (if S.any wrongM || N.any wrongM then ([], 2) else (clashTo L A S N A.length, 0)) else ([], 3)) else ([], 1)
theorem wrong_no {S : List Int} (h : S.any wrongM = false) (k : Nat) (hk : k < S.length) : 0 ≤ ig S k ∧ ig S k ≤ 1099511627776 := by
  rw [List.any_eq_false] at h
  have := h (ig S k) (by rw [ig_eq S k hk]; exact List.getElem_mem hk)
  simp [wrongM] at this
  omega
theorem linked_pair {L : List CueR} {A : List (ByteArray × ByteArray)} (h : linkedB L A = true) (k : Nat) (hk : k < A.length) :
    ∃ m1 m2 : Nat, findI L (pg A k).1 = m1 ∧ findI L (pg A k).2 = m2 ∧ m1 < L.length ∧ m2 < L.length ∧ (pg A k).1 ≠ (pg A k).2 := by
  unfold linkedB at h
  simp only [Bool.and_eq_true, Bool.not_eq_true'] at h
  have h2 := h.2
  rw [pair_any_eq, List.any_eq_false] at h2
  have h3 := h2 (pg A k) (by rw [pg_eq A k hk]; exact List.getElem_mem hk)
  simp only [pairBad, Bool.or_eq_true, decide_eq_true_eq, not_or] at h3
  obtain ⟨⟨h4, h5⟩, h6⟩ := h3
  obtain ⟨a1, _, a2⟩ := findI_name L (pg A k).1 (by omega)
  obtain ⟨b1, _, b2⟩ := findI_name L (pg A k).2 (by omega)
  exact ⟨_, _, a2, b2, a1, b1, h4⟩
theorem linked_len {L : List CueR} {A : List (ByteArray × ByteArray)} (h : linkedB L A = true) : L.length ≤ 60 ∧ A.length ≤ 1000 := by
  unfold linkedB at h
  simp only [Bool.and_eq_true, decide_eq_true_eq] at h
  exact h.1.1

set_option maxHeartbeats 400000 in
theorem asks_wrongM (n₀ : Nat) (w : World) : AsksN 61 #[] n₀ w wrongM := by
  intro W r hB
  show Calls _ _ #[numV r] _ _
  unfold numV
  go_enter Try.func61, Try.ntmps61
  go_wp2
  all_goals (go_ret; exact ⟨ret_bool (by rw [Bool.eq_iff_iff]; simp [wrongM]; try omega), Below.refl _ _⟩)
theorem ent_wrongM (args : Array Value) (w : World) : (callFunc 61 args).run Try.prog w = .ok (.enter 61 args) w := enters_of Try.func61 (by kernel_rfl) rfl args w
theorem any_num (S : List Int) (p : Int → Bool) (b : Bool) (h : S.any p = b) : Hid (num_any S p = b) := Lib.hid (by rw [num_any_eq, h])
end Go.Proofs.Ytapjhjpibefooaa
