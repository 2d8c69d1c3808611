/-
  THE WALK of the laws' long.
-/
import Derived.Test.YtfiefmhnonddhaaDoorGiven
namespace Go.Proofs.YtfiefmhnonddhaaDoor
open Go.RowKit Go.Shelf
def longB (n : Int) : Bool := (decide (8 < n) && decide (n ≤ 16)) || decide (100 < n)
theorem long_any (a : Option Addr) (L : List Int) (cap : Nat) (w : World) : Calls Tryd.prog 10 #[.slice a L.length cap] w fun e w' => e = .returned (.bool (longB L.length)) ∧ w = w' := by
  obtain ⟨n, hn⟩ : ∃ n : Int, (L.length : Int) = n := ⟨_, rfl⟩
  obtain ⟨R, hR⟩ : ∃ R, longB (L.length : Int) = R := ⟨_, rfl⟩
  have HR := Lib.hid hR
  rw [hR]
  clear hR hn
  by_cases q1 : 8 < (L.length : Int)
  · by_cases q2 : (L.length : Int) ≤ 16
    · have e1 : decide (8 < (L.length : Int)) = true := decide_eq_true q1
      have e2 : decide ((L.length : Int) ≤ 16) = true := decide_eq_true q2
      obtain rfl : R = true := by rw [← HR.out]; unfold longB; rw [e1, e2]; rfl
      clear q1 q2 HR
      go_enter Tryd.func10, Tryd.ntmps10
      go_wp2
      go_ret
      exact ⟨rfl, rfl⟩
    · have e1 : decide (8 < (L.length : Int)) = true := decide_eq_true q1
      have e2 : decide ((L.length : Int) ≤ 16) = false := decide_eq_false q2
      have HR2 : Hid (decide (100 < (L.length : Int)) = R) := Lib.hid (by rw [← HR.out]; unfold longB; rw [e1, e2]; rfl)
      clear q1 q2 HR
      go_enter Tryd.func10, Tryd.ntmps10
      go_wp2
      go_ret
      exact ⟨ret_bool HR2.out, rfl⟩
  · have e1 : decide (8 < (L.length : Int)) = false := decide_eq_false q1
    have HR2 : Hid (decide (100 < (L.length : Int)) = R) := Lib.hid (by rw [← HR.out]; unfold longB; rw [e1]; rfl)
    clear q1 HR
    go_enter Tryd.func10, Tryd.ntmps10
    go_wp2
    go_ret
    exact ⟨ret_bool HR2.out, rfl⟩
end Go.Proofs.YtfiefmhnonddhaaDoor
