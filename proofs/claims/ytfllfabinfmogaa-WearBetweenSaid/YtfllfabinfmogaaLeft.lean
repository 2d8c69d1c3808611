/-
  THE WALK of wear.Left.
-/
import Derived.Test.YtfllfabinfmogaaPlaces
namespace Go.Proofs.Ytfllfabinfmogaa
open Go.RowKit Go.Shelf
abbrev leftOK (x y : Int) : Prop := 0 ≤ x ∧ 0 ≤ y ∧ x ≤ 1152921504606846976 ∧ y ≤ 1152921504606846976
set_option maxHeartbeats 4000000 in
theorem left_any (x y : Int) (w : World) :
    Calls Try.prog 13 #[.int .i64 x, .int .i64 y] w fun e w' => e = .returned (.tuple #[.int .i64 (if leftOK x y then max 0 (y - x) else 0), .int .i64 (if leftOK x y then 0 else 2)]) ∧ Below w.heap.size w w' := by
  obtain ⟨A, hA⟩ : ∃ A, (if leftOK x y then max 0 (y - x) else 0) = A := ⟨_, rfl⟩
  obtain ⟨B, hB⟩ : ∃ B : Int, (if leftOK x y then 0 else 2) = B := ⟨_, rfl⟩
  rw [hA, hB]
  have HA := Lib.hid hA
  have HB := Lib.hid hB
  clear hA hB
  go_enter Try.func13, Try.ntmps13
  go_wp2_with fail
  all_goals go_ret2
  all_goals refine ⟨congrArg (fun p : Int × Int => Ending.returned (.tuple #[.int .i64 p.1, .int .i64 p.2])) (Prod.ext ?_ ?_ : ((_, _) : Int × Int) = (A, B)), Below.refl _ _⟩
  all_goals simp only
  all_goals (first | rw [← HA.out] | rw [← HB.out])
  all_goals unfold leftOK
  all_goals clear HA HB
  all_goals repeat' split at *
  all_goals omega
end Go.Proofs.Ytfllfabinfmogaa
