/-
  THE WALKS of slices.IndexFunc, ContainsFunc at numbers and bricks; Equal, Clone at numbers; Clone at bricks; append of one element.
-/
import Derived.Test.YthldfijlcoobgaaHMem
import Derived.Test.YthldfijlcoobgaaApp
namespace Go.Proofs.Ythldfijlcoobgaa
open Go.RowKit Go.Shelf

theorem num_any_mem (L : List (Int)) (x : Int) : num_any L (fun y => decide (y = x)) = decide (x ∈ L) := by
  rw [num_any_eq, Bool.eq_iff_iff, List.any_eq_true, decide_eq_true_eq]
  constructor
  · rintro ⟨y, hy, e⟩
    rw [← of_decide_eq_true e]; exact hy
  · exact fun h => ⟨x, h, decide_eq_true rfl⟩


theorem brick_info : (Try.prog.info? 105).map (fun i => (i.zero, i.size, i.bytes)) = some (some (.agg #[.string ⟨#[]⟩, .int .i64 0, .int .i64 0]), 3, 32) := by kernel_rfl
end Go.Proofs.Ythldfijlcoobgaa
