/-
  THE WALKS of the reference 02 where the high words are 0: Size, Half, Minus, Plus, Less.
-/
import Derived.Test.YtlgpolfbilkmbaaRat1
namespace Go.Proofs.Ytlgpolfbilkmbaa
open Go.RowKit Go.Shelf

set_option maxHeartbeats 1000000 in
theorem rsize_any (n : Int) (h1 : -9223372036854775808 ≤ n) (h2 : n ≤ 9223372036854775807) (w : World) :
    Calls Try.prog 53 #[.int .i64 n] w fun e w' => e = .returned (.int .u64 (n.natAbs : Int)) ∧ w = w' := by
  by_cases h : n < 0
  · have e1 : IntKind.u64.wrap (-IntKind.u64.wrap n) = (n.natAbs : Int) := by simp only [IntKind.wrap_u64]; omega
    have e2 : IntKind.u64.wrap (0 - IntKind.u64.wrap n) = (n.natAbs : Int) := by simp only [IntKind.wrap_u64]; omega
    go_enter Try.func53, Try.ntmps53
    go_wp2
    go_ret
    exact ⟨ret_u (by first | exact e1 | exact e2 | omega | rfl), rfl⟩
  · go_enter Try.func53, Try.ntmps53
    go_wp2
    go_ret
    exact ⟨ret_u (by omega), rfl⟩
set_option maxHeartbeats 1000000 in
theorem half_any (a : Int) (a0 : 0 ≤ a) (a1 : a < 18446744073709551616) (w : World) :
    Calls Try.prog 93 #[.agg #[.int .u64 0, .int .u64 a]] w fun e w' => e = .returned (.agg #[.int .u64 0, .int .u64 (a / 2)]) ∧ Below w.heap.size w w' := by
  go_enter Try.func93, Try.ntmps93
  go_wp2
  refine bodyPost_ret (v := .agg #[.int .u64 0, .int .u64 (a / 2)]) (by simp [results, Try.results93, go_sem]) rfl ⟨rfl, ?_⟩
  exact (below_new _ _).alloc (by simp) _
set_option maxHeartbeats 1000000 in
theorem rminus_any (a b : Int) (a1 : a < 18446744073709551616) (b0 : 0 ≤ b) (h : b ≤ a) (w : World) :
    Calls Try.prog 94 #[.agg #[.int .u64 0, .int .u64 a], .agg #[.int .u64 0, .int .u64 b]] w fun e w' => e = .returned (.agg #[.int .u64 0, .int .u64 (a - b)]) ∧ Below w.heap.size w w' := by
  have h' : decide (a < b) = false := decide_eq_false (by omega)
  have e1 : IntKind.u64.wrap (a - b) = a - b := by rw [IntKind.wrap_u64]; omega
  go_enter Try.func94, Try.ntmps94
  go_wp2
  refine bodyPost_ret (v := .agg #[.int .u64 0, .int .u64 (a - b)]) (by simp [results, Try.results94, go_sem]) rfl ⟨rfl, ?_⟩
  exact ((below_new _ _).alloc (by simp) _).alloc (by simp; omega) _
set_option maxHeartbeats 1000000 in
theorem rplus_any (a b : Int) (a0 : 0 ≤ a) (b0 : 0 ≤ b) (h : a + b < 18446744073709551616) (w : World) :
    Calls Try.prog 95 #[.agg #[.int .u64 0, .int .u64 a], .agg #[.int .u64 0, .int .u64 b]] w fun e w' => e = .returned (.agg #[.int .u64 0, .int .u64 (a + b)]) ∧ Below w.heap.size w w' := by
  have e1 : IntKind.u64.wrap (a + b) = a + b := by rw [IntKind.wrap_u64]; omega
  have h' : decide (a + b < a) = false := decide_eq_false (by omega)
  go_enter Try.func95, Try.ntmps95
  go_wp2
  refine bodyPost_ret (v := .agg #[.int .u64 0, .int .u64 (a + b)]) (by simp [results, Try.results95, go_sem]) rfl ⟨rfl, ?_⟩
  exact ((below_new _ _).alloc (by simp) _).alloc (by simp; omega) _
set_option maxHeartbeats 1000000 in
theorem rless_any (a b : Int) (w : World) :
    Calls Try.prog 54 #[.agg #[.int .u64 0, .int .u64 a], .agg #[.int .u64 0, .int .u64 b]] w fun e w' => e = .returned (.bool (decide (a < b))) ∧ Below w.heap.size w w' := by
  go_enter Try.func54, Try.ntmps54
  go_wp2
  go_ret
  exact ⟨by simp, (below_new _ _).alloc (by simp) _⟩
end Go.Proofs.Ytlgpolfbilkmbaa
