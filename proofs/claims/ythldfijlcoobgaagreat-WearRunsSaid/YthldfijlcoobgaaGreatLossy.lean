/-
  THE WALKS of losses.whole, lossy, and Along upwards.
-/
import Derived.Test.YthldfijlcoobgaaGreatApp
import Derived.Test.YthldfijlcoobgaaGreatRat5
import Derived.Deep.CutRange
namespace Go.Proofs.YthldfijlcoobgaaGreat
open Go.RowKit Go.Shelf

set_option maxHeartbeats 1000000 in
theorem wholeL_any (n : Int) (w : World) : Calls Tryz.prog 65 #[.int .i64 n] w fun e w' => e = .returned (.agg #[.int .i64 n, .int .i64 1]) ∧ Below w.heap.size w w' := by
  go_enter Tryz.func65, Tryz.ntmps65
  go_wp2_with fail
  refine bodyPost_ret (v := .agg #[.int .i64 n, .int .i64 1]) (by simp [results, Tryz.results65, go_sem]) rfl ⟨rfl, ?_⟩
  exact below_new _ _
def lossyF (n d : Int) : Bool := validF n d && (decide (d ≤ n) && decide (n ≤ 100))
set_option maxHeartbeats 2000000 in
theorem lossy_any (n d : Int) (w : World) : Calls Tryz.prog 66 #[.agg #[.int .i64 n, .int .i64 d]] w fun e w' => e = .returned (.bool (lossyF n d)) ∧ Below w.heap.size w w' := by
  have key : ∀ b1 b2 b3 : Bool, validF n d = b1 → decide (d ≤ n) = b2 → decide (n ≤ 100) = b3 → Hid (lossyF n d = (b1 && (b2 && b3))) := fun b1 b2 b3 h1 h2 h3 => Lib.hid (by unfold lossyF; rw [h1, h2, h3])
  obtain ⟨b1, h1⟩ : ∃ b, validF n d = b := ⟨_, rfl⟩
  have HV := Lib.hid h1
  cases b1
  all_goals cases h2 : decide (d ≤ n)
  all_goals cases h3 : decide (n ≤ 100)
  all_goals
    have H := key _ _ _ h1 h2 h3
    rw [H.out]
    clear key h1
    go_enter Tryz.func66, Tryz.ntmps66
    go_wp2_with (go_at_call 95; (with_reducible refine (valid_any n d _).mono ?_); rintro e w1 ⟨rfl, hb1⟩; rw [HV.out]; have c0 := (hb1.cell (p := ⟨w.heap.size, 0, none⟩) (by simp)).trans (show (w.alloc (.cells #[.int .i64 n, .int .i64 d] 76)).cell? ⟨w.heap.size, 0, none⟩ = some (.int .i64 n) by simp); have c1 := (hb1.cell (p := ⟨w.heap.size, 1, none⟩) (by simp)).trans (show (w.alloc (.cells #[.int .i64 n, .int .i64 d] 76)).cell? ⟨w.heap.size, 1, none⟩ = some (.int .i64 d) by simp))
    go_ret
    exact ⟨by simp, (below_new _ _).trans (hb1.mono (by simp))⟩
theorem lossy_ok {n d : Int} (h : lossyF n d = true) : 1 ≤ d ∧ d ≤ n ∧ n ≤ 100 ∧ validF n d = true := by
  unfold lossyF at h
  simp only [Bool.and_eq_true, decide_eq_true_eq] at h
  exact ⟨((validF_iff n d).1 h.1).1, h.2.1, h.2.2, h.1⟩
/-- One factor more. -/
theorem factor_step {fn fd ln ld : Int} {m : Nat} (h1 : 1 ≤ fd) (h2 : fd ≤ fn) (h3 : fn ≤ 100 ^ m) (hm : m ≤ 7) (hl : lossyF ln ld = true) :
    ∃ p q, mulP fn fd ln ld = (p, q, 0) ∧ validF p q = true ∧ 1 ≤ q ∧ q ≤ p ∧ p ≤ 100 ^ (m + 1) := by
  obtain ⟨l1, l2, l3, lv⟩ := lossy_ok hl
  have hp : (100 : Int) ^ m ≤ 100 ^ 7 := by
    have := Nat.pow_le_pow_right (n := 100) (by decide) hm
    have e1 : ((100 ^ m : Nat) : Int) = (100 : Int) ^ m := by simp
    have e2 : ((100 ^ 7 : Nat) : Int) = (100 : Int) ^ 7 := by simp
    omega
  have n1 : fn * ln ≤ 100 ^ m * 100 := Int.mul_le_mul h3 l3 (by omega) (by omega)
  have n2 : fd * ld ≤ fn * ln := Int.mul_le_mul h2 l2 (by omega) (by omega)
  have d0 : 0 < fd * ld := Int.mul_pos (by omega) (by omega)
  have a := lowN_mul (fn * ln) (fd * ld)
  have b := lowD_mul (fn * ln) (fd * ld)
  have g := gcd_posR (n := fn * ln) d0
  have c := lowD_pos (n := fn * ln) d0
  have hle : lowD (fn * ln) (fd * ld) ≤ lowN (fn * ln) (fd * ld) := by
    refine Int.le_of_mul_le_mul_right ?_ g
    rw [a, b]
    exact n2
  have hN := lowN_le (fn * ln) (fd * ld)
  have hD := lowD_le (n := fn * ln) d0
  have e7 : (100 : Int) ^ 7 = 100000000000000 := by decide
  have es : (100 : Int) ^ (m + 1) = 100 ^ m * 100 := Int.pow_succ ..
  refine ⟨lowN (fn * ln) (fd * ld), lowD (fn * ln) (fd * ld), ?_, ?_, by omega, hle, by omega⟩
  · unfold mulP fitP
    rw [if_neg (by omega)]
  · rw [validF_iff]
    exact ⟨by omega, by omega, by omega, by omega, low_cop d0⟩

/-- A rope: its holds' losses. -/
def oneB (h : HoldR) : Bool := h.ln == 1 && h.ld == 1
def holdB (n i : Nat) (h : HoldR) : Bool := lossyF h.ln h.ld && (!(i == 0 || i + 1 == n) || oneB h)
def ropeTo (L : List HoldR) : Nat → Bool
  | 0 => true
  | k + 1 => ropeTo L k && holdB L.length k (hg L k)
def ropeB (L : List HoldR) : Bool := decide (2 ≤ L.length) && (decide (L.length ≤ 10) && ropeTo L L.length)
end Go.Proofs.YthldfijlcoobgaaGreat
