/-
  THE WALKS of package ratio: size, gcd, Valid, signed, Make.
-/
import Derived.Test.YthldfijlcoobgaaGreatRatP
import Derived.WalkKit
import Derived.WalkSpells
import Derived.WalkLawsBesides
import Derived.Deep.QuietTactic
import Derived.BigQuiet
import Derived.Lib.Hide
import Derived.Shelf.Abstract
namespace Go.Proofs.YthldfijlcoobgaaGreat
open Go.RowKit Go.Shelf

theorem ret_u {k : IntKind} {a b : Int} (h : a = b) : Ending.returned (.int k a) = .returned (.int k b) := by rw [h]

set_option maxHeartbeats 1000000 in
theorem size_any (n : Int) (h1 : -9223372036854775808 ≤ n) (h2 : n ≤ 9223372036854775807) (w : World) :
    Calls Tryz.prog 97 #[.int .i64 n] w fun e w' => e = .returned (.int .u64 (n.natAbs : Int)) ∧ w = w' := by
  by_cases h : n < 0
  · have e1 : IntKind.u64.wrap (-IntKind.u64.wrap n) = (n.natAbs : Int) := by simp only [IntKind.wrap_u64]; omega
    go_enter Tryz.func97, Tryz.ntmps97
    go_wp2
    go_ret
    exact ⟨ret_u (by first | exact e1 | omega | rfl), rfl⟩
  · go_enter Tryz.func97, Tryz.ntmps97
    go_wp2
    go_ret
    exact ⟨ret_u (by omega), rfl⟩

theorem gcd_step (a b : Int) : Int.gcd b (a % b) = Int.gcd a b := by
  rw [Int.gcd_comm a b]
  have h : a % b = a - b * (a / b) := by have := Int.mul_ediv_add_emod a b; omega
  rw [h, Int.gcd_sub_mul_left_right]

theorem below_drewN {n₀ : Nat} {w w' : World} (h : Below n₀ w w') (n : Nat) : Below n₀ w (w'.drewN n) := h.trans ⟨rfl, rfl, rfl, Nat.le_refl _, fun _ _ => rfl⟩
theorem below_new (w : World) (o : Obj) : Below w.heap.size w (w.alloc o) := (Below.refl _ _).alloc (Nat.le_refl _) o

set_option maxHeartbeats 1000000 in
theorem gcd_any (a b : Int) (a0 : 0 ≤ a) (a1 : a < 18446744073709551616) (b0 : 0 ≤ b) (b1 : b < 18446744073709551616) (w : World) :
    Calls Tryz.prog 96 #[.int .u64 a, .int .u64 b] w fun e w' => e = .returned (.int .u64 (Int.gcd a b : Int)) ∧ ∃ m, w' = w.drewN m := by
  go_enter Tryz.func96, Tryz.ntmps96
  go_wp2
  go_loopw [0, 1] (fun i j wr => ∃ x y : Int, 0 ≤ x ∧ x < 18446744073709551616 ∧ 0 ≤ y ∧ y < 18446744073709551616 ∧ i = .int .u64 x ∧ j = .int .u64 y ∧ Hid (Int.gcd x y = Int.gcd a b) ∧ ∃ m, wr = w.drewN m) (fun _ j _ => (intOf j).toNat)
  case atStart => exact ⟨a, b, a0, a1, b0, b1, rfl, rfl, Lib.hid rfl, 0, rfl⟩
  case round =>
    obtain ⟨x, y, x0, x1, y0, y1, rfl, rfl, HG, m, rfl⟩ := hrel
    by_cases h : y = 0
    · subst h
      go_wp2
      go_ret
      exact ⟨ret_u (by rw [← HG.out]; simp; omega), m, rfl⟩
    · have yp : 0 < y := by omega
      have h' : (y == 0) = false := by simpa using h
      have t0 : 0 ≤ x % y := Int.emod_nonneg _ h
      have t1 : x % y < y := Int.emod_lt_of_pos _ yp
      have HS : Hid (Int.gcd y (x % y) = Int.gcd a b) := Lib.hid ((gcd_step x y).trans HG.out)
      go_wp2
      go_quiet (fail)
      go_wp2
      go_roundw
      case rel => exact ⟨y, x % y, y0, y1, t0, by omega, rfl, rfl, HS, _, World.drewN_drewN _ _ _⟩
      case measure => simp [intOf]; omega

def validF (n d : Int) : Bool := decide (1 ≤ d) && decide (d ≤ 1152921504606846976) && decide (-1152921504606846976 ≤ n) && decide (n ≤ 1152921504606846976) && (Int.gcd n d == 1)
theorem validF_iff (n d : Int) : validF n d = true ↔ 1 ≤ d ∧ d ≤ 1152921504606846976 ∧ -1152921504606846976 ≤ n ∧ n ≤ 1152921504606846976 ∧ Int.gcd n d = 1 := by
  simp [validF, and_assoc]

set_option maxHeartbeats 2000000 in
theorem valid_any (n d : Int) (w : World) :
    Calls Tryz.prog 95 #[.agg #[.int .i64 n, .int .i64 d]] w fun e w' => e = .returned (.bool (validF n d)) ∧ Below w.heap.size w w' := by
  by_cases h1 : 1 ≤ d
  · have c1 := decide_eq_true h1
    by_cases h2 : d ≤ 1152921504606846976
    · have c2 := decide_eq_true h2
      by_cases h3 : -1152921504606846976 ≤ n
      · have c3 := decide_eq_true h3
        by_cases h4 : n ≤ 1152921504606846976
        · have c4 := decide_eq_true h4
          have e1 : IntKind.u64.wrap d = d := by rw [IntKind.wrap_u64]; omega
          obtain ⟨g, hg⟩ : ∃ g : Int, g = (Int.gcd (n.natAbs : Int) d : Int) := ⟨_, rfl⟩
          obtain ⟨b, hb⟩ : ∃ b : Bool, (g == 1) = b := ⟨_, rfl⟩
          have HR : Hid (validF n d = b) := Lib.hid (by
            unfold validF; rw [c1, c2, c3, c4, ← hb, hg]
            have : Int.gcd (n.natAbs : Int) d = Int.gcd n d := by simp [Int.gcd]
            rw [this, Bool.eq_iff_iff]; simp; omega)
          have HG := Lib.hid hg
          rw [HR.out]
          clear hg
          go_enter Tryz.func95, Tryz.ntmps95
          go_wp2
          go_quiet (first | (go_at_call 97; refine Calls.quiet_of_same ((size_any n (by omega) (by omega) _).mono fun e w' h => ⟨h.1, h.2.symm⟩)) | (go_at_call 96; refine Calls.quiet_of ((gcd_any _ d (by omega) (by omega) (by omega) (by omega) _).mono fun e w' h => ⟨h.1.trans (ret_u HG.out.symm), h.2⟩)))
          go_wp2
          go_ret
          exact ⟨rfl, below_drewN (below_new _ _) _⟩
        · have c4 := decide_eq_false h4
          have HR : Hid (validF n d = false) := Lib.hid (by unfold validF; rw [c1, c2, c3, c4]; rfl)
          rw [HR.out]
          clear h4
          go_enter Tryz.func95, Tryz.ntmps95
          go_wp2
          go_quiet (fail)
          go_wp2
          go_ret
          exact ⟨rfl, below_drewN (below_new _ _) _⟩
      · have c3 := decide_eq_false h3
        have HR : Hid (validF n d = false) := Lib.hid (by unfold validF; rw [c1, c2, c3]; rfl)
        rw [HR.out]
        clear h3
        go_enter Tryz.func95, Tryz.ntmps95
        go_wp2
        go_quiet (fail)
        go_wp2
        go_ret
        exact ⟨rfl, below_drewN (below_new _ _) _⟩
    · have c2 := decide_eq_false h2
      have HR : Hid (validF n d = false) := Lib.hid (by unfold validF; rw [c1, c2]; rfl)
      rw [HR.out]
      clear h2
      go_enter Tryz.func95, Tryz.ntmps95
      go_wp2
      go_quiet (fail)
      go_wp2
      go_ret
      exact ⟨rfl, below_drewN (below_new _ _) _⟩
  · have c1 := decide_eq_false h1
    have HR : Hid (validF n d = false) := Lib.hid (by unfold validF; rw [c1]; rfl)
    rw [HR.out]
    clear h1
    go_enter Tryz.func95, Tryz.ntmps95
    go_wp2
    go_quiet (fail)
    go_wp2
    go_ret
    exact ⟨rfl, below_drewN (below_new _ _) _⟩

def signP (neg : Bool) (n d : Int) : Int × Int × Int := if 1152921504606846976 < n ∨ 1152921504606846976 < d then (0, 0, 5) else (if neg then -n else n, d, 0)
set_option maxHeartbeats 2000000 in
theorem signed_any (neg : Bool) (n d : Int) (n0 : 0 ≤ n) (d0 : 0 ≤ d) (w : World) :
    Calls Tryz.prog 99 #[.bool neg, .int .u64 n, .int .u64 d] w fun e w' => e = .returned (.tuple #[.agg #[.int .i64 (signP neg n d).1, .int .i64 (signP neg n d).2.1], .int .i64 (signP neg n d).2.2]) ∧ Below w.heap.size w w' := by
  by_cases h1 : 1152921504606846976 < n
  · have HR : Hid (signP neg n d = (0, 0, 5)) := Lib.hid (by unfold signP; rw [if_pos (.inl h1)])
    rw [HR.out]
    go_enter Tryz.func99, Tryz.ntmps99
    go_wp2
    refine bodyPost_ret (v := .tuple #[.agg #[.int .i64 0, .int .i64 0], .int .i64 5]) (by simp [results, Tryz.results99, go_sem]) rfl ⟨rfl, ?_⟩
    exact below_new _ _
  · by_cases h2 : 1152921504606846976 < d
    · have HR : Hid (signP neg n d = (0, 0, 5)) := Lib.hid (by unfold signP; rw [if_pos (.inr h2)])
      rw [HR.out]
      go_enter Tryz.func99, Tryz.ntmps99
      go_wp2
      refine bodyPost_ret (v := .tuple #[.agg #[.int .i64 0, .int .i64 0], .int .i64 5]) (by simp [results, Tryz.results99, go_sem]) rfl ⟨rfl, ?_⟩
      exact below_new _ _
    · have HR : Hid (signP neg n d = (if neg then -n else n, d, 0)) := Lib.hid (by unfold signP; rw [if_neg (by omega)])
      rw [HR.out]
      cases neg
      · go_enter Tryz.func99, Tryz.ntmps99
        go_wp2
        refine bodyPost_ret (v := .tuple #[.agg #[.int .i64 n, .int .i64 d], .int .i64 0]) (by simp [results, Tryz.results99, go_sem]) rfl ⟨rfl, ?_⟩
        exact below_new _ _
      · go_enter Tryz.func99, Tryz.ntmps99
        go_wp2
        refine bodyPost_ret (v := .tuple #[.agg #[.int .i64 (-n), .int .i64 d], .int .i64 0]) (by simp [results, Tryz.results99, go_sem]) rfl ⟨rfl, ?_⟩
        exact below_new _ _
end Go.Proofs.YthldfijlcoobgaaGreat
