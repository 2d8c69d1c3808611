/-
  THE WALK of the reference's binary gcd (02), where the high words are 0: what its two numbers' memory looks like; the plain steps.
-/
import Derived.Test.YtfllfabinfmogaaRef2a
import Derived.Test.YtfllfabinfmogaaRat4
namespace Go.Proofs.Ytfllfabinfmogaa
open Go.RowKit Go.Shelf

/-- Binary gcd, plain. -/
theorem gcd_half2 {x y : Int} (hx : x % 2 = 0) (hy : y % 2 = 0) : Int.gcd x y = 2 * Int.gcd (x / 2) (y / 2) := by
  have h := Int.gcd_mul_left 2 (x / 2) (y / 2)
  rw [show 2 * (x / 2) = x by omega, show 2 * (y / 2) = y by omega] at h
  exact h
theorem gcd_half1 {x y : Int} (hx : x % 2 = 0) (hy : y % 2 = 1) : Int.gcd (x / 2) y = Int.gcd x y := by
  have c : Int.gcd 2 y = 1 := by
    rw [show y = 1 + (y / 2) * 2 by omega, Int.gcd_add_mul_right_right]
    rfl
  have h := Int.gcd_mul_right_left_of_gcd_eq_one (n := 2) (k := x / 2) c
  rw [show 2 * (x / 2) = x by omega] at h
  exact h.symm
theorem gcd_odd {x y : Int} (h : Int.gcd x y % 2 = 1) (hx : x % 2 = 0) : y % 2 = 1 := by
  rcases (show y % 2 = 0 ∨ y % 2 = 1 by omega) with c | c
  · have := gcd_half2 hx c; omega
  · exact c
theorem gcd_halfL {x y : Int} (h : Int.gcd x y % 2 = 1) (hx : x % 2 = 0) : Int.gcd (x / 2) y = Int.gcd x y := gcd_half1 hx (gcd_odd h hx)
theorem gcd_halfR {x y : Int} (h : Int.gcd x y % 2 = 1) (hy : y % 2 = 0) : Int.gcd x (y / 2) = Int.gcd x y := by
  rw [Int.gcd_comm x, Int.gcd_comm x]
  exact gcd_halfL (by rw [Int.gcd_comm]; exact h) hy
theorem gcd_sub {x y : Int} : Int.gcd (x - y) y = Int.gcd x y := by
  rw [Int.gcd_sub_self_left]
theorem odd_one {x y : Int} (hx : x % 2 = 1 ∨ y % 2 = 1) : Int.gcd x y % 2 = 1 := by
  rcases (show Int.gcd x y % 2 = 0 ∨ Int.gcd x y % 2 = 1 by omega) with c | c
  · have h2 : (2 : Nat) ∣ Int.gcd x y := Nat.dvd_of_mod_eq_zero c
    have d1 : (2 : Int) ∣ x := Int.dvd_trans (Int.natCast_dvd_natCast.2 h2) (Int.gcd_dvd_left x y)
    have d2 : (2 : Int) ∣ y := Int.dvd_trans (Int.natCast_dvd_natCast.2 h2) (Int.gcd_dvd_right x y)
    omega
  · exact c

def UU (w : World) (n : Nat) (x y : Int) : Prop := w.cell? ⟨n, 0, none⟩ = some (.int .u64 0) ∧ w.cell? ⟨n, 1, none⟩ = some (.int .u64 x) ∧ w.cell? ⟨n + 1, 0, none⟩ = some (.int .u64 0) ∧ w.cell? ⟨n + 1, 1, none⟩ = some (.int .u64 y) ∧ w.cell? ⟨n + 1 + 1, 0, none⟩ = some (.int .u64 0) ∧ w.cell? ⟨n + 1 + 1, 1, none⟩ = some (.int .u64 0) ∧ w.frozen? ⟨n, 0, none⟩ = false ∧ w.frozen? ⟨n, 1, none⟩ = false ∧ w.frozen? ⟨n + 1, 0, none⟩ = false ∧ w.frozen? ⟨n + 1, 1, none⟩ = false ∧ w.frozen? ⟨n + 1 + 1, 0, none⟩ = false ∧ w.frozen? ⟨n + 1 + 1, 1, none⟩ = false ∧ n + 1 + 1 < w.heap.size
theorem UU.carry {W w : World} {n : Nat} {x y : Int} (f : UU W n x y) (h : Below W.heap.size W w) : UU w n x y := by
  obtain ⟨a0, a1, a2, a3, a4, a5, b0, b1, b2, b3, b4, b5, c⟩ := f
  have e0 : n < W.heap.size := by omega
  have e1 : n + 1 < W.heap.size := by omega
  exact ⟨(h.cell (p := ⟨n, 0, none⟩) e0).trans a0, (h.cell (p := ⟨n, 1, none⟩) e0).trans a1, (h.cell (p := ⟨n + 1, 0, none⟩) e1).trans a2, (h.cell (p := ⟨n + 1, 1, none⟩) e1).trans a3, (h.cell (p := ⟨n + 1 + 1, 0, none⟩) c).trans a4, (h.cell (p := ⟨n + 1 + 1, 1, none⟩) c).trans a5, (h.frozen (p := ⟨n, 0, none⟩) e0).trans b0, (h.frozen (p := ⟨n, 1, none⟩) e0).trans b1, (h.frozen (p := ⟨n + 1, 0, none⟩) e1).trans b2, (h.frozen (p := ⟨n + 1, 1, none⟩) e1).trans b3, (h.frozen (p := ⟨n + 1 + 1, 0, none⟩) c).trans b4, (h.frozen (p := ⟨n + 1 + 1, 1, none⟩) c).trans b5, Nat.lt_of_lt_of_le c h.size⟩
theorem UU.setA {w : World} {n : Nat} {x y : Int} (f : UU w n x y) (z : Int) : UU ((w.setCell ⟨n, 0, none⟩ (.int .u64 0)).setCell ⟨n, 1, none⟩ (.int .u64 z)) n z y := by
  obtain ⟨a0, a1, a2, a3, a4, a5, b0, b1, b2, b3, b4, b5, c⟩ := f
  obtain ⟨d0, d1⟩ := two_cells (v0 := .int .u64 0) (v1 := .int .u64 z) a0 a1
  exact ⟨d0, d1, (two_other (by omega) _ _ _).trans a2, (two_other (by omega) _ _ _).trans a3, (two_other (by omega) _ _ _).trans a4, (two_other (by omega) _ _ _).trans a5, by simpa using b0, by simpa using b1, by simpa using b2, by simpa using b3, by simpa using b4, by simpa using b5, by simpa using c⟩
theorem UU.setB {w : World} {n : Nat} {x y : Int} (f : UU w n x y) (z : Int) : UU ((w.setCell ⟨n + 1, 0, none⟩ (.int .u64 0)).setCell ⟨n + 1, 1, none⟩ (.int .u64 z)) n x z := by
  obtain ⟨a0, a1, a2, a3, a4, a5, b0, b1, b2, b3, b4, b5, c⟩ := f
  obtain ⟨d0, d1⟩ := two_cells (v0 := .int .u64 0) (v1 := .int .u64 z) a2 a3
  exact ⟨(two_other (by omega) _ _ _).trans a0, (two_other (by omega) _ _ _).trans a1, d0, d1, (two_other (by omega) _ _ _).trans a4, (two_other (by omega) _ _ _).trans a5, by simpa using b0, by simpa using b1, by simpa using b2, by simpa using b3, by simpa using b4, by simpa using b5, by simpa using c⟩
end Go.Proofs.Ytfllfabinfmogaa
