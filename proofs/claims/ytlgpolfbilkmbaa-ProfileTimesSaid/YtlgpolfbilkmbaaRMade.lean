/-
  THE WALKS of the reference 02: Div where the high words are 0, Made and Make where the fraction fits.
-/
import Derived.Test.YtlgpolfbilkmbaaRef2c
namespace Go.Proofs.Ytlgpolfbilkmbaa
open Go.RowKit Go.Shelf

set_option maxRecDepth 100000 in
set_option maxHeartbeats 8000000 in
theorem rdiv_any (a b : Int) (a0 : 0 ≤ a) (a1 : a < 18446744073709551616) (b0 : 0 < b) (b1 : b < 18446744073709551616) (w : World) :
    Calls Try.prog 92 #[.agg #[.int .u64 0, .int .u64 a], .agg #[.int .u64 0, .int .u64 b]] w fun e w' => e = .returned (.tuple #[.agg #[.int .u64 0, .int .u64 (a / b)], .agg #[.int .u64 0, .int .u64 (a % b)]]) ∧ Below w.heap.size w w' := by
  have hb : (b == 0) = false := by simp; omega
  have hq := Int.ediv_nonneg a0 (Int.le_of_lt b0)
  have hr := Int.emod_nonneg a (show b ≠ 0 by omega)
  go_enter Try.func92, Try.ntmps92
  go_wp2_with fail
  go_region
  all_goals go_wp2_with fail
  all_goals refine bodyPost_ret (v := .tuple #[.agg #[.int .u64 0, .int .u64 (a / b)], .agg #[.int .u64 0, .int .u64 (a % b)]]) (by simp [results, Try.results92, go_sem]) rfl ⟨rfl, ?_⟩
  all_goals exact (below_a _ (below_a _ (below_a _ (below_new _ _)))).drew

def C2 (w : World) (B : Nat) (v0 v1 : Value) : Prop := w.cell? ⟨B, 0, none⟩ = some v0 ∧ w.cell? ⟨B, 1, none⟩ = some v1
theorem C2.carry {W w : World} {B : Nat} {v0 v1 : Value} (c : C2 W B v0 v1) (h : Below W.heap.size W w) : C2 w B v0 v1 :=
  ⟨(h.cell (p := ⟨B, 0, none⟩) (World.block_lt_of_cell? _ _ c.1)).trans c.1, (h.cell (p := ⟨B, 1, none⟩) (World.block_lt_of_cell? _ _ c.2)).trans c.2⟩
theorem C2.new (W : World) (v0 v1 : Value) (t : TypeId) : C2 (W.alloc (.cells #[v0, v1] t)) W.heap.size v0 v1 := ⟨by simp, by simp⟩

def NewI6 (w : World) (b : Nat) : Prop := w.cell? ⟨b, 0, none⟩ = some (.int .i64 0) ∧ w.cell? ⟨b, 1, none⟩ = some (.int .i64 0) ∧ w.frozen? ⟨b, 0, none⟩ = false ∧ w.frozen? ⟨b, 1, none⟩ = false ∧ b < w.heap.size
theorem NewI6.new (W : World) (t : TypeId) : NewI6 (W.alloc (.cells #[.int .i64 0, .int .i64 0] t)) W.heap.size := ⟨by simp, by simp, by simp, by simp, by simp⟩
theorem NewI6.carry {W w : World} {b : Nat} (f : NewI6 W b) (h : Below W.heap.size W w) : NewI6 w b :=
  ⟨(h.cell (p := ⟨b, 0, none⟩) f.2.2.2.2).trans f.1, (h.cell (p := ⟨b, 1, none⟩) f.2.2.2.2).trans f.2.1, (h.frozen (p := ⟨b, 0, none⟩) f.2.2.2.2).trans f.2.2.1, (h.frozen (p := ⟨b, 1, none⟩) f.2.2.2.2).trans f.2.2.2.1, Nat.lt_of_lt_of_le f.2.2.2.2 h.size⟩

set_option maxRecDepth 100000 in
set_option maxHeartbeats 16000000 in
theorem rmade_any (n d : Int) (neg : Bool) (n0 : 0 ≤ n) (n1 : n ≤ 1152921504606846976) (d0 : 0 < d) (d1 : d ≤ 1152921504606846976) (w : World) :
    Calls Try.prog 88 #[.agg #[.int .u64 0, .int .u64 n], .bool neg, .agg #[.int .u64 0, .int .u64 d]] w fun e w' => e = .returned (.tuple #[.agg #[.int .i64 (if neg then -lowN n d else lowN n d), .int .i64 (lowD n d)], .int .i64 0]) ∧ Below w.heap.size w w' := by
  have hd : (d == 0) = false := by simp; omega
  obtain ⟨g, hg⟩ : ∃ g : Int, (Int.gcd n d : Int) = g := ⟨_, rfl⟩
  have gp : 0 < g := by rw [← hg]; exact gcd_posR d0
  have gd : g ≤ d := by rw [← hg]; exact Int.le_of_dvd d0 (Int.gcd_dvd_right n d)
  have HG : Hid (∀ w : World, Calls Try.prog 89 #[.agg #[.int .u64 0, .int .u64 n], .agg #[.int .u64 0, .int .u64 d]] w fun e w' => e = .returned (.agg #[.int .u64 0, .int .u64 g]) ∧ Below w.heap.size w w') := Lib.hid fun w => by
    have := rgcd_any n d n0 (by omega) d0 (by omega) w
    rwa [hg] at this
  have HN := Lib.hid (rdiv_any n g n0 (by omega) gp (by omega))
  have HD := Lib.hid (rdiv_any d g (Int.le_of_lt d0) (by omega) gp (by omega))
  have p0 : 0 ≤ lowN n d := by unfold lowN; rw [hg]; exact Int.ediv_nonneg n0 (Int.le_of_lt gp)
  have p1 : lowN n d ≤ n := by have := lowN_le n d; omega
  have q0 := lowD_pos (n := n) d0
  have q1 := lowD_le (n := n) d0
  have eN : n / g = lowN n d := by unfold lowN; rw [hg]
  have eD : d / g = lowD n d := by unfold lowD; rw [hg]
  rw [eN] at HN
  rw [eD] at HD
  generalize lowN n d = p at *
  generalize lowD n d = q at *
  clear hg eN eD gd
  have z1 : decide (1152921504606846976 < p) = false := decide_eq_false (by omega)
  have z2 : decide (1152921504606846976 < q) = false := decide_eq_false (by omega)
  have z3 : IntKind.i64.wrap p = p := IntWalk.i64_in _ (by omega)
  have z4 : IntKind.i64.wrap q = q := IntWalk.i64_in _ (by omega)
  have z5 : IntKind.i64.wrap (0 - p) = -p := by rw [IntWalk.i64_in _ (by omega)]; omega
  go_enter Try.func88, Try.ntmps88
  go_upto_region 3 with (fail)
  have hW0 : Below w.heap.size w (((w.alloc (.cells #[.int .u64 0, .int .u64 n] 75)).alloc (.cells #[.int .u64 0, .int .u64 d] 75)).alloc (.cells #[.int .i64 0, .int .i64 0] 39)) := below_a _ (below_a _ (below_new _ _))
  have c3 : C2 (((w.alloc (.cells #[.int .u64 0, .int .u64 n] 75)).alloc (.cells #[.int .u64 0, .int .u64 d] 75)).alloc (.cells #[.int .i64 0, .int .i64 0] 39)) w.heap.size (.int .u64 0) (.int .u64 n) := ((C2.new w _ _ _).carry (below_new _ _)).carry (below_new _ _)
  have c5 : C2 (((w.alloc (.cells #[.int .u64 0, .int .u64 n] 75)).alloc (.cells #[.int .u64 0, .int .u64 d] 75)).alloc (.cells #[.int .i64 0, .int .i64 0] 39)) (w.heap.size + 1) (.int .u64 0) (.int .u64 d) := by have h := C2.new (w.alloc (.cells #[.int .u64 0, .int .u64 n] 75)) (.int .u64 0) (.int .u64 d) 75; rw [World.size_alloc] at h; exact h.carry (below_new _ _)
  have f6 : NewI6 (((w.alloc (.cells #[.int .u64 0, .int .u64 n] 75)).alloc (.cells #[.int .u64 0, .int .u64 d] 75)).alloc (.cells #[.int .i64 0, .int .i64 0] 39)) (w.heap.size + 1 + 1) := by have h := NewI6.new ((w.alloc (.cells #[.int .u64 0, .int .u64 n] 75)).alloc (.cells #[.int .u64 0, .int .u64 d] 75)) 39; rw [World.size_alloc, World.size_alloc] at h; exact h
  obtain ⟨Bd, hBd⟩ : ∃ b, w.heap.size + 1 = b := ⟨_, rfl⟩
  obtain ⟨Br, hBr⟩ : ∃ b, w.heap.size + 1 + 1 = b := ⟨_, rfl⟩
  have hBr0 : w.heap.size ≤ Br := by omega
  simp only [hBr] at f6 ⊢
  simp only [hBd] at c5 ⊢
  clear hBd hBr
  generalize (((w.alloc (.cells #[.int .u64 0, .int .u64 n] 75)).alloc (.cells #[.int .u64 0, .int .u64 d] 75)).alloc (.cells #[.int .i64 0, .int .i64 0] 39)) = W0 at *
  obtain ⟨c30, c31⟩ := c3
  obtain ⟨c50, c51⟩ := c5
  go_upto_region 4 with (go_at_call 89; (with_reducible refine (HG.out _).mono ?_); rintro e w1 ⟨rfl, hb1⟩)
  have b1 : Below W0.heap.size W0 (w1.alloc (.cells #[.int .u64 0, .int .u64 g] 75)) := below_a _ hb1
  have c8 := C2.new w1 (.int .u64 0) (.int .u64 g) 75
  have c3 := C2.carry (v0 := .int .u64 0) (v1 := .int .u64 n) ⟨c30, c31⟩ b1
  have c5 := C2.carry (v0 := .int .u64 0) (v1 := .int .u64 d) ⟨c50, c51⟩ b1
  have f6 := f6.carry b1
  have hW1 := hW0.trans (b1.mono hW0.size)
  clear hb1 c30 c31 c50 c51 b1 hW0
  generalize w1.alloc (.cells #[.int .u64 0, .int .u64 g] 75) = W1 at *
  generalize w1.heap.size = B8 at *
  obtain ⟨c30, c31⟩ := c3
  obtain ⟨c80, c81⟩ := c8
  go_upto_region 5 with (go_at_call 92; (with_reducible refine (HN.out _).mono ?_); rintro e w2 ⟨rfl, hb2⟩)
  have b2 : Below W1.heap.size W1 ((w2.alloc (.cells #[.int .u64 0, .int .u64 p] 75)).alloc (.cells #[.int .u64 0, .int .u64 (n % g)] 75)) := below_a _ (below_a _ hb2)
  have c9 : C2 ((w2.alloc (.cells #[.int .u64 0, .int .u64 p] 75)).alloc (.cells #[.int .u64 0, .int .u64 (n % g)] 75)) w2.heap.size (.int .u64 0) (.int .u64 p) := by unfold C2; simp
  have c8 := C2.carry (v0 := .int .u64 0) (v1 := .int .u64 g) ⟨c80, c81⟩ b2
  have c5 := c5.carry b2
  have f6 := f6.carry b2
  have hW2 := hW1.trans (b2.mono hW1.size)
  clear hb2 c30 c31 c80 c81 b2 hW1
  obtain ⟨Bx, hBx⟩ : ∃ b, w2.heap.size + 1 = b := ⟨_, rfl⟩
  simp only [hBx]
  clear hBx
  generalize ((w2.alloc (.cells #[.int .u64 0, .int .u64 p] 75)).alloc (.cells #[.int .u64 0, .int .u64 (n % g)] 75)) = W2 at *
  generalize w2.heap.size = B9 at *
  obtain ⟨c50, c51⟩ := c5
  obtain ⟨c80, c81⟩ := c8
  go_upto_region 6 with (go_at_call 92; (with_reducible refine (HD.out _).mono ?_); rintro e w3 ⟨rfl, hb3⟩)
  have b3 : Below W2.heap.size W2 ((w3.alloc (.cells #[.int .u64 0, .int .u64 q] 75)).alloc (.cells #[.int .u64 0, .int .u64 (d % g)] 75)) := below_a _ (below_a _ hb3)
  have c11 : C2 ((w3.alloc (.cells #[.int .u64 0, .int .u64 q] 75)).alloc (.cells #[.int .u64 0, .int .u64 (d % g)] 75)) w3.heap.size (.int .u64 0) (.int .u64 q) := by unfold C2; simp
  have c9 := c9.carry b3
  have f6 := f6.carry b3
  have hW3 := hW2.trans (b3.mono hW2.size)
  clear hb3 c50 c51 c80 c81 b3 hW2
  obtain ⟨By, hBy⟩ : ∃ b, w3.heap.size + 1 = b := ⟨_, rfl⟩
  simp only [hBy]
  clear hBy
  generalize ((w3.alloc (.cells #[.int .u64 0, .int .u64 q] 75)).alloc (.cells #[.int .u64 0, .int .u64 (d % g)] 75)) = W3 at *
  generalize w3.heap.size = B11 at *
  obtain ⟨c90, c91⟩ := c9
  obtain ⟨c110, c111⟩ := c11
  obtain ⟨g0, g1, g2, g3, g4⟩ := f6
  cases neg
  · go_wp2_with fail
    have l0 := (two_cells (v0 := .int .i64 p) (v1 := .int .i64 q) g0 g1).1
    have l1 := (two_cells (v0 := .int .i64 p) (v1 := .int .i64 q) g0 g1).2
    refine bodyPost_ret (v := .tuple #[.agg #[.int .i64 p, .int .i64 q], .int .i64 0]) (by simp [results, Try.results88, go_sem, l0, l1]) rfl ⟨rfl, ?_⟩
    exact below_s _ _ (below_s _ _ hW3 hBr0) hBr0
  · go_wp2_with fail
    have l0 := (two_cells (v0 := .int .i64 (-p)) (v1 := .int .i64 q) g0 g1).1
    have l1 := (two_cells (v0 := .int .i64 (-p)) (v1 := .int .i64 q) g0 g1).2
    refine bodyPost_ret (v := .tuple #[.agg #[.int .i64 (-p), .int .i64 q], .int .i64 0]) (by simp [results, Try.results88, go_sem, l0, l1]) rfl ⟨rfl, ?_⟩
    exact below_s _ _ (below_s _ _ hW3 hBr0) hBr0

set_option maxRecDepth 100000 in
set_option maxHeartbeats 8000000 in
theorem rmake_any (n d : Int) (n0 : -1152921504606846976 ≤ n) (n1 : n ≤ 1152921504606846976) (d0 : 0 < d) (d1 : d ≤ 1152921504606846976) (w : World) :
    Calls Try.prog 76 #[.int .i64 n, .int .i64 d] w fun e w' => e = .returned (.tuple #[.agg #[.int .i64 (lowN n d), .int .i64 (lowD n d)], .int .i64 0]) ∧ Below w.heap.size w w' := by
  have z1 := rsize_any n (by omega) (by omega)
  have z2 := rsize_any d (by omega) (by omega)
  rw [show (d.natAbs : Int) = d by omega] at z2
  have hb : decide (d < 0) = false := decide_eq_false (by omega)
  have hm := rmade_any (n.natAbs : Int) d (decide (n < 0)) (by omega) (by omega) d0 d1
  have e1 : (if decide (n < 0) then -lowN (n.natAbs : Int) d else lowN (n.natAbs : Int) d) = lowN n d := by
    by_cases h : n < 0
    · rw [if_pos (decide_eq_true h), show (n.natAbs : Int) = -n by omega, lowN_neg, Int.neg_neg]
    · rw [if_neg (by simpa using h), show (n.natAbs : Int) = n by omega]
  have e2 : lowD (n.natAbs : Int) d = lowD n d := by
    by_cases h : n < 0
    · rw [show (n.natAbs : Int) = -n by omega, lowD_neg]
    · rw [show (n.natAbs : Int) = n by omega]
  simp only [e1, e2] at hm
  clear e1 e2
  have Z1 := Lib.hid z1
  have Z2 := Lib.hid z2
  have HM := Lib.hid hm
  clear z1 z2 hm
  generalize lowN n d = p at *
  generalize lowD n d = q at *
  generalize hx : decide (n < 0) = b at *
  go_enter Try.func76, Try.ntmps76
  go_wp2_with (first
    | (go_at_call 53; (with_reducible refine (Z1.out _).mono ?_); rintro e w1 ⟨rfl, rfl⟩)
    | (go_at_call 53; (with_reducible refine (Z2.out _).mono ?_); rintro e w1 ⟨rfl, rfl⟩)
    | (go_at_call 88; (with_reducible refine (HM.out _).mono ?_); rintro e w1 ⟨rfl, hb1⟩; obtain ⟨g0, g1, g2, g3, g4⟩ := (NewI6.new w 39).carry hb1))
  have l0 := (two_cells (v0 := .int .i64 p) (v1 := .int .i64 q) g0 g1).1
  have l1 := (two_cells (v0 := .int .i64 p) (v1 := .int .i64 q) g0 g1).2
  refine bodyPost_ret (v := .tuple #[.agg #[.int .i64 p, .int .i64 q], .int .i64 0]) (by simp [results, Try.results76, go_sem, l0, l1]) rfl ⟨rfl, ?_⟩
  exact below_s _ _ (below_s _ _ ((below_new _ _).trans (hb1.mono (by simp))) (Nat.le_refl _)) (Nat.le_refl _)
end Go.Proofs.Ytlgpolfbilkmbaa
