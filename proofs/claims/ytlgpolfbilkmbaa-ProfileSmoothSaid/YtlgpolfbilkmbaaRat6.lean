/-
  THE WALKS of ratio.Sub and Div.
-/
import Derived.Test.YtlgpolfbilkmbaaRat5
namespace Go.Proofs.Ytlgpolfbilkmbaa
open Go.RowKit Go.Shelf

theorem valid_neg {n d : Int} (h : validF n d = true) : validF (-n) d = true := by
  obtain ⟨h1, h2, h3, h4, h5⟩ := (validF_iff _ _).1 h
  exact (validF_iff _ _).2 ⟨h1, h2, by omega, by omega, by rw [Int.neg_gcd]; exact h5⟩
theorem valid_flip {n d : Int} (h : validF n d = true) (hn : 0 < n) : validF d n = true := by
  obtain ⟨h1, h2, h3, h4, h5⟩ := (validF_iff _ _).1 h
  exact (validF_iff _ _).2 ⟨by omega, h4, by omega, h2, by rw [Int.gcd_comm]; exact h5⟩
theorem valid_flipN {n d : Int} (h : validF n d = true) (hn : n < 0) : validF (-d) (-n) = true := by
  obtain ⟨h1, h2, h3, h4, h5⟩ := (validF_iff _ _).1 h
  exact (validF_iff _ _).2 ⟨by omega, by omega, by omega, by omega, by rw [Int.neg_gcd, Int.gcd_neg, Int.gcd_comm]; exact h5⟩
def divP (an ad bn bd : Int) : Int × Int × Int := if bn < 0 then mulP an ad (-bd) (-bn) else mulP an ad bd bn

set_option maxRecDepth 100000 in
set_option maxHeartbeats 8000000 in
theorem sub_any (an ad bn bd : Int) (va : validF an ad = true) (vb : validF bn bd = true) (hsum : (an.natAbs : Int) * (bd / (Int.gcd ad bd : Int)) + (bn.natAbs : Int) * (ad / (Int.gcd ad bd : Int)) < 18446744073709551616) (hden : ad * bd < 18446744073709551616) (w : World) :
    Calls Try.prog 49 #[.agg #[.int .i64 an, .int .i64 ad], .agg #[.int .i64 bn, .int .i64 bd]] w fun e w' => e = .returned (.tuple #[.agg #[.int .i64 (addP an ad (-bn) bd).1, .int .i64 (addP an ad (-bn) bd).2.1], .int .i64 (addP an ad (-bn) bd).2.2]) ∧ Below w.heap.size w w' := by
  obtain ⟨P, hP⟩ : ∃ P, addP an ad (-bn) bd = P := ⟨_, rfl⟩
  have HPP := Lib.hid hP
  rw [hP]
  clear hP
  obtain ⟨b1, b2, b3, b4, b5⟩ := (validF_iff _ _).1 vb
  have wn : IntKind.i64.wrap (-bn) = -bn := IntWalk.i64_in _ (by omega)
  have HVA := Lib.hid va
  have HVB := Lib.hid vb
  have HC := Lib.hid (add_any an ad (-bn) bd va (valid_neg vb) (by rw [Int.natAbs_neg]; exact hsum) hden)
  clear va vb hsum hden b5
  go_enter Try.func49, Try.ntmps49
  go_wp2_with (first
    | (go_at_call 57; (with_reducible refine (valid_any an ad _).mono ?_); rintro e w1 ⟨rfl, hb1⟩; rw [HVA.out]; have z0 : w1.cell? ⟨w.heap.size, 0, none⟩ = some (.int .i64 an) := (hb1.cell (p := ⟨w.heap.size, 0, none⟩) (by simp <;> omega)).trans (by simp [go_sem, World.cell?_alloc_past]); have z1 : w1.cell? ⟨w.heap.size, 1, none⟩ = some (.int .i64 ad) := (hb1.cell (p := ⟨w.heap.size, 1, none⟩) (by simp <;> omega)).trans (by simp [go_sem, World.cell?_alloc_past]); have z2 : w1.cell? ⟨w.heap.size + 1, 0, none⟩ = some (.int .i64 bn) := (hb1.cell (p := ⟨w.heap.size + 1, 0, none⟩) (by simp <;> omega)).trans (by simp [go_sem, World.cell?_alloc_past]); have z3 : w1.cell? ⟨w.heap.size + 1, 1, none⟩ = some (.int .i64 bd) := (hb1.cell (p := ⟨w.heap.size + 1, 1, none⟩) (by simp <;> omega)).trans (by simp [go_sem, World.cell?_alloc_past]))
    | (go_at_call 57; (with_reducible refine (valid_any bn bd _).mono ?_); rintro e w2 ⟨rfl, hb2⟩; rw [HVB.out]; have z4 : w2.cell? ⟨w.heap.size, 0, none⟩ = some (.int .i64 an) := (hb2.cell (p := ⟨w.heap.size, 0, none⟩) (World.block_lt_of_cell? _ _ z0)).trans z0; have z5 : w2.cell? ⟨w.heap.size, 1, none⟩ = some (.int .i64 ad) := (hb2.cell (p := ⟨w.heap.size, 1, none⟩) (World.block_lt_of_cell? _ _ z1)).trans z1; have z6 : w2.cell? ⟨w.heap.size + 1, 0, none⟩ = some (.int .i64 bn) := (hb2.cell (p := ⟨w.heap.size + 1, 0, none⟩) (World.block_lt_of_cell? _ _ z2)).trans z2; have z7 : w2.cell? ⟨w.heap.size + 1, 1, none⟩ = some (.int .i64 bd) := (hb2.cell (p := ⟨w.heap.size + 1, 1, none⟩) (World.block_lt_of_cell? _ _ z3)).trans z3)
    | (go_at_call 32; (with_reducible refine (HC.out _).mono ?_); rintro e w3 ⟨rfl, hb3⟩; rw [HPP.out]; have hb4 := hb1.trans ((hb2.trans (hb3.mono hb2.size)).mono hb1.size); have l4 : w3.cell? ⟨w.heap.size + 1 + 1, 0, none⟩ = some (.int .i64 0) := (hb4.cell (p := ⟨w.heap.size + 1 + 1, 0, none⟩) (by simp <;> omega)).trans (by simp [go_sem]); have l5 : w3.cell? ⟨w.heap.size + 1 + 1, 1, none⟩ = some (.int .i64 0) := (hb4.cell (p := ⟨w.heap.size + 1 + 1, 1, none⟩) (by simp <;> omega)).trans (by simp [go_sem]); have l6 : w3.frozen? ⟨w.heap.size + 1 + 1, 0, none⟩ = false := (hb4.frozen (p := ⟨w.heap.size + 1 + 1, 0, none⟩) (by simp <;> omega)).trans (by simp [go_sem]); have l7 : w3.frozen? ⟨w.heap.size + 1 + 1, 1, none⟩ = false := (hb4.frozen (p := ⟨w.heap.size + 1 + 1, 1, none⟩) (by simp <;> omega)).trans (by simp [go_sem])))
  have s2 := (two_cells (v0 := .int .i64 P.1) (v1 := .int .i64 P.2.1) l4 l5).1
  have s3 := (two_cells (v0 := .int .i64 P.1) (v1 := .int .i64 P.2.1) l4 l5).2
  refine bodyPost_ret (v := .tuple #[.agg #[.int .i64 P.1, .int .i64 P.2.1], .int .i64 P.2.2]) (by simp [results, Try.results49, go_sem, s2, s3]) rfl ⟨rfl, ?_⟩
  have hBW := (((below_new w (.cells #[.int .i64 an, .int .i64 ad] 39)).alloc (by simp) (.cells #[.int .i64 bn, .int .i64 bd] 39)).alloc (by simp <;> omega) (.cells #[.int .i64 0, .int .i64 0] 39)).trans (hb4.mono (by simp <;> omega))
  exact (hBW.setCell (p := ⟨w.heap.size + 1 + 1, 0, none⟩) (by simp <;> omega) _).setCell (p := ⟨w.heap.size + 1 + 1, 1, none⟩) (by simp <;> omega) _

set_option maxRecDepth 100000 in
set_option maxHeartbeats 8000000 in
theorem divN_any (an ad bn bd : Int) (va : validF an ad = true) (vb : validF bn bd = true) (hn : bn < 0) (w : World) :
    Calls Try.prog 50 #[.agg #[.int .i64 an, .int .i64 ad], .agg #[.int .i64 bn, .int .i64 bd]] w fun e w' => e = .returned (.tuple #[.agg #[.int .i64 (mulP an ad (-bd) (-bn)).1, .int .i64 (mulP an ad (-bd) (-bn)).2.1], .int .i64 (mulP an ad (-bd) (-bn)).2.2]) ∧ Below w.heap.size w w' := by
  obtain ⟨P, hP⟩ : ∃ P, mulP an ad (-bd) (-bn) = P := ⟨_, rfl⟩
  have HPP := Lib.hid hP
  rw [hP]
  clear hP
  obtain ⟨b1, b2, b3, b4, b5⟩ := (validF_iff _ _).1 vb
  have nz : (bn == 0) = false := by simp; omega
  have wn : IntKind.i64.wrap (-bn) = -bn := IntWalk.i64_in _ (by omega)
  have wd : IntKind.i64.wrap (-bd) = -bd := IntWalk.i64_in _ (by omega)
  have dn := decide_eq_true hn
  have HVA := Lib.hid va
  have HVB := Lib.hid vb
  have HC := Lib.hid (mul_any an ad (-bd) (-bn) va (valid_flipN vb hn))
  clear va vb b5
  go_enter Try.func50, Try.ntmps50
  go_wp2_with (first
    | (go_at_call 57; (with_reducible refine (valid_any an ad _).mono ?_); rintro e w1 ⟨rfl, hb1⟩; rw [HVA.out]; have z0 : w1.cell? ⟨w.heap.size, 0, none⟩ = some (.int .i64 an) := (hb1.cell (p := ⟨w.heap.size, 0, none⟩) (by simp <;> omega)).trans (by simp [go_sem, World.cell?_alloc_past]); have z1 : w1.cell? ⟨w.heap.size, 1, none⟩ = some (.int .i64 ad) := (hb1.cell (p := ⟨w.heap.size, 1, none⟩) (by simp <;> omega)).trans (by simp [go_sem, World.cell?_alloc_past]); have z2 : w1.cell? ⟨w.heap.size + 1, 0, none⟩ = some (.int .i64 bn) := (hb1.cell (p := ⟨w.heap.size + 1, 0, none⟩) (by simp <;> omega)).trans (by simp [go_sem, World.cell?_alloc_past]); have z3 : w1.cell? ⟨w.heap.size + 1, 1, none⟩ = some (.int .i64 bd) := (hb1.cell (p := ⟨w.heap.size + 1, 1, none⟩) (by simp <;> omega)).trans (by simp [go_sem, World.cell?_alloc_past]))
    | (go_at_call 57; (with_reducible refine (valid_any bn bd _).mono ?_); rintro e w2 ⟨rfl, hb2⟩; rw [HVB.out]; have z4 : w2.cell? ⟨w.heap.size, 0, none⟩ = some (.int .i64 an) := (hb2.cell (p := ⟨w.heap.size, 0, none⟩) (World.block_lt_of_cell? _ _ z0)).trans z0; have z5 : w2.cell? ⟨w.heap.size, 1, none⟩ = some (.int .i64 ad) := (hb2.cell (p := ⟨w.heap.size, 1, none⟩) (World.block_lt_of_cell? _ _ z1)).trans z1; have z6 : w2.cell? ⟨w.heap.size + 1, 0, none⟩ = some (.int .i64 bn) := (hb2.cell (p := ⟨w.heap.size + 1, 0, none⟩) (World.block_lt_of_cell? _ _ z2)).trans z2; have z7 : w2.cell? ⟨w.heap.size + 1, 1, none⟩ = some (.int .i64 bd) := (hb2.cell (p := ⟨w.heap.size + 1, 1, none⟩) (World.block_lt_of_cell? _ _ z3)).trans z3)
    | (go_at_call 36; (with_reducible refine (HC.out _).mono ?_); rintro e w3 ⟨rfl, hb3⟩; rw [HPP.out]; have hb4 := hb1.trans ((hb2.trans (hb3.mono hb2.size)).mono hb1.size); have l4 : w3.cell? ⟨w.heap.size + 1 + 1, 0, none⟩ = some (.int .i64 0) := (hb4.cell (p := ⟨w.heap.size + 1 + 1, 0, none⟩) (by simp <;> omega)).trans (by simp [go_sem]); have l5 : w3.cell? ⟨w.heap.size + 1 + 1, 1, none⟩ = some (.int .i64 0) := (hb4.cell (p := ⟨w.heap.size + 1 + 1, 1, none⟩) (by simp <;> omega)).trans (by simp [go_sem]); have l6 : w3.frozen? ⟨w.heap.size + 1 + 1, 0, none⟩ = false := (hb4.frozen (p := ⟨w.heap.size + 1 + 1, 0, none⟩) (by simp <;> omega)).trans (by simp [go_sem]); have l7 : w3.frozen? ⟨w.heap.size + 1 + 1, 1, none⟩ = false := (hb4.frozen (p := ⟨w.heap.size + 1 + 1, 1, none⟩) (by simp <;> omega)).trans (by simp [go_sem])))
  have s2 := (two_cells (v0 := .int .i64 P.1) (v1 := .int .i64 P.2.1) l4 l5).1
  have s3 := (two_cells (v0 := .int .i64 P.1) (v1 := .int .i64 P.2.1) l4 l5).2
  refine bodyPost_ret (v := .tuple #[.agg #[.int .i64 P.1, .int .i64 P.2.1], .int .i64 P.2.2]) (by simp [results, Try.results50, go_sem, s2, s3]) rfl ⟨rfl, ?_⟩
  have hBW := (((below_new w (.cells #[.int .i64 an, .int .i64 ad] 39)).alloc (by simp) (.cells #[.int .i64 bn, .int .i64 bd] 39)).alloc (by simp <;> omega) (.cells #[.int .i64 0, .int .i64 0] 39)).trans (hb4.mono (by simp <;> omega))
  exact (hBW.setCell (p := ⟨w.heap.size + 1 + 1, 0, none⟩) (by simp <;> omega) _).setCell (p := ⟨w.heap.size + 1 + 1, 1, none⟩) (by simp <;> omega) _

set_option maxRecDepth 100000 in
set_option maxHeartbeats 8000000 in
theorem divP_any (an ad bn bd : Int) (va : validF an ad = true) (vb : validF bn bd = true) (hn : 0 < bn) (w : World) :
    Calls Try.prog 50 #[.agg #[.int .i64 an, .int .i64 ad], .agg #[.int .i64 bn, .int .i64 bd]] w fun e w' => e = .returned (.tuple #[.agg #[.int .i64 (mulP an ad bd bn).1, .int .i64 (mulP an ad bd bn).2.1], .int .i64 (mulP an ad bd bn).2.2]) ∧ Below w.heap.size w w' := by
  obtain ⟨P, hP⟩ : ∃ P, mulP an ad bd bn = P := ⟨_, rfl⟩
  have HPP := Lib.hid hP
  rw [hP]
  clear hP
  obtain ⟨b1, b2, b3, b4, b5⟩ := (validF_iff _ _).1 vb
  have nz : (bn == 0) = false := by simp; omega
  have dn : decide (bn < 0) = false := decide_eq_false (by omega)
  have HVA := Lib.hid va
  have HVB := Lib.hid vb
  have HC := Lib.hid (mul_any an ad bd bn va (valid_flip vb hn))
  clear va vb b5
  go_enter Try.func50, Try.ntmps50
  go_wp2_with (first
    | (go_at_call 57; (with_reducible refine (valid_any an ad _).mono ?_); rintro e w1 ⟨rfl, hb1⟩; rw [HVA.out]; have z0 : w1.cell? ⟨w.heap.size, 0, none⟩ = some (.int .i64 an) := (hb1.cell (p := ⟨w.heap.size, 0, none⟩) (by simp <;> omega)).trans (by simp [go_sem, World.cell?_alloc_past]); have z1 : w1.cell? ⟨w.heap.size, 1, none⟩ = some (.int .i64 ad) := (hb1.cell (p := ⟨w.heap.size, 1, none⟩) (by simp <;> omega)).trans (by simp [go_sem, World.cell?_alloc_past]); have z2 : w1.cell? ⟨w.heap.size + 1, 0, none⟩ = some (.int .i64 bn) := (hb1.cell (p := ⟨w.heap.size + 1, 0, none⟩) (by simp <;> omega)).trans (by simp [go_sem, World.cell?_alloc_past]); have z3 : w1.cell? ⟨w.heap.size + 1, 1, none⟩ = some (.int .i64 bd) := (hb1.cell (p := ⟨w.heap.size + 1, 1, none⟩) (by simp <;> omega)).trans (by simp [go_sem, World.cell?_alloc_past]))
    | (go_at_call 57; (with_reducible refine (valid_any bn bd _).mono ?_); rintro e w2 ⟨rfl, hb2⟩; rw [HVB.out]; have z4 : w2.cell? ⟨w.heap.size, 0, none⟩ = some (.int .i64 an) := (hb2.cell (p := ⟨w.heap.size, 0, none⟩) (World.block_lt_of_cell? _ _ z0)).trans z0; have z5 : w2.cell? ⟨w.heap.size, 1, none⟩ = some (.int .i64 ad) := (hb2.cell (p := ⟨w.heap.size, 1, none⟩) (World.block_lt_of_cell? _ _ z1)).trans z1; have z6 : w2.cell? ⟨w.heap.size + 1, 0, none⟩ = some (.int .i64 bn) := (hb2.cell (p := ⟨w.heap.size + 1, 0, none⟩) (World.block_lt_of_cell? _ _ z2)).trans z2; have z7 : w2.cell? ⟨w.heap.size + 1, 1, none⟩ = some (.int .i64 bd) := (hb2.cell (p := ⟨w.heap.size + 1, 1, none⟩) (World.block_lt_of_cell? _ _ z3)).trans z3)
    | (go_at_call 36; (with_reducible refine (HC.out _).mono ?_); rintro e w3 ⟨rfl, hb3⟩; rw [HPP.out]; have hb4 := hb1.trans ((hb2.trans (hb3.mono hb2.size)).mono hb1.size); have l4 : w3.cell? ⟨w.heap.size + 1 + 1, 0, none⟩ = some (.int .i64 0) := (hb4.cell (p := ⟨w.heap.size + 1 + 1, 0, none⟩) (by simp <;> omega)).trans (by simp [go_sem]); have l5 : w3.cell? ⟨w.heap.size + 1 + 1, 1, none⟩ = some (.int .i64 0) := (hb4.cell (p := ⟨w.heap.size + 1 + 1, 1, none⟩) (by simp <;> omega)).trans (by simp [go_sem]); have l6 : w3.frozen? ⟨w.heap.size + 1 + 1, 0, none⟩ = false := (hb4.frozen (p := ⟨w.heap.size + 1 + 1, 0, none⟩) (by simp <;> omega)).trans (by simp [go_sem]); have l7 : w3.frozen? ⟨w.heap.size + 1 + 1, 1, none⟩ = false := (hb4.frozen (p := ⟨w.heap.size + 1 + 1, 1, none⟩) (by simp <;> omega)).trans (by simp [go_sem])))
  have s2 := (two_cells (v0 := .int .i64 P.1) (v1 := .int .i64 P.2.1) l4 l5).1
  have s3 := (two_cells (v0 := .int .i64 P.1) (v1 := .int .i64 P.2.1) l4 l5).2
  refine bodyPost_ret (v := .tuple #[.agg #[.int .i64 P.1, .int .i64 P.2.1], .int .i64 P.2.2]) (by simp [results, Try.results50, go_sem, s2, s3]) rfl ⟨rfl, ?_⟩
  have hBW := (((below_new w (.cells #[.int .i64 an, .int .i64 ad] 39)).alloc (by simp) (.cells #[.int .i64 bn, .int .i64 bd] 39)).alloc (by simp <;> omega) (.cells #[.int .i64 0, .int .i64 0] 39)).trans (hb4.mono (by simp <;> omega))
  exact (hBW.setCell (p := ⟨w.heap.size + 1 + 1, 0, none⟩) (by simp <;> omega) _).setCell (p := ⟨w.heap.size + 1 + 1, 1, none⟩) (by simp <;> omega) _
end Go.Proofs.Ytlgpolfbilkmbaa
