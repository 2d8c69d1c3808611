/-
  THE WALK of ratio.Sub in general.
-/
import Derived.Test.YtlgpolfbilkmbaaRat9
import Derived.Test.YtlgpolfbilkmbaaRat6
namespace Go.Proofs.Ytlgpolfbilkmbaa
open Go.RowKit Go.Shelf
set_option maxRecDepth 100000 in
set_option maxHeartbeats 8000000 in
theorem sub_all (an ad bn bd : Int) (va : validF an ad = true) (vb : validF bn bd = true) (w : World) :
    Calls Try.prog 49 #[.agg #[.int .i64 an, .int .i64 ad], .agg #[.int .i64 bn, .int .i64 bd]] w fun e w' => e = .returned (.tuple #[.agg #[.int .i64 (addP an ad (-bn) bd).1, .int .i64 (addP an ad (-bn) bd).2.1], .int .i64 (addP an ad (-bn) bd).2.2]) ∧ Below w.heap.size w w' := by
  obtain ⟨P, hP⟩ : ∃ P, addP an ad (-bn) bd = P := ⟨_, rfl⟩
  have HPP := Lib.hid hP
  rw [hP]
  clear hP
  obtain ⟨b1, b2, b3, b4, b5⟩ := (validF_iff _ _).1 vb
  have wn : IntKind.i64.wrap (-bn) = -bn := IntWalk.i64_in _ (by omega)
  have HVA := Lib.hid va
  have HVB := Lib.hid vb
  have HC := Lib.hid (add_all an ad (-bn) bd va (valid_neg vb))
  clear va vb b5
  go_enter Try.func49, Try.ntmps49
  go_wp2_with (first
    | (go_at_call 57; (with_reducible refine (valid_any an ad _).mono ?_); rintro e w1 ⟨rfl, hb1⟩; rw [HVA.out]; have z0 : w1.cell? ⟨w.heap.size, 0, none⟩ = some (.int .i64 an) := (hb1.cell (p := ⟨w.heap.size, 0, none⟩) (by simp <;> omega)).trans (by simp [go_sem, World.cell?_alloc_past]); have z1 : w1.cell? ⟨w.heap.size, 1, none⟩ = some (.int .i64 ad) := (hb1.cell (p := ⟨w.heap.size, 1, none⟩) (by simp <;> omega)).trans (by simp [go_sem, World.cell?_alloc_past]); have z2 : w1.cell? ⟨w.heap.size + 1, 0, none⟩ = some (.int .i64 bn) := (hb1.cell (p := ⟨w.heap.size + 1, 0, none⟩) (by simp <;> omega)).trans (by simp [go_sem, World.cell?_alloc_past]); have z3 : w1.cell? ⟨w.heap.size + 1, 1, none⟩ = some (.int .i64 bd) := (hb1.cell (p := ⟨w.heap.size + 1, 1, none⟩) (by simp <;> omega)).trans (by simp [go_sem, World.cell?_alloc_past]))
    | (go_at_call 57; (with_reducible refine (valid_any bn bd _).mono ?_); rintro e w2 ⟨rfl, hb2⟩; rw [HVB.out]; have z4 : w2.cell? ⟨w.heap.size, 0, none⟩ = some (.int .i64 an) := (hb2.cell (p := ⟨w.heap.size, 0, none⟩) (World.block_lt_of_cell? _ _ z0)).trans z0; have z5 : w2.cell? ⟨w.heap.size, 1, none⟩ = some (.int .i64 ad) := (hb2.cell (p := ⟨w.heap.size, 1, none⟩) (World.block_lt_of_cell? _ _ z1)).trans z1; have z6 : w2.cell? ⟨w.heap.size + 1, 0, none⟩ = some (.int .i64 bn) := (hb2.cell (p := ⟨w.heap.size + 1, 0, none⟩) (World.block_lt_of_cell? _ _ z2)).trans z2; have z7 : w2.cell? ⟨w.heap.size + 1, 1, none⟩ = some (.int .i64 bd) := (hb2.cell (p := ⟨w.heap.size + 1, 1, none⟩) (World.block_lt_of_cell? _ _ z3)).trans z3)
    | (go_at_call 32; (with_reducible refine (HC.out _).mono ?_); rintro e w3 ⟨rfl, hb3⟩; rw [HPP.out]; have hb4 := hb1.trans ((hb2.trans (hb3.mono hb2.size)).mono hb1.size); have l4 : w3.cell? ⟨w.heap.size + 1 + 1, 0, none⟩ = some (.int .i64 0) := (hb4.cell (p := ⟨w.heap.size + 1 + 1, 0, none⟩) (by simp <;> omega)).trans (by simp [go_sem]); have l5 : w3.cell? ⟨w.heap.size + 1 + 1, 1, none⟩ = some (.int .i64 0) := (hb4.cell (p := ⟨w.heap.size + 1 + 1, 1, none⟩) (by simp <;> omega)).trans (by simp [go_sem]); have l6 : w3.frozen? ⟨w.heap.size + 1 + 1, 0, none⟩ = false := (hb4.frozen (p := ⟨w.heap.size + 1 + 1, 0, none⟩) (by simp <;> omega)).trans (by simp [go_sem]); have l7 : w3.frozen? ⟨w.heap.size + 1 + 1, 1, none⟩ = false := (hb4.frozen (p := ⟨w.heap.size + 1 + 1, 1, none⟩) (by simp <;> omega)).trans (by simp [go_sem])))
  have s2 := (two_cells (v0 := .int .i64 P.1) (v1 := .int .i64 P.2.1) l4 l5).1
  have s3 := (two_cells (v0 := .int .i64 P.1) (v1 := .int .i64 P.2.1) l4 l5).2
  refine bodyPost_ret (v := .tuple #[.agg #[.int .i64 P.1, .int .i64 P.2.1], .int .i64 P.2.2]) (by simp [results, Try.results49, go_sem, s2, s3]) rfl ⟨rfl, ?_⟩
  have hBW := (((below_new w (.cells #[.int .i64 an, .int .i64 ad] 39)).alloc (by simp) (.cells #[.int .i64 bn, .int .i64 bd] 39)).alloc (by simp <;> omega) (.cells #[.int .i64 0, .int .i64 0] 39)).trans (hb4.mono (by simp <;> omega))
  exact (hBW.setCell (p := ⟨w.heap.size + 1 + 1, 0, none⟩) (by simp <;> omega) _).setCell (p := ⟨w.heap.size + 1 + 1, 1, none⟩) (by simp <;> omega) _

end Go.Proofs.Ytlgpolfbilkmbaa
