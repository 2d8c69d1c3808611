/-
  THE WALKS of the closures of profile.Curve: keep, whole, over.
-/
import Derived.Test.YtlgpolfbilkmbaaRat4
import Derived.Test.YtlgpolfbilkmbaaTop
import Derived.Laws.EntriesVeiled
namespace Go.Proofs.Ytlgpolfbilkmbaa
open Go.RowKit Go.Shelf

theorem below_s' {W w : World} (p : Addr) (u : Value) (h : Below W.heap.size W w) (hp : W.heap.size ≤ p.block) : Below W.heap.size W (w.setCell p u) := h.setCell hp u

set_option maxRecDepth 100000 in
set_option maxHeartbeats 4000000 in
theorem keep_any (n d : Int) (p : Value) (w : World) :
    Calls Try.prog 46 #[.agg #[.int .i64 n, .int .i64 d], .int .i64 0, p] w fun e w' => e = .returned (.agg #[.int .i64 n, .int .i64 d]) ∧ Below w.heap.size w w' := by
  go_enter Try.func46, Try.ntmps46
  go_wp2_with fail
  refine bodyPost_ret (v := .agg #[.int .i64 n, .int .i64 d]) (by simp [results, Try.results46, go_sem]) rfl ⟨rfl, ?_⟩
  exact (below_new _ _).alloc (by simp) _

set_option maxRecDepth 100000 in
set_option maxHeartbeats 4000000 in
theorem whole_any (n : Int) (w : World) :
    Calls Try.prog 47 #[.int .i64 n] w fun e w' => e = .returned (.agg #[.int .i64 n, .int .i64 1]) ∧ Below w.heap.size w w' := by
  go_enter Try.func47, Try.ntmps47
  go_wp2_with fail
  refine bodyPost_ret (v := .agg #[.int .i64 n, .int .i64 1]) (by simp [results, Try.results47, go_sem]) rfl ⟨rfl, ?_⟩
  exact below_new _ _

/-- A call of ratio that returns a fraction and no error. -/
def Gives (f : FuncId) (args : Array Value) (n d : Int) : Prop := ∀ w, Calls Try.prog f args w fun e w' => e = .returned (.tuple #[.agg #[.int .i64 n, .int .i64 d], .int .i64 0]) ∧ Below w.heap.size w w'
theorem Gives.at {f : FuncId} {args : Array Value} {n d : Int} (h : Gives f args n d) (w : World) : Calls Try.prog f args w fun e w' => e = .returned (.tuple #[.agg #[.int .i64 n, .int .i64 d], .int .i64 0]) ∧ Below w.heap.size w w' := h w

set_option maxRecDepth 100000 in
set_option maxHeartbeats 4000000 in
theorem over_any (n d n' d' : Int) (hm : Gives 35 #[.int .i64 n, .int .i64 d] n' d') (B : Nat) (p : Value) (w : World) (hc : w.cell? ⟨B, 0, none⟩ = some (.func (.func 46) #[] #[p])) :
    Calls Try.prog 48 #[.int .i64 n, .int .i64 d, .pointer (some ⟨B, 0, none⟩)] w fun e w' => e = .returned (.agg #[.int .i64 n', .int .i64 d']) ∧ Below w.heap.size w w' := by
  have HM := Lib.hid hm
  clear hm
  have hz : B < w.heap.size := World.block_lt_of_cell? _ _ hc
  go_enter Try.func48, Try.ntmps48
  go_wp2_with fail
  have k0 : (w.alloc (.cells #[.int .i64 0, .int .i64 0] 39)).cell? ⟨B, 0, none⟩ = some (.func (.func 46) #[] #[p]) := (World.cell?_alloc_lt _ _ _ hz).trans hc
  have hb0 := below_new w (.cells #[.int .i64 0, .int .i64 0] 39)
  have hs0 : w.heap.size < (w.alloc (.cells #[.int .i64 0, .int .i64 0] 39)).heap.size := by simp
  have HN : Hid (∀ w', Below (w.alloc (.cells #[.int .i64 0, .int .i64 0] 39)).heap.size (w.alloc (.cells #[.int .i64 0, .int .i64 0] 39)) w' → w'.cell? ⟨w.heap.size, 0, none⟩ = some (.int .i64 0) ∧ w'.cell? ⟨w.heap.size, 1, none⟩ = some (.int .i64 0) ∧ w'.frozen? ⟨w.heap.size, 0, none⟩ = false ∧ w'.frozen? ⟨w.heap.size, 1, none⟩ = false) := Lib.hid fun w' h =>
    ⟨(h.cell (p := ⟨w.heap.size, 0, none⟩) (by simp)).trans (by simp), (h.cell (p := ⟨w.heap.size, 1, none⟩) (by simp)).trans (by simp), (h.frozen (p := ⟨w.heap.size, 0, none⟩) (by simp)).trans (by simp), (h.frozen (p := ⟨w.heap.size, 1, none⟩) (by simp)).trans (by simp)⟩
  generalize w.alloc (.cells #[.int .i64 0, .int .i64 0] 39) = W0 at *
  have HS : Hid (∀ w', Below W0.heap.size W0 w' → Below w.heap.size w w' ∧ w'.cell? ⟨B, 0, none⟩ = some (.func (.func 46) #[] #[p])) := Lib.hid fun w' h => ⟨hb0.trans (h.mono hb0.size), (h.cell (p := ⟨B, 0, none⟩) (by simp <;> omega)).trans k0⟩
  have hbz := Below.refl W0.heap.size W0
  clear hc
  go_region_held3 (fun w' => Below w.heap.size w w' ∧ w'.cell? ⟨B, 0, none⟩ = some (.func (.func 46) #[] #[p]))
    (first | exact HS.out _ hbz.drew | exact HS.out _ hx1 | exact HS.out _ hx2 | exact ⟨below_s' _ _ (below_s' _ _ (HS.out _ hx2).1 (Nat.le_refl _)) (Nat.le_refl _), (two_other (Nat.ne_of_lt hz) _ _ _).trans (HS.out _ hx2).2⟩)
    (first
      | (go_at_call 35; go_split_ands; (with_reducible refine (HM.out.at _).mono ?_); rintro e w1 ⟨rfl, hb1⟩; have hx1 : Below W0.heap.size W0 w1 := hbz.drew.trans hb1)
      | (go_at_call 46; go_split_ands; (with_reducible refine (keep_any n' d' _ _).mono ?_); rintro e w2 ⟨rfl, hb2⟩; have hx2 := held_next (wr := W0) hx1 hb2; obtain ⟨u0, u1, u2, u3⟩ := HN.out _ hx2))
  go_wp2_with fail
  have s2 := (two_cells (v0 := .int .i64 n') (v1 := .int .i64 d') u0 u1).1
  have s3 := (two_cells (v0 := .int .i64 n') (v1 := .int .i64 d') u0 u1).2
  refine bodyPost_ret (v := .agg #[.int .i64 n', .int .i64 d']) (by simp [results, Try.results48, go_sem, s2, s3]) rfl ⟨rfl, ?_⟩
  exact below_s' _ _ (below_s' _ _ (HS.out _ hx2).1 (Nat.le_refl _)) (Nat.le_refl _)
end Go.Proofs.Ytlgpolfbilkmbaa
