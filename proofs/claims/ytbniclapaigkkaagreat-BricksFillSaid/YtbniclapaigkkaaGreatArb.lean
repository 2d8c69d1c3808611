/-
  THE WALKS of arbor's there, Needed, Balance, and of bricks.Fill.
-/
import Derived.Test.YtbniclapaigkkaaGreatRef23
import Derived.Test.YtbniclapaigkkaaGreatNearA
namespace Go.Proofs.YtbniclapaigkkaaGreat
open Go.RowKit Go.Shelf
attribute [local go_sem] Oper.semAt_some
def restTo (L : List BrickR) : Nat → Int
  | 0 => 0
  | k + 1 => restTo L k + (bg L k).weight * (bg L k).count
theorem restTo_cons (x : BrickR) (t : List BrickR) : ∀ k, restTo (x :: t) (k + 1) = x.weight * x.count + restTo t k
  | 0 => by simp [restTo, bg]
  | k + 1 => by
    have := restTo_cons x t k
    have e : bg (x :: t) (k + 1) = bg t k := rfl
    rw [restTo, this, e, restTo]
    omega
theorem restTo_all : ∀ (L : List BrickR), restTo L L.length = restC L
  | [] => rfl
  | x :: t => by rw [List.length_cons, restTo_cons, restTo_all t]; rfl
theorem restTo_bd {L : List BrickR} (ok : BrickOK L) : ∀ k : Nat, k ≤ L.length → (0 ≤ restTo L k ∧ restTo L k ≤ 62914560 * (k : Int)) ∧ 0 ≤ cntTo L k ∧ cntTo L k ≤ 60 * (k : Int)
  | 0, _ => by simp [restTo, cntTo]
  | k + 1, hk => by
    obtain ⟨⟨a, b⟩, c, d⟩ := restTo_bd ok k (by omega)
    obtain ⟨e, f, g, h⟩ := ok_bg ok (show k < L.length by omega)
    have m1 : 0 ≤ (bg L k).weight * (bg L k).count := Int.mul_nonneg (by omega) g
    have m2 : (bg L k).weight * (bg L k).count ≤ 1048576 * 60 := Int.mul_le_mul f h g (by omega)
    simp only [restTo, cntTo]
    omega
set_option maxRecDepth 100000 in
set_option maxHeartbeats 8000000 in
theorem there_any (r : SetR) (w : World) (ok : BrickOK r.bricks) (hl : r.bricks.length ≤ 8) (hs : Bricks w.heap.size w r.ba r.bricks) :
    Calls Tryz.prog 36 #[.agg #[.string r.name, .int .i64 r.depth, .int .i64 r.low, .int .i64 r.high, .int .i64 r.length, .slice r.la r.lines.length r.lc, .int .i64 r.pipe, .int .i64 r.arbor, .int .i64 r.purchase, .int .i64 r.most, .int .i64 r.brake, .slice r.ia r.items.length r.ic, .slice r.ba r.bricks.length r.bc]] w fun e w' => e = .returned (.tuple #[.int .i64 (restC r.bricks), .int .i64 (cntTo r.bricks r.bricks.length)]) ∧ Below w.heap.size w w' := by
  have hb0 := below_new w (.cells #[.string r.name, .int .i64 r.depth, .int .i64 r.low, .int .i64 r.high, .int .i64 r.length, .slice r.la r.lines.length r.lc, .int .i64 r.pipe, .int .i64 r.arbor, .int .i64 r.purchase, .int .i64 r.most, .int .i64 r.brake, .slice r.ia r.items.length r.ic, .slice r.ba r.bricks.length r.bc] 26)
  have HX : Hid (∀ wx, Below (w.alloc (.cells #[.string r.name, .int .i64 r.depth, .int .i64 r.low, .int .i64 r.high, .int .i64 r.length, .slice r.la r.lines.length r.lc, .int .i64 r.pipe, .int .i64 r.arbor, .int .i64 r.purchase, .int .i64 r.most, .int .i64 r.brake, .slice r.ia r.items.length r.ic, .slice r.ba r.bricks.length r.bc] 26)).heap.size (w.alloc (.cells #[.string r.name, .int .i64 r.depth, .int .i64 r.low, .int .i64 r.high, .int .i64 r.length, .slice r.la r.lines.length r.lc, .int .i64 r.pipe, .int .i64 r.arbor, .int .i64 r.purchase, .int .i64 r.most, .int .i64 r.brake, .slice r.ia r.items.length r.ic, .slice r.ba r.bricks.length r.bc] 26)) wx → Below w.heap.size w wx) := Lib.hid fun wx h => mono_in _ h
  have HS : Hid (∀ wx, Below (w.alloc (.cells #[.string r.name, .int .i64 r.depth, .int .i64 r.low, .int .i64 r.high, .int .i64 r.length, .slice r.la r.lines.length r.lc, .int .i64 r.pipe, .int .i64 r.arbor, .int .i64 r.purchase, .int .i64 r.most, .int .i64 r.brake, .slice r.ia r.items.length r.ic, .slice r.ba r.bricks.length r.bc] 26)).heap.size (w.alloc (.cells #[.string r.name, .int .i64 r.depth, .int .i64 r.low, .int .i64 r.high, .int .i64 r.length, .slice r.la r.lines.length r.lc, .int .i64 r.pipe, .int .i64 r.arbor, .int .i64 r.purchase, .int .i64 r.most, .int .i64 r.brake, .slice r.ia r.items.length r.ic, .slice r.ba r.bricks.length r.bc] 26)) wx → Bricks wx.heap.size wx r.ba r.bricks) := Lib.hid fun wx h => (hs.grow hb0).grow h
  have HAT : Hid (∀ wx, Below (w.alloc (.cells #[.string r.name, .int .i64 r.depth, .int .i64 r.low, .int .i64 r.high, .int .i64 r.length, .slice r.la r.lines.length r.lc, .int .i64 r.pipe, .int .i64 r.arbor, .int .i64 r.purchase, .int .i64 r.most, .int .i64 r.brake, .slice r.ia r.items.length r.ic, .slice r.ba r.bricks.length r.bc] 26)).heap.size (w.alloc (.cells #[.string r.name, .int .i64 r.depth, .int .i64 r.low, .int .i64 r.high, .int .i64 r.length, .slice r.la r.lines.length r.lc, .int .i64 r.pipe, .int .i64 r.arbor, .int .i64 r.purchase, .int .i64 r.most, .int .i64 r.brake, .slice r.ia r.items.length r.ic, .slice r.ba r.bricks.length r.bc] 26)) wx → SetAt wx w.heap.size r) := Lib.hid fun wx h => (SetAt.new w r 26).below h (by simp)
  clear hb0 hs
  have HBD := Lib.hid (restTo_bd ok)
  have HOK := Lib.hid (fun k (hk : k < r.bricks.length) => ok_bg ok hk)
  clear ok
  go_enter Tryz.func36, Tryz.ntmps36
  go_wp2_with fail
  generalize (w.alloc (.cells #[.string r.name, .int .i64 r.depth, .int .i64 r.low, .int .i64 r.high, .int .i64 r.length, .slice r.la r.lines.length r.lc, .int .i64 r.pipe, .int .i64 r.arbor, .int .i64 r.purchase, .int .i64 r.most, .int .i64 r.brake, .slice r.ia r.items.length r.ic, .slice r.ba r.bricks.length r.bc] 26)) = W0 at *
  have hB1 := Below.refl W0.heap.size W0
  have x12 : ∀ wx, Below W0.heap.size W0 wx → wx.cell? ⟨w.heap.size, 12, none⟩ = some (.slice r.ba r.bricks.length r.bc) := fun wx h => (HAT.out wx h).2.2.2.2.2.2.2.2.2.2.2.2
  go_loopw [2, 3, 9] (fun s c i wr => ∃ k : Nat, k ≤ r.bricks.length ∧ i = .int .i64 k ∧ s = .int .i64 (restTo r.bricks k) ∧ c = .int .i64 (cntTo r.bricks k) ∧ Below W0.heap.size W0 wr) (fun _ _ i _ => r.bricks.length - (intOf i).toNat)
  case atStart => exact ⟨0, Nat.zero_le _, rfl, rfl, rfl, hB1⟩
  case round =>
    obtain ⟨k, hk, rfl, rfl, rfl, hB⟩ := hrel
    by_cases hlt : k < r.bricks.length
    · obtain ⟨b, off, hba, hb, hc⟩ := (HS.out _ hB) (by omega)
      rw [hba]
      obtain ⟨c0, c1, c2⟩ := hc k hlt
      have hbd := HBD.out k hk
      have hbd2 := HBD.out (k + 1) hlt
      have hok := HOK.out k hlt
      have HC : Hid (restTo r.bricks (k + 1) = restTo r.bricks k + (bg r.bricks k).weight * (bg r.bricks k).count ∧ cntTo r.bricks (k + 1) = cntTo r.bricks k + (bg r.bricks k).count) := Lib.hid ⟨rfl, rfl⟩
      rw [HC.out.1, HC.out.2] at hbd2
      generalize restTo r.bricks k = s at *
      generalize cntTo r.bricks k = c at *
      generalize bg r.bricks k = x at *
      have m1 : 0 ≤ x.weight * x.count := Int.mul_nonneg (by omega) (by omega)
      have t0 : IntKind.i64.wrap (x.weight * x.count) = x.weight * x.count := IntWalk.i64_in _ (by omega)
      have t1 : IntKind.i64.wrap (s + x.weight * x.count) = s + x.weight * x.count := IntWalk.i64_in _ (by omega)
      have t2 : IntKind.i64.wrap (c + x.count) = c + x.count := IntWalk.i64_in _ (by omega)
      clear hc hba
      go_wp2_with fail
      go_roundw
      case rel => exact ⟨k + 1, by omega, by go_num, by rw [HC.out.1], by rw [HC.out.2], hB.alloc hB.size _⟩
      case measure => simp [intOf]; omega
    · obtain rfl : k = r.bricks.length := by omega
      have HF := Lib.hid (restTo_all r.bricks)
      go_wp2_with fail
      go_ret2
      exact ⟨by rw [HF.out]; rfl, HX.out _ hB⟩
def neededB (r : SetR) : Int := if setB r = true then neededS r else 0
set_option maxRecDepth 100000 in
set_option maxHeartbeats 8000000 in
theorem needed25_any (r : SetR) (w : World) (hs : SetIn w r) :
    Calls Tryz.prog 23 #[.agg #[.string r.name, .int .i64 r.depth, .int .i64 r.low, .int .i64 r.high, .int .i64 r.length, .slice r.la r.lines.length r.lc, .int .i64 r.pipe, .int .i64 r.arbor, .int .i64 r.purchase, .int .i64 r.most, .int .i64 r.brake, .slice r.ia r.items.length r.ic, .slice r.ba r.bricks.length r.bc]] w fun e w' => e = .returned (.tuple #[.int .i64 (neededB r), .int .i64 (weightEr r)]) ∧ Below w.heap.size w w' := by
  have hb0 := below_new w (.cells #[.string r.name, .int .i64 r.depth, .int .i64 r.low, .int .i64 r.high, .int .i64 r.length, .slice r.la r.lines.length r.lc, .int .i64 r.pipe, .int .i64 r.arbor, .int .i64 r.purchase, .int .i64 r.most, .int .i64 r.brake, .slice r.ia r.items.length r.ic, .slice r.ba r.bricks.length r.bc] 26)
  have HX : Hid (∀ wx, Below (w.alloc (.cells #[.string r.name, .int .i64 r.depth, .int .i64 r.low, .int .i64 r.high, .int .i64 r.length, .slice r.la r.lines.length r.lc, .int .i64 r.pipe, .int .i64 r.arbor, .int .i64 r.purchase, .int .i64 r.most, .int .i64 r.brake, .slice r.ia r.items.length r.ic, .slice r.ba r.bricks.length r.bc] 26)).heap.size (w.alloc (.cells #[.string r.name, .int .i64 r.depth, .int .i64 r.low, .int .i64 r.high, .int .i64 r.length, .slice r.la r.lines.length r.lc, .int .i64 r.pipe, .int .i64 r.arbor, .int .i64 r.purchase, .int .i64 r.most, .int .i64 r.brake, .slice r.ia r.items.length r.ic, .slice r.ba r.bricks.length r.bc] 26)) wx → Below w.heap.size w wx) := Lib.hid fun wx h => mono_in _ h
  have HS : Hid (∀ wx, Below (w.alloc (.cells #[.string r.name, .int .i64 r.depth, .int .i64 r.low, .int .i64 r.high, .int .i64 r.length, .slice r.la r.lines.length r.lc, .int .i64 r.pipe, .int .i64 r.arbor, .int .i64 r.purchase, .int .i64 r.most, .int .i64 r.brake, .slice r.ia r.items.length r.ic, .slice r.ba r.bricks.length r.bc] 26)).heap.size (w.alloc (.cells #[.string r.name, .int .i64 r.depth, .int .i64 r.low, .int .i64 r.high, .int .i64 r.length, .slice r.la r.lines.length r.lc, .int .i64 r.pipe, .int .i64 r.arbor, .int .i64 r.purchase, .int .i64 r.most, .int .i64 r.brake, .slice r.ia r.items.length r.ic, .slice r.ba r.bricks.length r.bc] 26)) wx → SetIn wx r) := Lib.hid fun wx h => (hs.grow hb0).grow h
  have HAT : Hid (∀ wx, Below (w.alloc (.cells #[.string r.name, .int .i64 r.depth, .int .i64 r.low, .int .i64 r.high, .int .i64 r.length, .slice r.la r.lines.length r.lc, .int .i64 r.pipe, .int .i64 r.arbor, .int .i64 r.purchase, .int .i64 r.most, .int .i64 r.brake, .slice r.ia r.items.length r.ic, .slice r.ba r.bricks.length r.bc] 26)).heap.size (w.alloc (.cells #[.string r.name, .int .i64 r.depth, .int .i64 r.low, .int .i64 r.high, .int .i64 r.length, .slice r.la r.lines.length r.lc, .int .i64 r.pipe, .int .i64 r.arbor, .int .i64 r.purchase, .int .i64 r.most, .int .i64 r.brake, .slice r.ia r.items.length r.ic, .slice r.ba r.bricks.length r.bc] 26)) wx → SetAt wx w.heap.size r) := Lib.hid fun wx h => (SetAt.new w r 26).below h (by simp)
  clear hb0 hs
  cases hv : setB r
  · have HE : Hid (weightB r = 0 ∧ weightEr r = 1) := Lib.hid (by unfold weightB weightEr; rw [hv]; exact ⟨rfl, rfl⟩)
    have HN : Hid (neededB r = 0) := Lib.hid (by unfold neededB; rw [hv]; rfl)
    rw [HN.out, HE.out.2]
    clear hv
    go_enter Tryz.func23, Tryz.ntmps23
    go_wp2_with fail
    generalize (w.alloc (.cells #[.string r.name, .int .i64 r.depth, .int .i64 r.low, .int .i64 r.high, .int .i64 r.length, .slice r.la r.lines.length r.lc, .int .i64 r.pipe, .int .i64 r.arbor, .int .i64 r.purchase, .int .i64 r.most, .int .i64 r.brake, .slice r.ia r.items.length r.ic, .slice r.ba r.bricks.length r.bc] 26)) = W0 at *
    have hB1 := Below.refl W0.heap.size W0
    have x0 : ∀ wx, Below W0.heap.size W0 wx → wx.cell? ⟨w.heap.size, 0, none⟩ = some (.string r.name) := fun wx h => (HAT.out wx h).1
    have x1 : ∀ wx, Below W0.heap.size W0 wx → wx.cell? ⟨w.heap.size, 1, none⟩ = some (.int .i64 r.depth) := fun wx h => (HAT.out wx h).2.1
    have x2 : ∀ wx, Below W0.heap.size W0 wx → wx.cell? ⟨w.heap.size, 2, none⟩ = some (.int .i64 r.low) := fun wx h => (HAT.out wx h).2.2.1
    have x3 : ∀ wx, Below W0.heap.size W0 wx → wx.cell? ⟨w.heap.size, 3, none⟩ = some (.int .i64 r.high) := fun wx h => (HAT.out wx h).2.2.2.1
    have x4 : ∀ wx, Below W0.heap.size W0 wx → wx.cell? ⟨w.heap.size, 4, none⟩ = some (.int .i64 r.length) := fun wx h => (HAT.out wx h).2.2.2.2.1
    have x5 : ∀ wx, Below W0.heap.size W0 wx → wx.cell? ⟨w.heap.size, 5, none⟩ = some (.slice r.la r.lines.length r.lc) := fun wx h => (HAT.out wx h).2.2.2.2.2.1
    have x6 : ∀ wx, Below W0.heap.size W0 wx → wx.cell? ⟨w.heap.size, 6, none⟩ = some (.int .i64 r.pipe) := fun wx h => (HAT.out wx h).2.2.2.2.2.2.1
    have x7 : ∀ wx, Below W0.heap.size W0 wx → wx.cell? ⟨w.heap.size, 7, none⟩ = some (.int .i64 r.arbor) := fun wx h => (HAT.out wx h).2.2.2.2.2.2.2.1
    have x8 : ∀ wx, Below W0.heap.size W0 wx → wx.cell? ⟨w.heap.size, 8, none⟩ = some (.int .i64 r.purchase) := fun wx h => (HAT.out wx h).2.2.2.2.2.2.2.2.1
    have x9 : ∀ wx, Below W0.heap.size W0 wx → wx.cell? ⟨w.heap.size, 9, none⟩ = some (.int .i64 r.most) := fun wx h => (HAT.out wx h).2.2.2.2.2.2.2.2.2.1
    have x10 : ∀ wx, Below W0.heap.size W0 wx → wx.cell? ⟨w.heap.size, 10, none⟩ = some (.int .i64 r.brake) := fun wx h => (HAT.out wx h).2.2.2.2.2.2.2.2.2.2.1
    have x11 : ∀ wx, Below W0.heap.size W0 wx → wx.cell? ⟨w.heap.size, 11, none⟩ = some (.slice r.ia r.items.length r.ic) := fun wx h => (HAT.out wx h).2.2.2.2.2.2.2.2.2.2.2.1
    have x12 : ∀ wx, Below W0.heap.size W0 wx → wx.cell? ⟨w.heap.size, 12, none⟩ = some (.slice r.ba r.bricks.length r.bc) := fun wx h => (HAT.out wx h).2.2.2.2.2.2.2.2.2.2.2.2
    go_wp2_with (first
      | (go_at_call 44; (with_reducible refine (batweight_any r _ (HS.out _ hB1)).mono ?_); rintro e w2 ⟨rfl, hb⟩; rw [HE.out.1, HE.out.2]; have hB2 := hB1.trans (hb.mono hB1.size); clear hb))
    go_ret2
    exact ⟨rfl, HX.out _ hB2⟩
  · have HE : Hid (weightB r = weightS r ∧ weightEr r = 0) := Lib.hid (by unfold weightB weightEr; rw [hv]; exact ⟨rfl, rfl⟩)
    have HN : Hid (neededB r = weightS r * r.purchase - r.arbor) := Lib.hid (by unfold neededB; rw [hv]; rfl)
    have hk := setB_iff.1 hv
    have h1 := weight_bd hk
    have h2 := hk.purchase
    have h3 := hk.arbor
    have hb1 : 0 ≤ weightS r * r.purchase ∧ weightS r * r.purchase ≤ 2282909334 := by
      rcases (show r.purchase = 1 ∨ r.purchase = 2 by omega) with e | e <;> rw [e] <;> omega
    have s1 : IntKind.i64.wrap (weightS r * r.purchase) = weightS r * r.purchase := IntWalk.i64_in _ (by omega)
    have s2 : IntKind.i64.wrap (weightS r * r.purchase - r.arbor) = weightS r * r.purchase - r.arbor := IntWalk.i64_in _ (by omega)
    rw [HN.out, HE.out.2]
    clear hv hk hb1 h1 h2 h3
    go_enter Tryz.func23, Tryz.ntmps23
    go_wp2_with fail
    generalize (w.alloc (.cells #[.string r.name, .int .i64 r.depth, .int .i64 r.low, .int .i64 r.high, .int .i64 r.length, .slice r.la r.lines.length r.lc, .int .i64 r.pipe, .int .i64 r.arbor, .int .i64 r.purchase, .int .i64 r.most, .int .i64 r.brake, .slice r.ia r.items.length r.ic, .slice r.ba r.bricks.length r.bc] 26)) = W0 at *
    have hB1 := Below.refl W0.heap.size W0
    have x0 : ∀ wx, Below W0.heap.size W0 wx → wx.cell? ⟨w.heap.size, 0, none⟩ = some (.string r.name) := fun wx h => (HAT.out wx h).1
    have x1 : ∀ wx, Below W0.heap.size W0 wx → wx.cell? ⟨w.heap.size, 1, none⟩ = some (.int .i64 r.depth) := fun wx h => (HAT.out wx h).2.1
    have x2 : ∀ wx, Below W0.heap.size W0 wx → wx.cell? ⟨w.heap.size, 2, none⟩ = some (.int .i64 r.low) := fun wx h => (HAT.out wx h).2.2.1
    have x3 : ∀ wx, Below W0.heap.size W0 wx → wx.cell? ⟨w.heap.size, 3, none⟩ = some (.int .i64 r.high) := fun wx h => (HAT.out wx h).2.2.2.1
    have x4 : ∀ wx, Below W0.heap.size W0 wx → wx.cell? ⟨w.heap.size, 4, none⟩ = some (.int .i64 r.length) := fun wx h => (HAT.out wx h).2.2.2.2.1
    have x5 : ∀ wx, Below W0.heap.size W0 wx → wx.cell? ⟨w.heap.size, 5, none⟩ = some (.slice r.la r.lines.length r.lc) := fun wx h => (HAT.out wx h).2.2.2.2.2.1
    have x6 : ∀ wx, Below W0.heap.size W0 wx → wx.cell? ⟨w.heap.size, 6, none⟩ = some (.int .i64 r.pipe) := fun wx h => (HAT.out wx h).2.2.2.2.2.2.1
    have x7 : ∀ wx, Below W0.heap.size W0 wx → wx.cell? ⟨w.heap.size, 7, none⟩ = some (.int .i64 r.arbor) := fun wx h => (HAT.out wx h).2.2.2.2.2.2.2.1
    have x8 : ∀ wx, Below W0.heap.size W0 wx → wx.cell? ⟨w.heap.size, 8, none⟩ = some (.int .i64 r.purchase) := fun wx h => (HAT.out wx h).2.2.2.2.2.2.2.2.1
    have x9 : ∀ wx, Below W0.heap.size W0 wx → wx.cell? ⟨w.heap.size, 9, none⟩ = some (.int .i64 r.most) := fun wx h => (HAT.out wx h).2.2.2.2.2.2.2.2.2.1
    have x10 : ∀ wx, Below W0.heap.size W0 wx → wx.cell? ⟨w.heap.size, 10, none⟩ = some (.int .i64 r.brake) := fun wx h => (HAT.out wx h).2.2.2.2.2.2.2.2.2.2.1
    have x11 : ∀ wx, Below W0.heap.size W0 wx → wx.cell? ⟨w.heap.size, 11, none⟩ = some (.slice r.ia r.items.length r.ic) := fun wx h => (HAT.out wx h).2.2.2.2.2.2.2.2.2.2.2.1
    have x12 : ∀ wx, Below W0.heap.size W0 wx → wx.cell? ⟨w.heap.size, 12, none⟩ = some (.slice r.ba r.bricks.length r.bc) := fun wx h => (HAT.out wx h).2.2.2.2.2.2.2.2.2.2.2.2
    go_wp2_with (first
      | (go_at_call 44; (with_reducible refine (batweight_any r _ (HS.out _ hB1)).mono ?_); rintro e w2 ⟨rfl, hb⟩; rw [HE.out.1, HE.out.2]; have hB2 := hB1.trans (hb.mono hB1.size); clear hb))
    go_ret2
    exact ⟨rfl, HX.out _ hB2⟩
def balanceB (r : SetR) : Int := if setB r = true then balanceS r else 0
set_option maxRecDepth 100000 in
set_option maxHeartbeats 8000000 in
theorem balance_any (r : SetR) (w : World) (hs : SetIn w r) :
    Calls Tryz.prog 12 #[.agg #[.string r.name, .int .i64 r.depth, .int .i64 r.low, .int .i64 r.high, .int .i64 r.length, .slice r.la r.lines.length r.lc, .int .i64 r.pipe, .int .i64 r.arbor, .int .i64 r.purchase, .int .i64 r.most, .int .i64 r.brake, .slice r.ia r.items.length r.ic, .slice r.ba r.bricks.length r.bc]] w fun e w' => e = .returned (.tuple #[.int .i64 (balanceB r), .int .i64 (weightEr r)]) ∧ Below w.heap.size w w' := by
  have hb0 := below_new w (.cells #[.string r.name, .int .i64 r.depth, .int .i64 r.low, .int .i64 r.high, .int .i64 r.length, .slice r.la r.lines.length r.lc, .int .i64 r.pipe, .int .i64 r.arbor, .int .i64 r.purchase, .int .i64 r.most, .int .i64 r.brake, .slice r.ia r.items.length r.ic, .slice r.ba r.bricks.length r.bc] 26)
  have HX : Hid (∀ wx, Below (w.alloc (.cells #[.string r.name, .int .i64 r.depth, .int .i64 r.low, .int .i64 r.high, .int .i64 r.length, .slice r.la r.lines.length r.lc, .int .i64 r.pipe, .int .i64 r.arbor, .int .i64 r.purchase, .int .i64 r.most, .int .i64 r.brake, .slice r.ia r.items.length r.ic, .slice r.ba r.bricks.length r.bc] 26)).heap.size (w.alloc (.cells #[.string r.name, .int .i64 r.depth, .int .i64 r.low, .int .i64 r.high, .int .i64 r.length, .slice r.la r.lines.length r.lc, .int .i64 r.pipe, .int .i64 r.arbor, .int .i64 r.purchase, .int .i64 r.most, .int .i64 r.brake, .slice r.ia r.items.length r.ic, .slice r.ba r.bricks.length r.bc] 26)) wx → Below w.heap.size w wx) := Lib.hid fun wx h => mono_in _ h
  have HS : Hid (∀ wx, Below (w.alloc (.cells #[.string r.name, .int .i64 r.depth, .int .i64 r.low, .int .i64 r.high, .int .i64 r.length, .slice r.la r.lines.length r.lc, .int .i64 r.pipe, .int .i64 r.arbor, .int .i64 r.purchase, .int .i64 r.most, .int .i64 r.brake, .slice r.ia r.items.length r.ic, .slice r.ba r.bricks.length r.bc] 26)).heap.size (w.alloc (.cells #[.string r.name, .int .i64 r.depth, .int .i64 r.low, .int .i64 r.high, .int .i64 r.length, .slice r.la r.lines.length r.lc, .int .i64 r.pipe, .int .i64 r.arbor, .int .i64 r.purchase, .int .i64 r.most, .int .i64 r.brake, .slice r.ia r.items.length r.ic, .slice r.ba r.bricks.length r.bc] 26)) wx → SetIn wx r) := Lib.hid fun wx h => (hs.grow hb0).grow h
  have HAT : Hid (∀ wx, Below (w.alloc (.cells #[.string r.name, .int .i64 r.depth, .int .i64 r.low, .int .i64 r.high, .int .i64 r.length, .slice r.la r.lines.length r.lc, .int .i64 r.pipe, .int .i64 r.arbor, .int .i64 r.purchase, .int .i64 r.most, .int .i64 r.brake, .slice r.ia r.items.length r.ic, .slice r.ba r.bricks.length r.bc] 26)).heap.size (w.alloc (.cells #[.string r.name, .int .i64 r.depth, .int .i64 r.low, .int .i64 r.high, .int .i64 r.length, .slice r.la r.lines.length r.lc, .int .i64 r.pipe, .int .i64 r.arbor, .int .i64 r.purchase, .int .i64 r.most, .int .i64 r.brake, .slice r.ia r.items.length r.ic, .slice r.ba r.bricks.length r.bc] 26)) wx → SetAt wx w.heap.size r) := Lib.hid fun wx h => (SetAt.new w r 26).below h (by simp)
  clear hb0 hs
  cases hv : setB r
  · have HE : Hid (neededB r = 0 ∧ weightEr r = 1) := Lib.hid (by unfold neededB weightEr; rw [hv]; exact ⟨rfl, rfl⟩)
    have HN : Hid (balanceB r = 0) := Lib.hid (by unfold balanceB; rw [hv]; rfl)
    rw [HN.out, HE.out.2]
    clear hv
    go_enter Tryz.func12, Tryz.ntmps12
    go_wp2_with fail
    generalize (w.alloc (.cells #[.string r.name, .int .i64 r.depth, .int .i64 r.low, .int .i64 r.high, .int .i64 r.length, .slice r.la r.lines.length r.lc, .int .i64 r.pipe, .int .i64 r.arbor, .int .i64 r.purchase, .int .i64 r.most, .int .i64 r.brake, .slice r.ia r.items.length r.ic, .slice r.ba r.bricks.length r.bc] 26)) = W0 at *
    have hB1 := Below.refl W0.heap.size W0
    have x0 : ∀ wx, Below W0.heap.size W0 wx → wx.cell? ⟨w.heap.size, 0, none⟩ = some (.string r.name) := fun wx h => (HAT.out wx h).1
    have x1 : ∀ wx, Below W0.heap.size W0 wx → wx.cell? ⟨w.heap.size, 1, none⟩ = some (.int .i64 r.depth) := fun wx h => (HAT.out wx h).2.1
    have x2 : ∀ wx, Below W0.heap.size W0 wx → wx.cell? ⟨w.heap.size, 2, none⟩ = some (.int .i64 r.low) := fun wx h => (HAT.out wx h).2.2.1
    have x3 : ∀ wx, Below W0.heap.size W0 wx → wx.cell? ⟨w.heap.size, 3, none⟩ = some (.int .i64 r.high) := fun wx h => (HAT.out wx h).2.2.2.1
    have x4 : ∀ wx, Below W0.heap.size W0 wx → wx.cell? ⟨w.heap.size, 4, none⟩ = some (.int .i64 r.length) := fun wx h => (HAT.out wx h).2.2.2.2.1
    have x5 : ∀ wx, Below W0.heap.size W0 wx → wx.cell? ⟨w.heap.size, 5, none⟩ = some (.slice r.la r.lines.length r.lc) := fun wx h => (HAT.out wx h).2.2.2.2.2.1
    have x6 : ∀ wx, Below W0.heap.size W0 wx → wx.cell? ⟨w.heap.size, 6, none⟩ = some (.int .i64 r.pipe) := fun wx h => (HAT.out wx h).2.2.2.2.2.2.1
    have x7 : ∀ wx, Below W0.heap.size W0 wx → wx.cell? ⟨w.heap.size, 7, none⟩ = some (.int .i64 r.arbor) := fun wx h => (HAT.out wx h).2.2.2.2.2.2.2.1
    have x8 : ∀ wx, Below W0.heap.size W0 wx → wx.cell? ⟨w.heap.size, 8, none⟩ = some (.int .i64 r.purchase) := fun wx h => (HAT.out wx h).2.2.2.2.2.2.2.2.1
    have x9 : ∀ wx, Below W0.heap.size W0 wx → wx.cell? ⟨w.heap.size, 9, none⟩ = some (.int .i64 r.most) := fun wx h => (HAT.out wx h).2.2.2.2.2.2.2.2.2.1
    have x10 : ∀ wx, Below W0.heap.size W0 wx → wx.cell? ⟨w.heap.size, 10, none⟩ = some (.int .i64 r.brake) := fun wx h => (HAT.out wx h).2.2.2.2.2.2.2.2.2.2.1
    have x11 : ∀ wx, Below W0.heap.size W0 wx → wx.cell? ⟨w.heap.size, 11, none⟩ = some (.slice r.ia r.items.length r.ic) := fun wx h => (HAT.out wx h).2.2.2.2.2.2.2.2.2.2.2.1
    have x12 : ∀ wx, Below W0.heap.size W0 wx → wx.cell? ⟨w.heap.size, 12, none⟩ = some (.slice r.ba r.bricks.length r.bc) := fun wx h => (HAT.out wx h).2.2.2.2.2.2.2.2.2.2.2.2
    go_wp2_with (first
      | (go_at_call 23; (with_reducible refine (needed25_any r _ (HS.out _ hB1)).mono ?_); rintro e w2 ⟨rfl, hb⟩; rw [HE.out.1, HE.out.2]; have hB2 := hB1.trans (hb.mono hB1.size); clear hb))
    go_ret2
    exact ⟨rfl, HX.out _ hB2⟩
  · have HE : Hid (neededB r = neededS r ∧ weightEr r = 0) := Lib.hid (by unfold neededB weightEr; rw [hv]; exact ⟨rfl, rfl⟩)
    have HN : Hid (balanceB r = neededS r - restC r.bricks) := Lib.hid (by unfold balanceB; rw [hv]; rfl)
    have hk := setB_iff.1 hv
    have h1 := needed_bd hk
    obtain ⟨hl8, _, _, hok⟩ := brick_ok hk.bricks
    have HOK := Lib.hid hok
    have h2 := rest_bd hok
    have s2 : IntKind.i64.wrap (neededS r - restC r.bricks) = neededS r - restC r.bricks := IntWalk.i64_in _ (by omega)
    rw [HN.out, HE.out.2]
    clear hv hk hok h1 h2
    go_enter Tryz.func12, Tryz.ntmps12
    go_wp2_with fail
    generalize (w.alloc (.cells #[.string r.name, .int .i64 r.depth, .int .i64 r.low, .int .i64 r.high, .int .i64 r.length, .slice r.la r.lines.length r.lc, .int .i64 r.pipe, .int .i64 r.arbor, .int .i64 r.purchase, .int .i64 r.most, .int .i64 r.brake, .slice r.ia r.items.length r.ic, .slice r.ba r.bricks.length r.bc] 26)) = W0 at *
    have hB1 := Below.refl W0.heap.size W0
    have x0 : ∀ wx, Below W0.heap.size W0 wx → wx.cell? ⟨w.heap.size, 0, none⟩ = some (.string r.name) := fun wx h => (HAT.out wx h).1
    have x1 : ∀ wx, Below W0.heap.size W0 wx → wx.cell? ⟨w.heap.size, 1, none⟩ = some (.int .i64 r.depth) := fun wx h => (HAT.out wx h).2.1
    have x2 : ∀ wx, Below W0.heap.size W0 wx → wx.cell? ⟨w.heap.size, 2, none⟩ = some (.int .i64 r.low) := fun wx h => (HAT.out wx h).2.2.1
    have x3 : ∀ wx, Below W0.heap.size W0 wx → wx.cell? ⟨w.heap.size, 3, none⟩ = some (.int .i64 r.high) := fun wx h => (HAT.out wx h).2.2.2.1
    have x4 : ∀ wx, Below W0.heap.size W0 wx → wx.cell? ⟨w.heap.size, 4, none⟩ = some (.int .i64 r.length) := fun wx h => (HAT.out wx h).2.2.2.2.1
    have x5 : ∀ wx, Below W0.heap.size W0 wx → wx.cell? ⟨w.heap.size, 5, none⟩ = some (.slice r.la r.lines.length r.lc) := fun wx h => (HAT.out wx h).2.2.2.2.2.1
    have x6 : ∀ wx, Below W0.heap.size W0 wx → wx.cell? ⟨w.heap.size, 6, none⟩ = some (.int .i64 r.pipe) := fun wx h => (HAT.out wx h).2.2.2.2.2.2.1
    have x7 : ∀ wx, Below W0.heap.size W0 wx → wx.cell? ⟨w.heap.size, 7, none⟩ = some (.int .i64 r.arbor) := fun wx h => (HAT.out wx h).2.2.2.2.2.2.2.1
    have x8 : ∀ wx, Below W0.heap.size W0 wx → wx.cell? ⟨w.heap.size, 8, none⟩ = some (.int .i64 r.purchase) := fun wx h => (HAT.out wx h).2.2.2.2.2.2.2.2.1
    have x9 : ∀ wx, Below W0.heap.size W0 wx → wx.cell? ⟨w.heap.size, 9, none⟩ = some (.int .i64 r.most) := fun wx h => (HAT.out wx h).2.2.2.2.2.2.2.2.2.1
    have x10 : ∀ wx, Below W0.heap.size W0 wx → wx.cell? ⟨w.heap.size, 10, none⟩ = some (.int .i64 r.brake) := fun wx h => (HAT.out wx h).2.2.2.2.2.2.2.2.2.2.1
    have x11 : ∀ wx, Below W0.heap.size W0 wx → wx.cell? ⟨w.heap.size, 11, none⟩ = some (.slice r.ia r.items.length r.ic) := fun wx h => (HAT.out wx h).2.2.2.2.2.2.2.2.2.2.2.1
    have x12 : ∀ wx, Below W0.heap.size W0 wx → wx.cell? ⟨w.heap.size, 12, none⟩ = some (.slice r.ba r.bricks.length r.bc) := fun wx h => (HAT.out wx h).2.2.2.2.2.2.2.2.2.2.2.2
    go_wp2_with (first
      | (go_at_call 23; (with_reducible refine (needed25_any r _ (HS.out _ hB1)).mono ?_); rintro e w2 ⟨rfl, hb⟩; rw [HE.out.1, HE.out.2]; have hB2 := hB1.trans (hb.mono hB1.size); clear hb)
      | (go_at_call 36; (with_reducible refine (there_any r _ HOK.out hl8 (HS.out _ hB2).bricks).mono ?_); rintro e w3 ⟨rfl, hb⟩; have hB3 := hB2.trans (hb.mono hB2.size); clear hb))
    go_ret2
    exact ⟨rfl, HX.out _ hB3⟩
def fillE (r : SetR) : Int := if setB r = true then nearE (neededS r) r.bricks else 1
def fillC (r : SetR) : St := if setB r = true then nearC (neededS r) r.bricks else none
set_option maxRecDepth 100000 in
set_option maxHeartbeats 8000000 in
theorem fill_any (r : SetR) (w : World) (hs : SetIn w r) :
    Calls Tryz.prog 7 #[.agg #[.string r.name, .int .i64 r.depth, .int .i64 r.low, .int .i64 r.high, .int .i64 r.length, .slice r.la r.lines.length r.lc, .int .i64 r.pipe, .int .i64 r.arbor, .int .i64 r.purchase, .int .i64 r.most, .int .i64 r.brake, .slice r.ia r.items.length r.ic, .slice r.ba r.bricks.length r.bc]] w fun e w' => Hid (∃ v, e = .returned (.tuple #[v, .int .i64 (fillE r)]) ∧ RowV w.heap.size w' v (fillC r)) ∧ Below w.heap.size w w' := by
  have hb0 := below_new w (.cells #[.string r.name, .int .i64 r.depth, .int .i64 r.low, .int .i64 r.high, .int .i64 r.length, .slice r.la r.lines.length r.lc, .int .i64 r.pipe, .int .i64 r.arbor, .int .i64 r.purchase, .int .i64 r.most, .int .i64 r.brake, .slice r.ia r.items.length r.ic, .slice r.ba r.bricks.length r.bc] 26)
  have HX : Hid (∀ wx, Below (w.alloc (.cells #[.string r.name, .int .i64 r.depth, .int .i64 r.low, .int .i64 r.high, .int .i64 r.length, .slice r.la r.lines.length r.lc, .int .i64 r.pipe, .int .i64 r.arbor, .int .i64 r.purchase, .int .i64 r.most, .int .i64 r.brake, .slice r.ia r.items.length r.ic, .slice r.ba r.bricks.length r.bc] 26)).heap.size (w.alloc (.cells #[.string r.name, .int .i64 r.depth, .int .i64 r.low, .int .i64 r.high, .int .i64 r.length, .slice r.la r.lines.length r.lc, .int .i64 r.pipe, .int .i64 r.arbor, .int .i64 r.purchase, .int .i64 r.most, .int .i64 r.brake, .slice r.ia r.items.length r.ic, .slice r.ba r.bricks.length r.bc] 26)) wx → Below w.heap.size w wx) := Lib.hid fun wx h => mono_in _ h
  have HS : Hid (∀ wx, Below (w.alloc (.cells #[.string r.name, .int .i64 r.depth, .int .i64 r.low, .int .i64 r.high, .int .i64 r.length, .slice r.la r.lines.length r.lc, .int .i64 r.pipe, .int .i64 r.arbor, .int .i64 r.purchase, .int .i64 r.most, .int .i64 r.brake, .slice r.ia r.items.length r.ic, .slice r.ba r.bricks.length r.bc] 26)).heap.size (w.alloc (.cells #[.string r.name, .int .i64 r.depth, .int .i64 r.low, .int .i64 r.high, .int .i64 r.length, .slice r.la r.lines.length r.lc, .int .i64 r.pipe, .int .i64 r.arbor, .int .i64 r.purchase, .int .i64 r.most, .int .i64 r.brake, .slice r.ia r.items.length r.ic, .slice r.ba r.bricks.length r.bc] 26)) wx → SetIn wx r) := Lib.hid fun wx h => (hs.grow hb0).grow h
  have HAT : Hid (∀ wx, Below (w.alloc (.cells #[.string r.name, .int .i64 r.depth, .int .i64 r.low, .int .i64 r.high, .int .i64 r.length, .slice r.la r.lines.length r.lc, .int .i64 r.pipe, .int .i64 r.arbor, .int .i64 r.purchase, .int .i64 r.most, .int .i64 r.brake, .slice r.ia r.items.length r.ic, .slice r.ba r.bricks.length r.bc] 26)).heap.size (w.alloc (.cells #[.string r.name, .int .i64 r.depth, .int .i64 r.low, .int .i64 r.high, .int .i64 r.length, .slice r.la r.lines.length r.lc, .int .i64 r.pipe, .int .i64 r.arbor, .int .i64 r.purchase, .int .i64 r.most, .int .i64 r.brake, .slice r.ia r.items.length r.ic, .slice r.ba r.bricks.length r.bc] 26)) wx → SetAt wx w.heap.size r) := Lib.hid fun wx h => (SetAt.new w r 26).below h (by simp)
  clear hb0 hs
  have HSZ : Hid (∀ wx, Below (w.alloc (.cells #[.string r.name, .int .i64 r.depth, .int .i64 r.low, .int .i64 r.high, .int .i64 r.length, .slice r.la r.lines.length r.lc, .int .i64 r.pipe, .int .i64 r.arbor, .int .i64 r.purchase, .int .i64 r.most, .int .i64 r.brake, .slice r.ia r.items.length r.ic, .slice r.ba r.bricks.length r.bc] 26)).heap.size (w.alloc (.cells #[.string r.name, .int .i64 r.depth, .int .i64 r.low, .int .i64 r.high, .int .i64 r.length, .slice r.la r.lines.length r.lc, .int .i64 r.pipe, .int .i64 r.arbor, .int .i64 r.purchase, .int .i64 r.most, .int .i64 r.brake, .slice r.ia r.items.length r.ic, .slice r.ba r.bricks.length r.bc] 26)) wx → w.heap.size ≤ wx.heap.size) := Lib.hid fun wx h => by have := h.size; simp at this; omega
  cases hv : setB r
  · have HE : Hid (neededB r = 0 ∧ weightEr r = 1) := Lib.hid (by unfold neededB weightEr; rw [hv]; exact ⟨rfl, rfl⟩)
    have HN : Hid (fillE r = 1 ∧ fillC r = none) := Lib.hid (by unfold fillE fillC; rw [hv]; exact ⟨rfl, rfl⟩)
    rw [HN.out.1, HN.out.2]
    clear hv
    go_enter Tryz.func7, Tryz.ntmps7
    go_wp2_with fail
    generalize (w.alloc (.cells #[.string r.name, .int .i64 r.depth, .int .i64 r.low, .int .i64 r.high, .int .i64 r.length, .slice r.la r.lines.length r.lc, .int .i64 r.pipe, .int .i64 r.arbor, .int .i64 r.purchase, .int .i64 r.most, .int .i64 r.brake, .slice r.ia r.items.length r.ic, .slice r.ba r.bricks.length r.bc] 26)) = W0 at *
    have hB1 := Below.refl W0.heap.size W0
    have x0 : ∀ wx, Below W0.heap.size W0 wx → wx.cell? ⟨w.heap.size, 0, none⟩ = some (.string r.name) := fun wx h => (HAT.out wx h).1
    have x1 : ∀ wx, Below W0.heap.size W0 wx → wx.cell? ⟨w.heap.size, 1, none⟩ = some (.int .i64 r.depth) := fun wx h => (HAT.out wx h).2.1
    have x2 : ∀ wx, Below W0.heap.size W0 wx → wx.cell? ⟨w.heap.size, 2, none⟩ = some (.int .i64 r.low) := fun wx h => (HAT.out wx h).2.2.1
    have x3 : ∀ wx, Below W0.heap.size W0 wx → wx.cell? ⟨w.heap.size, 3, none⟩ = some (.int .i64 r.high) := fun wx h => (HAT.out wx h).2.2.2.1
    have x4 : ∀ wx, Below W0.heap.size W0 wx → wx.cell? ⟨w.heap.size, 4, none⟩ = some (.int .i64 r.length) := fun wx h => (HAT.out wx h).2.2.2.2.1
    have x5 : ∀ wx, Below W0.heap.size W0 wx → wx.cell? ⟨w.heap.size, 5, none⟩ = some (.slice r.la r.lines.length r.lc) := fun wx h => (HAT.out wx h).2.2.2.2.2.1
    have x6 : ∀ wx, Below W0.heap.size W0 wx → wx.cell? ⟨w.heap.size, 6, none⟩ = some (.int .i64 r.pipe) := fun wx h => (HAT.out wx h).2.2.2.2.2.2.1
    have x7 : ∀ wx, Below W0.heap.size W0 wx → wx.cell? ⟨w.heap.size, 7, none⟩ = some (.int .i64 r.arbor) := fun wx h => (HAT.out wx h).2.2.2.2.2.2.2.1
    have x8 : ∀ wx, Below W0.heap.size W0 wx → wx.cell? ⟨w.heap.size, 8, none⟩ = some (.int .i64 r.purchase) := fun wx h => (HAT.out wx h).2.2.2.2.2.2.2.2.1
    have x9 : ∀ wx, Below W0.heap.size W0 wx → wx.cell? ⟨w.heap.size, 9, none⟩ = some (.int .i64 r.most) := fun wx h => (HAT.out wx h).2.2.2.2.2.2.2.2.2.1
    have x10 : ∀ wx, Below W0.heap.size W0 wx → wx.cell? ⟨w.heap.size, 10, none⟩ = some (.int .i64 r.brake) := fun wx h => (HAT.out wx h).2.2.2.2.2.2.2.2.2.2.1
    have x11 : ∀ wx, Below W0.heap.size W0 wx → wx.cell? ⟨w.heap.size, 11, none⟩ = some (.slice r.ia r.items.length r.ic) := fun wx h => (HAT.out wx h).2.2.2.2.2.2.2.2.2.2.2.1
    have x12 : ∀ wx, Below W0.heap.size W0 wx → wx.cell? ⟨w.heap.size, 12, none⟩ = some (.slice r.ba r.bricks.length r.bc) := fun wx h => (HAT.out wx h).2.2.2.2.2.2.2.2.2.2.2.2
    go_wp2_with (first
      | (go_at_call 23; (with_reducible refine (needed25_any r _ (HS.out _ hB1)).mono ?_); rintro e w2 ⟨rfl, hb⟩; rw [HE.out.1, HE.out.2]; have hB2 := hB1.trans (hb.mono hB1.size); clear hb))
    go_ret2
    exact ⟨Lib.hid ⟨_, rfl, rfl⟩, HX.out _ hB2⟩
  · have HE : Hid (neededB r = neededS r ∧ weightEr r = 0) := Lib.hid (by unfold neededB weightEr; rw [hv]; exact ⟨rfl, rfl⟩)
    have HN : Hid (fillE r = nearE (neededS r) r.bricks ∧ fillC r = nearC (neededS r) r.bricks) := Lib.hid (by unfold fillE fillC; rw [hv]; exact ⟨rfl, rfl⟩)
    rw [HN.out.1, HN.out.2]
    clear hv
    go_enter Tryz.func7, Tryz.ntmps7
    go_wp2_with fail
    generalize (w.alloc (.cells #[.string r.name, .int .i64 r.depth, .int .i64 r.low, .int .i64 r.high, .int .i64 r.length, .slice r.la r.lines.length r.lc, .int .i64 r.pipe, .int .i64 r.arbor, .int .i64 r.purchase, .int .i64 r.most, .int .i64 r.brake, .slice r.ia r.items.length r.ic, .slice r.ba r.bricks.length r.bc] 26)) = W0 at *
    have hB1 := Below.refl W0.heap.size W0
    have x0 : ∀ wx, Below W0.heap.size W0 wx → wx.cell? ⟨w.heap.size, 0, none⟩ = some (.string r.name) := fun wx h => (HAT.out wx h).1
    have x1 : ∀ wx, Below W0.heap.size W0 wx → wx.cell? ⟨w.heap.size, 1, none⟩ = some (.int .i64 r.depth) := fun wx h => (HAT.out wx h).2.1
    have x2 : ∀ wx, Below W0.heap.size W0 wx → wx.cell? ⟨w.heap.size, 2, none⟩ = some (.int .i64 r.low) := fun wx h => (HAT.out wx h).2.2.1
    have x3 : ∀ wx, Below W0.heap.size W0 wx → wx.cell? ⟨w.heap.size, 3, none⟩ = some (.int .i64 r.high) := fun wx h => (HAT.out wx h).2.2.2.1
    have x4 : ∀ wx, Below W0.heap.size W0 wx → wx.cell? ⟨w.heap.size, 4, none⟩ = some (.int .i64 r.length) := fun wx h => (HAT.out wx h).2.2.2.2.1
    have x5 : ∀ wx, Below W0.heap.size W0 wx → wx.cell? ⟨w.heap.size, 5, none⟩ = some (.slice r.la r.lines.length r.lc) := fun wx h => (HAT.out wx h).2.2.2.2.2.1
    have x6 : ∀ wx, Below W0.heap.size W0 wx → wx.cell? ⟨w.heap.size, 6, none⟩ = some (.int .i64 r.pipe) := fun wx h => (HAT.out wx h).2.2.2.2.2.2.1
    have x7 : ∀ wx, Below W0.heap.size W0 wx → wx.cell? ⟨w.heap.size, 7, none⟩ = some (.int .i64 r.arbor) := fun wx h => (HAT.out wx h).2.2.2.2.2.2.2.1
    have x8 : ∀ wx, Below W0.heap.size W0 wx → wx.cell? ⟨w.heap.size, 8, none⟩ = some (.int .i64 r.purchase) := fun wx h => (HAT.out wx h).2.2.2.2.2.2.2.2.1
    have x9 : ∀ wx, Below W0.heap.size W0 wx → wx.cell? ⟨w.heap.size, 9, none⟩ = some (.int .i64 r.most) := fun wx h => (HAT.out wx h).2.2.2.2.2.2.2.2.2.1
    have x10 : ∀ wx, Below W0.heap.size W0 wx → wx.cell? ⟨w.heap.size, 10, none⟩ = some (.int .i64 r.brake) := fun wx h => (HAT.out wx h).2.2.2.2.2.2.2.2.2.2.1
    have x11 : ∀ wx, Below W0.heap.size W0 wx → wx.cell? ⟨w.heap.size, 11, none⟩ = some (.slice r.ia r.items.length r.ic) := fun wx h => (HAT.out wx h).2.2.2.2.2.2.2.2.2.2.2.1
    have x12 : ∀ wx, Below W0.heap.size W0 wx → wx.cell? ⟨w.heap.size, 12, none⟩ = some (.slice r.ba r.bricks.length r.bc) := fun wx h => (HAT.out wx h).2.2.2.2.2.2.2.2.2.2.2.2
    go_wp2_with (first
      | (go_at_call 23; (with_reducible refine (needed25_any r _ (HS.out _ hB1)).mono ?_); rintro e w2 ⟨rfl, hb⟩; rw [HE.out.1, HE.out.2]; have hB2 := hB1.trans (hb.mono hB1.size); clear hb)
      | (go_at_call 17; (with_reducible refine (near26_any (neededS r) r.ba r.bricks r.bc _ (HS.out _ hB2).bcap (HS.out _ hB2).bricks).mono ?_); rintro e w3 ⟨hx, hb⟩; obtain ⟨v, rfl, hv⟩ := hx.out; have HV := Lib.hid hv; have hB3 := hB2.trans (hb.mono hB2.size); clear hb hx hv))
    go_ret2
    exact ⟨Lib.hid ⟨_, rfl, RowV.base HV.out (HSZ.out _ hB2)⟩, HX.out _ hB3⟩
end Go.Proofs.YtbniclapaigkkaaGreat
