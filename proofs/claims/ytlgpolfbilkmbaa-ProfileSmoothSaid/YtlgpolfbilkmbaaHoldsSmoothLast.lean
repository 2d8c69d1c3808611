/-
  THE WALK of the law ProfileTops.
  THE WALK of the law ProfileGreatest.
  THE WALK of the reference's comparison of two fractions (02) that are not negative.
  THE WALK of the law ProfileSmooth.
  FROM A WALK TO A ROW: a law that answers true and turns nothing that was there meets its row's post: each argument reads behind the call as it read before. Over any row of this seat.
  OPENING A SLICE OF RECORDS that came in, whatever the record: its cells, one behind the other, are those of a list.
  ARGUMENTS THAT CAME IN: a move.
  THE STATEMENT ProfileSmoothSaid: at every distance, every move and every part of its time the law ProfileSmooth answers true, and each argument reads as it did. Conditions: none beyond the given row.
-/
import Derived.Test.YtlgpolfbilkmbaaRows
import Derived.ProofKit
import Derived.OpenShut
import Derived.Below
import Derived.ChangeSame
import Derived.Carry
import Derived.RowKit
import Derived.Deep.Slices
import Derived.Deep.Fields
import Derived.WalkKit
import Derived.Lib.SmallJoins
import Derived.Test.YtlgpolfbilkmbaaHoldsSmoothG46
import Derived.Test.YtlgpolfbilkmbaaRCmp
import Derived.Test.YtlgpolfbilkmbaaQuad5
import Derived.Test.YtlgpolfbilkmbaaTop
namespace Go.Proofs.Ytlgpolfbilkmbaa
open Go.RowKit Go.Shelf

theorem top_some (d : Int) (m : Mv) : ∃ t, givenP d m = 0 → IsTop d m.spd m.rise m.fall t := by
  by_cases hg : givenP d m = 0
  · obtain ⟨hv, hd⟩ := given_ok hg
    obtain ⟨V0, V1, R0, R1, F0, F1⟩ := valid_bds hv
    obtain ⟨t, ht⟩ := top_exI (d := d) (V := m.spd) (R := m.rise) (F := m.fall) (by omega) (by omega) (inB_iff.1 hd).1 (by omega)
    exact ⟨t, fun _ => ht⟩
  · exact ⟨0, fun h => absurd h hg⟩

set_option maxRecDepth 100000 in
set_option maxHeartbeats 8000000 in
theorem lawtops_law (d : Int) (m : Mv) (w : World) : Calls Try.prog 3 #[.int .i64 d, .agg #[.string m.name, .int .i64 m.to, .int .i64 m.spd, .int .i64 m.rise, .int .i64 m.fall]] w fun e w' => e = .returned (.bool true) ∧ Below w.heap.size w w' := by
  obtain ⟨t, ht⟩ := top_some d m
  by_cases hl : 100 < (m.name.size : Int)
  · clear ht
    go_enter Try.func3, Try.ntmps3
    go_upto_region 1 with (fail)
    have k0 : (w.alloc (.cells #[.string m.name, .int .i64 m.to, .int .i64 m.spd, .int .i64 m.rise, .int .i64 m.fall] 23)).cell? ⟨w.heap.size, 0, none⟩ = some (.string m.name) := by simp
    have k1 : (w.alloc (.cells #[.string m.name, .int .i64 m.to, .int .i64 m.spd, .int .i64 m.rise, .int .i64 m.fall] 23)).cell? ⟨w.heap.size, 1, none⟩ = some (.int .i64 m.to) := by simp
    have k2 : (w.alloc (.cells #[.string m.name, .int .i64 m.to, .int .i64 m.spd, .int .i64 m.rise, .int .i64 m.fall] 23)).cell? ⟨w.heap.size, 2, none⟩ = some (.int .i64 m.spd) := by simp
    have k3 : (w.alloc (.cells #[.string m.name, .int .i64 m.to, .int .i64 m.spd, .int .i64 m.rise, .int .i64 m.fall] 23)).cell? ⟨w.heap.size, 3, none⟩ = some (.int .i64 m.rise) := by simp
    have k4 : (w.alloc (.cells #[.string m.name, .int .i64 m.to, .int .i64 m.spd, .int .i64 m.rise, .int .i64 m.fall] 23)).cell? ⟨w.heap.size, 4, none⟩ = some (.int .i64 m.fall) := by simp
    have hz : w.heap.size < (w.alloc (.cells #[.string m.name, .int .i64 m.to, .int .i64 m.spd, .int .i64 m.rise, .int .i64 m.fall] 23)).heap.size := by simp
    have hW0 : Below w.heap.size w (w.alloc (.cells #[.string m.name, .int .i64 m.to, .int .i64 m.spd, .int .i64 m.rise, .int .i64 m.fall] 23)) := below_new _ _
    generalize w.alloc (.cells #[.string m.name, .int .i64 m.to, .int .i64 m.spd, .int .i64 m.rise, .int .i64 m.fall] 23) = W0 at *
    have x0 : ∀ wr, Below W0.heap.size W0 wr → wr.cell? ⟨w.heap.size, 0, none⟩ = some (.string m.name) := fun wr h => (h.cell (p := ⟨w.heap.size, 0, none⟩) hz).trans k0
    have x1 : ∀ wr, Below W0.heap.size W0 wr → wr.cell? ⟨w.heap.size, 1, none⟩ = some (.int .i64 m.to) := fun wr h => (h.cell (p := ⟨w.heap.size, 1, none⟩) hz).trans k1
    have x2 : ∀ wr, Below W0.heap.size W0 wr → wr.cell? ⟨w.heap.size, 2, none⟩ = some (.int .i64 m.spd) := fun wr h => (h.cell (p := ⟨w.heap.size, 2, none⟩) hz).trans k2
    have x3 : ∀ wr, Below W0.heap.size W0 wr → wr.cell? ⟨w.heap.size, 3, none⟩ = some (.int .i64 m.rise) := fun wr h => (h.cell (p := ⟨w.heap.size, 3, none⟩) hz).trans k3
    have x4 : ∀ wr, Below W0.heap.size W0 wr → wr.cell? ⟨w.heap.size, 4, none⟩ = some (.int .i64 m.fall) := fun wr h => (h.cell (p := ⟨w.heap.size, 4, none⟩) hz).trans k4
    clear k0 k1 k2 k3 k4 hz
    go_wp2_with (first
      | (go_at_call 10; (with_reducible refine (awake_any _).mono ?_); rintro e w1 ⟨rfl, hB1⟩))
    go_ret
    exact ⟨rfl, hW0.trans (hB1.mono hW0.size)⟩
  · have HC := Lib.hid (Top_any d m t ht)
    obtain ⟨b, hb⟩ : ∃ b, validM m = b := ⟨_, rfl⟩
    have HV := Lib.hid hb
    have zb : (b != b) = false := bne_self_eq_false _
    obtain ⟨g, hgg⟩ : ∃ g, givenP d m = g := ⟨_, rfl⟩
    have HG := Lib.hid hgg
    have HGV := Lib.hid (refgiven_any d m)
    by_cases hg : g = 0
    · have HT : Hid (topR d m t = t) := Lib.hid (by unfold topR; rw [if_pos (hgg.trans hg)])
      have HRT := Lib.hid (reftop_any d m t (hgg.trans hg) (ht (hgg.trans hg)))
      subst hg
      have zt : (t == t) = true := beq_self_eq_true _
      clear hb hgg ht
      go_enter Try.func3, Try.ntmps3
      go_upto_region 1 with (fail)
      have k0 : (w.alloc (.cells #[.string m.name, .int .i64 m.to, .int .i64 m.spd, .int .i64 m.rise, .int .i64 m.fall] 23)).cell? ⟨w.heap.size, 0, none⟩ = some (.string m.name) := by simp
      have k1 : (w.alloc (.cells #[.string m.name, .int .i64 m.to, .int .i64 m.spd, .int .i64 m.rise, .int .i64 m.fall] 23)).cell? ⟨w.heap.size, 1, none⟩ = some (.int .i64 m.to) := by simp
      have k2 : (w.alloc (.cells #[.string m.name, .int .i64 m.to, .int .i64 m.spd, .int .i64 m.rise, .int .i64 m.fall] 23)).cell? ⟨w.heap.size, 2, none⟩ = some (.int .i64 m.spd) := by simp
      have k3 : (w.alloc (.cells #[.string m.name, .int .i64 m.to, .int .i64 m.spd, .int .i64 m.rise, .int .i64 m.fall] 23)).cell? ⟨w.heap.size, 3, none⟩ = some (.int .i64 m.rise) := by simp
      have k4 : (w.alloc (.cells #[.string m.name, .int .i64 m.to, .int .i64 m.spd, .int .i64 m.rise, .int .i64 m.fall] 23)).cell? ⟨w.heap.size, 4, none⟩ = some (.int .i64 m.fall) := by simp
      have hz : w.heap.size < (w.alloc (.cells #[.string m.name, .int .i64 m.to, .int .i64 m.spd, .int .i64 m.rise, .int .i64 m.fall] 23)).heap.size := by simp
      have hW0 : Below w.heap.size w (w.alloc (.cells #[.string m.name, .int .i64 m.to, .int .i64 m.spd, .int .i64 m.rise, .int .i64 m.fall] 23)) := below_new _ _
      generalize w.alloc (.cells #[.string m.name, .int .i64 m.to, .int .i64 m.spd, .int .i64 m.rise, .int .i64 m.fall] 23) = W0 at *
      have x0 : ∀ wr, Below W0.heap.size W0 wr → wr.cell? ⟨w.heap.size, 0, none⟩ = some (.string m.name) := fun wr h => (h.cell (p := ⟨w.heap.size, 0, none⟩) hz).trans k0
      have x1 : ∀ wr, Below W0.heap.size W0 wr → wr.cell? ⟨w.heap.size, 1, none⟩ = some (.int .i64 m.to) := fun wr h => (h.cell (p := ⟨w.heap.size, 1, none⟩) hz).trans k1
      have x2 : ∀ wr, Below W0.heap.size W0 wr → wr.cell? ⟨w.heap.size, 2, none⟩ = some (.int .i64 m.spd) := fun wr h => (h.cell (p := ⟨w.heap.size, 2, none⟩) hz).trans k2
      have x3 : ∀ wr, Below W0.heap.size W0 wr → wr.cell? ⟨w.heap.size, 3, none⟩ = some (.int .i64 m.rise) := fun wr h => (h.cell (p := ⟨w.heap.size, 3, none⟩) hz).trans k3
      have x4 : ∀ wr, Below W0.heap.size W0 wr → wr.cell? ⟨w.heap.size, 4, none⟩ = some (.int .i64 m.fall) := fun wr h => (h.cell (p := ⟨w.heap.size, 4, none⟩) hz).trans k4
      clear k0 k1 k2 k3 k4 hz
      go_upto_region 6 with (first
        | (go_at_call 10; (with_reducible refine (awake_any _).mono ?_); rintro e w1 ⟨rfl, hB1⟩)
        | (go_at_call 11; (with_reducible refine (HC.out _).mono ?_); rintro e w2 ⟨rfl, hb2⟩; rw [HT.out, HG.out]; have hB2 := hB1.trans (hb2.mono hB1.size)))
      go_region_held3 (fun w' => Below W0.heap.size W0 w' ∧ w'.cell? ⟨w.heap.size, 0, none⟩ = some (.string m.name) ∧ w'.cell? ⟨w.heap.size, 1, none⟩ = some (.int .i64 m.to) ∧ w'.cell? ⟨w.heap.size, 2, none⟩ = some (.int .i64 m.spd) ∧ w'.cell? ⟨w.heap.size, 3, none⟩ = some (.int .i64 m.rise) ∧ w'.cell? ⟨w.heap.size, 4, none⟩ = some (.int .i64 m.fall))
        (first | exact ⟨hB2.drew, x0 _ hB2.drew, x1 _ hB2.drew, x2 _ hB2.drew, x3 _ hB2.drew, x4 _ hB2.drew⟩ | exact ⟨hB3, x0 _ hB3, x1 _ hB3, x2 _ hB3, x3 _ hB3, x4 _ hB3⟩ | exact ⟨hB4, x0 _ hB4, x1 _ hB4, x2 _ hB4, x3 _ hB4, x4 _ hB4⟩)
        (first
          | (go_at_call 12; go_split_ands; (with_reducible refine (valid_anyM m _).mono ?_); rintro e w3 ⟨rfl, hb3⟩; rw [HV.out]; have hB3 := hB2.drew.trans (hb3.mono hB2.drew.size))
          | (go_at_call 13; go_split_ands; (with_reducible refine (refvalid_anyM m _).mono ?_); rintro e w4 ⟨rfl, hb4⟩; rw [HV.out]; have hB4 := hB3.trans (hb4.mono hB3.size)))
      go_wp2_with (first
        | (go_at_call 14; (with_reducible refine (HGV.out _).mono ?_); rintro e w5 ⟨rfl, hb5⟩; rw [HG.out]; have hB5 := hB4.trans (hb5.mono hB4.size))
        | (go_at_call 15; (with_reducible refine (HRT.out _).mono ?_); rintro e w6 ⟨rfl, hb6⟩; have hB6 := hB5.trans (hb6.mono hB5.size)))
      go_ret
      exact ⟨rfl, hW0.trans (hB6.mono hW0.size)⟩
    · have HT : Hid (topR d m t = 0) := Lib.hid (by unfold topR; rw [if_neg (by rw [hgg]; exact hg)])
      have g1 : (g == 0) = false := by simpa using hg
      have g2 : (g != 0) = true := by simpa using hg
      have g3 : (g == g) = true := beq_self_eq_true _
      clear hb hgg ht hg
      go_enter Try.func3, Try.ntmps3
      go_upto_region 1 with (fail)
      have k0 : (w.alloc (.cells #[.string m.name, .int .i64 m.to, .int .i64 m.spd, .int .i64 m.rise, .int .i64 m.fall] 23)).cell? ⟨w.heap.size, 0, none⟩ = some (.string m.name) := by simp
      have k1 : (w.alloc (.cells #[.string m.name, .int .i64 m.to, .int .i64 m.spd, .int .i64 m.rise, .int .i64 m.fall] 23)).cell? ⟨w.heap.size, 1, none⟩ = some (.int .i64 m.to) := by simp
      have k2 : (w.alloc (.cells #[.string m.name, .int .i64 m.to, .int .i64 m.spd, .int .i64 m.rise, .int .i64 m.fall] 23)).cell? ⟨w.heap.size, 2, none⟩ = some (.int .i64 m.spd) := by simp
      have k3 : (w.alloc (.cells #[.string m.name, .int .i64 m.to, .int .i64 m.spd, .int .i64 m.rise, .int .i64 m.fall] 23)).cell? ⟨w.heap.size, 3, none⟩ = some (.int .i64 m.rise) := by simp
      have k4 : (w.alloc (.cells #[.string m.name, .int .i64 m.to, .int .i64 m.spd, .int .i64 m.rise, .int .i64 m.fall] 23)).cell? ⟨w.heap.size, 4, none⟩ = some (.int .i64 m.fall) := by simp
      have hz : w.heap.size < (w.alloc (.cells #[.string m.name, .int .i64 m.to, .int .i64 m.spd, .int .i64 m.rise, .int .i64 m.fall] 23)).heap.size := by simp
      have hW0 : Below w.heap.size w (w.alloc (.cells #[.string m.name, .int .i64 m.to, .int .i64 m.spd, .int .i64 m.rise, .int .i64 m.fall] 23)) := below_new _ _
      generalize w.alloc (.cells #[.string m.name, .int .i64 m.to, .int .i64 m.spd, .int .i64 m.rise, .int .i64 m.fall] 23) = W0 at *
      have x0 : ∀ wr, Below W0.heap.size W0 wr → wr.cell? ⟨w.heap.size, 0, none⟩ = some (.string m.name) := fun wr h => (h.cell (p := ⟨w.heap.size, 0, none⟩) hz).trans k0
      have x1 : ∀ wr, Below W0.heap.size W0 wr → wr.cell? ⟨w.heap.size, 1, none⟩ = some (.int .i64 m.to) := fun wr h => (h.cell (p := ⟨w.heap.size, 1, none⟩) hz).trans k1
      have x2 : ∀ wr, Below W0.heap.size W0 wr → wr.cell? ⟨w.heap.size, 2, none⟩ = some (.int .i64 m.spd) := fun wr h => (h.cell (p := ⟨w.heap.size, 2, none⟩) hz).trans k2
      have x3 : ∀ wr, Below W0.heap.size W0 wr → wr.cell? ⟨w.heap.size, 3, none⟩ = some (.int .i64 m.rise) := fun wr h => (h.cell (p := ⟨w.heap.size, 3, none⟩) hz).trans k3
      have x4 : ∀ wr, Below W0.heap.size W0 wr → wr.cell? ⟨w.heap.size, 4, none⟩ = some (.int .i64 m.fall) := fun wr h => (h.cell (p := ⟨w.heap.size, 4, none⟩) hz).trans k4
      clear k0 k1 k2 k3 k4 hz
      go_upto_region 6 with (first
        | (go_at_call 10; (with_reducible refine (awake_any _).mono ?_); rintro e w1 ⟨rfl, hB1⟩)
        | (go_at_call 11; (with_reducible refine (HC.out _).mono ?_); rintro e w2 ⟨rfl, hb2⟩; rw [HT.out, HG.out]; have hB2 := hB1.trans (hb2.mono hB1.size)))
      go_region_held3 (fun w' => Below W0.heap.size W0 w' ∧ w'.cell? ⟨w.heap.size, 0, none⟩ = some (.string m.name) ∧ w'.cell? ⟨w.heap.size, 1, none⟩ = some (.int .i64 m.to) ∧ w'.cell? ⟨w.heap.size, 2, none⟩ = some (.int .i64 m.spd) ∧ w'.cell? ⟨w.heap.size, 3, none⟩ = some (.int .i64 m.rise) ∧ w'.cell? ⟨w.heap.size, 4, none⟩ = some (.int .i64 m.fall))
        (first | exact ⟨hB2.drew, x0 _ hB2.drew, x1 _ hB2.drew, x2 _ hB2.drew, x3 _ hB2.drew, x4 _ hB2.drew⟩ | exact ⟨hB3, x0 _ hB3, x1 _ hB3, x2 _ hB3, x3 _ hB3, x4 _ hB3⟩ | exact ⟨hB4, x0 _ hB4, x1 _ hB4, x2 _ hB4, x3 _ hB4, x4 _ hB4⟩)
        (first
          | (go_at_call 12; go_split_ands; (with_reducible refine (valid_anyM m _).mono ?_); rintro e w3 ⟨rfl, hb3⟩; rw [HV.out]; have hB3 := hB2.drew.trans (hb3.mono hB2.drew.size))
          | (go_at_call 13; go_split_ands; (with_reducible refine (refvalid_anyM m _).mono ?_); rintro e w4 ⟨rfl, hb4⟩; rw [HV.out]; have hB4 := hB3.trans (hb4.mono hB3.size)))
      go_wp2_with (first
        | (go_at_call 14; (with_reducible refine (HGV.out _).mono ?_); rintro e w5 ⟨rfl, hb5⟩; rw [HG.out]; have hB5 := hB4.trans (hb5.mono hB4.size)))
      go_ret
      exact ⟨rfl, hW0.trans (hB5.mono hW0.size)⟩
end Go.Proofs.Ytlgpolfbilkmbaa
namespace Go.Proofs.Ytlgpolfbilkmbaa
open Go.RowKit Go.Shelf

def readyP (d : Int) (m : Mv) : Bool := decide ((m.name.size : Int) ≤ 100) && (givenP d m == 0)
theorem ready_iff {d : Int} {m : Mv} : readyP d m = true ↔ (m.name.size : Int) ≤ 100 ∧ givenP d m = 0 := by simp [readyP]
set_option maxRecDepth 100000 in
set_option maxHeartbeats 4000000 in
theorem ready_any (d : Int) (m : Mv) (w : World) : Calls Try.prog 19 #[.int .i64 d, .agg #[.string m.name, .int .i64 m.to, .int .i64 m.spd, .int .i64 m.rise, .int .i64 m.fall]] w fun e w' => e = .returned (.bool (readyP d m)) ∧ Below w.heap.size w w' := by
  by_cases hl : (m.name.size : Int) ≤ 100
  · obtain ⟨g, hg⟩ : ∃ g, givenP d m = g := ⟨_, rfl⟩
    obtain ⟨b, hb⟩ : ∃ b, (g == 0) = b := ⟨_, rfl⟩
    have HG := Lib.hid hg
    have HR : Hid (readyP d m = b) := Lib.hid (by unfold readyP; rw [hg, hb, decide_eq_true hl]; rfl)
    have hl' := decide_eq_true hl
    rw [HR.out]
    clear hg hl
    go_enter Try.func19, Try.ntmps19
    go_wp2_with (go_at_call 14; (with_reducible refine (refgiven_any d m _).mono ?_); rintro e w1 ⟨rfl, hb1⟩; rw [HG.out])
    go_ret
    exact ⟨rfl, (below_new _ _).trans (hb1.mono (by simp))⟩
  · have HR : Hid (readyP d m = false) := Lib.hid (by unfold readyP; rw [decide_eq_false hl]; rfl)
    have hl' := decide_eq_false hl
    rw [HR.out]
    clear hl
    go_enter Try.func19, Try.ntmps19
    go_wp2_with fail
    go_ret
    exact ⟨rfl, below_new _ _⟩

set_option maxRecDepth 100000 in
set_option maxHeartbeats 4000000 in
theorem need_any (d : Int) (m : Mv) (x : Int) (b : Bool) (hg : givenP d m = 0) (x0 : 0 ≤ x) (x1 : x ≤ 8193) (hb : Room d m.rise m.fall x ↔ b = true) (Bm Bd : Nat) (w : World)
    (k3 : w.cell? ⟨Bm, 3, none⟩ = some (.int .i64 m.rise)) (k4 : w.cell? ⟨Bm, 4, none⟩ = some (.int .i64 m.fall)) (kd : w.cell? ⟨Bd, 0, none⟩ = some (.int .i64 d)) :
    Calls Try.prog 23 #[.int .i64 x, .pointer (some ⟨Bm, 0, none⟩), .pointer (some ⟨Bd, 0, none⟩)] w fun e w' => e = .returned (.bool b) ∧ w = w' := by
  obtain ⟨hv, hd⟩ := given_ok hg
  obtain ⟨v1, v2, r1, r2, f1, f2⟩ := valid_bds hv
  obtain ⟨d1, d2⟩ := inB_iff.1 hd
  have a0 := Int.mul_nonneg x0 x0
  have a1 : x * x ≤ 8193 * 8193 := Int.mul_le_mul x1 x1 x0 (by decide)
  have b0 := Int.mul_nonneg a0 (show 0 ≤ m.rise + m.fall by omega)
  have b1 : x * x * (m.rise + m.fall) ≤ 67125249 * 32768 := Int.mul_le_mul (by omega) (by omega) (by omega) (by decide)
  have e0 := Int.mul_nonneg (show 0 ≤ 2 * m.rise by omega) (show 0 ≤ m.fall by omega)
  have e1 : 2 * m.rise * m.fall ≤ 32768 * 16384 := Int.mul_le_mul (by omega) f2 (by omega) (by decide)
  have g0 := Int.mul_nonneg e0 d1
  have g1 : 2 * m.rise * m.fall * d ≤ 536870912 * 1048576 := Int.mul_le_mul (by omega) d2 d1 (by decide)
  have s4 : IntKind.i64.wrap (x * x) = x * x := IntWalk.i64_in _ (by omega)
  have s5 : IntKind.i64.wrap (m.rise + m.fall) = m.rise + m.fall := IntWalk.i64_in _ (by omega)
  have s6 : IntKind.i64.wrap (x * x * (m.rise + m.fall)) = x * x * (m.rise + m.fall) := IntWalk.i64_in _ (by omega)
  have s7 : IntKind.i64.wrap (2 * m.rise) = 2 * m.rise := IntWalk.i64_in _ (by omega)
  have s8 : IntKind.i64.wrap (2 * m.rise * m.fall) = 2 * m.rise * m.fall := IntWalk.i64_in _ (by omega)
  have s9 : IntKind.i64.wrap (2 * m.rise * m.fall * d) = 2 * m.rise * m.fall * d := IntWalk.i64_in _ (by omega)
  have hb' : decide (x * x * (m.rise + m.fall) ≤ 2 * m.rise * m.fall * d) = b := by
    unfold Room at hb
    rw [Bool.eq_iff_iff, ← hb]
    simp
  clear a0 a1 b0 b1 e0 e1 g0 g1 hb hg hv hd
  go_enter Try.func23, Try.ntmps23
  go_wp2_with fail
  go_ret
  exact ⟨ret_boolB (by first | rfl | exact hb'), rfl⟩

theorem knots_len (d : Int) (m : Mv) (t : Int) : (knotsL d m.rise m.fall t).length = if d = 0 then 1 else if kP d m.rise m.fall t = 0 then 3 else 4 := by
  unfold knotsL
  rw [knTo_len]
  unfold curveL
  split
  · rfl
  · split <;> simp

set_option maxRecDepth 100000 in
set_option maxHeartbeats 8000000 in
theorem lawgreatest_law (d : Int) (m : Mv) (w : World) : Calls Try.prog 6 #[.int .i64 d, .agg #[.string m.name, .int .i64 m.to, .int .i64 m.spd, .int .i64 m.rise, .int .i64 m.fall]] w fun e w' => e = .returned (.bool true) ∧ Below w.heap.size w w' := by
  obtain ⟨t, ht⟩ := top_some d m
  cases hr : readyP d m
  · have HR := Lib.hid hr
    clear hr ht
    go_enter Try.func6, Try.ntmps6
    go_upto_region 1 with (fail)
    have k0 : ((w.alloc (.cells #[.int .i64 d] 3)).alloc (.cells #[.string m.name, .int .i64 m.to, .int .i64 m.spd, .int .i64 m.rise, .int .i64 m.fall] 23)).cell? ⟨w.heap.size + 1, 0, none⟩ = some (.string m.name) := by simp
    have k1 : ((w.alloc (.cells #[.int .i64 d] 3)).alloc (.cells #[.string m.name, .int .i64 m.to, .int .i64 m.spd, .int .i64 m.rise, .int .i64 m.fall] 23)).cell? ⟨w.heap.size + 1, 1, none⟩ = some (.int .i64 m.to) := by simp
    have k2 : ((w.alloc (.cells #[.int .i64 d] 3)).alloc (.cells #[.string m.name, .int .i64 m.to, .int .i64 m.spd, .int .i64 m.rise, .int .i64 m.fall] 23)).cell? ⟨w.heap.size + 1, 2, none⟩ = some (.int .i64 m.spd) := by simp
    have k3 : ((w.alloc (.cells #[.int .i64 d] 3)).alloc (.cells #[.string m.name, .int .i64 m.to, .int .i64 m.spd, .int .i64 m.rise, .int .i64 m.fall] 23)).cell? ⟨w.heap.size + 1, 3, none⟩ = some (.int .i64 m.rise) := by simp
    have k4 : ((w.alloc (.cells #[.int .i64 d] 3)).alloc (.cells #[.string m.name, .int .i64 m.to, .int .i64 m.spd, .int .i64 m.rise, .int .i64 m.fall] 23)).cell? ⟨w.heap.size + 1, 4, none⟩ = some (.int .i64 m.fall) := by simp
    have k5 : ((w.alloc (.cells #[.int .i64 d] 3)).alloc (.cells #[.string m.name, .int .i64 m.to, .int .i64 m.spd, .int .i64 m.rise, .int .i64 m.fall] 23)).cell? ⟨w.heap.size, 0, none⟩ = some (.int .i64 d) := by simp
    have hz : w.heap.size + 1 < ((w.alloc (.cells #[.int .i64 d] 3)).alloc (.cells #[.string m.name, .int .i64 m.to, .int .i64 m.spd, .int .i64 m.rise, .int .i64 m.fall] 23)).heap.size := by simp
    have hW0 : Below w.heap.size w ((w.alloc (.cells #[.int .i64 d] 3)).alloc (.cells #[.string m.name, .int .i64 m.to, .int .i64 m.spd, .int .i64 m.rise, .int .i64 m.fall] 23)) := (below_new _ _).alloc (by simp) _
    generalize ((w.alloc (.cells #[.int .i64 d] 3)).alloc (.cells #[.string m.name, .int .i64 m.to, .int .i64 m.spd, .int .i64 m.rise, .int .i64 m.fall] 23)) = W0 at *
    have x0 : ∀ wr, Below W0.heap.size W0 wr → wr.cell? ⟨w.heap.size + 1, 0, none⟩ = some (.string m.name) := fun wr h => (h.cell (p := ⟨w.heap.size + 1, 0, none⟩) hz).trans k0
    have x1 : ∀ wr, Below W0.heap.size W0 wr → wr.cell? ⟨w.heap.size + 1, 1, none⟩ = some (.int .i64 m.to) := fun wr h => (h.cell (p := ⟨w.heap.size + 1, 1, none⟩) hz).trans k1
    have x2 : ∀ wr, Below W0.heap.size W0 wr → wr.cell? ⟨w.heap.size + 1, 2, none⟩ = some (.int .i64 m.spd) := fun wr h => (h.cell (p := ⟨w.heap.size + 1, 2, none⟩) hz).trans k2
    have x3 : ∀ wr, Below W0.heap.size W0 wr → wr.cell? ⟨w.heap.size + 1, 3, none⟩ = some (.int .i64 m.rise) := fun wr h => (h.cell (p := ⟨w.heap.size + 1, 3, none⟩) hz).trans k3
    have x4 : ∀ wr, Below W0.heap.size W0 wr → wr.cell? ⟨w.heap.size + 1, 4, none⟩ = some (.int .i64 m.fall) := fun wr h => (h.cell (p := ⟨w.heap.size + 1, 4, none⟩) hz).trans k4
    have x5 : ∀ wr, Below W0.heap.size W0 wr → wr.cell? ⟨w.heap.size, 0, none⟩ = some (.int .i64 d) := fun wr h => (h.cell (p := ⟨w.heap.size, 0, none⟩) (by simp <;> omega)).trans k5
    clear k0 k1 k2 k3 k4 k5 hz
    go_wp2_with (first
      | (go_at_call 10; (with_reducible refine (awake_any _).mono ?_); rintro e w1 ⟨rfl, hB1⟩)
      | (go_at_call 19; (with_reducible refine (ready_any d m _).mono ?_); rintro e w2 ⟨rfl, hb2⟩; rw [HR.out]; have hB2 := hB1.trans (hb2.mono hB1.size)))
    go_ret
    exact ⟨rfl, hW0.trans (hB2.mono hW0.size)⟩
  · have HR := Lib.hid hr
    obtain ⟨hl, hg⟩ := ready_iff.1 hr
    have hT := ht hg
    obtain ⟨hv, hdd⟩ := given_ok hg
    obtain ⟨V0, V1, R0, R1, F0, F1⟩ := valid_bds hv
    obtain ⟨d1, d2⟩ := inB_iff.1 hdd
    have t0 := hT.1
    have t1 := hT.2.1
    have HC := Lib.hid (Top_any d m t ht)
    have HK := Lib.hid (Knots_any d m t ht)
    have HG := Lib.hid hg
    have HT : Hid (topR d m t = t) := Lib.hid (by unfold topR; rw [if_pos hg])
    have z0 : decide (t < 0) = false := decide_eq_false (by omega)
    have z1 : decide (m.spd < t) = false := decide_eq_false (by omega)
    have HKL := Lib.hid (knots_len d m t)
    have HTop := Lib.hid hT
    clear hr hl hv hdd ht hg
    by_cases dz : d = 0
    · have HLN : Hid ((knotsL d m.rise m.fall t).length = 1) := Lib.hid (by rw [HKL.out, if_pos dz])
      have HTZ : Hid (t = 0) := Lib.hid (top_unique (by omega) (by omega) hT (by rw [dz]; exact top_zero (by omega) (by omega) (by omega)))
      have z2 : (d == 0) = true := by simpa using dz
      have z3 : (t == 0) = true := by rw [HTZ.out]; rfl
      clear hT dz
      go_enter Try.func6, Try.ntmps6
      go_upto_region 1 with (fail)
      have k0 : ((w.alloc (.cells #[.int .i64 d] 3)).alloc (.cells #[.string m.name, .int .i64 m.to, .int .i64 m.spd, .int .i64 m.rise, .int .i64 m.fall] 23)).cell? ⟨w.heap.size + 1, 0, none⟩ = some (.string m.name) := by simp
      have k1 : ((w.alloc (.cells #[.int .i64 d] 3)).alloc (.cells #[.string m.name, .int .i64 m.to, .int .i64 m.spd, .int .i64 m.rise, .int .i64 m.fall] 23)).cell? ⟨w.heap.size + 1, 1, none⟩ = some (.int .i64 m.to) := by simp
      have k2 : ((w.alloc (.cells #[.int .i64 d] 3)).alloc (.cells #[.string m.name, .int .i64 m.to, .int .i64 m.spd, .int .i64 m.rise, .int .i64 m.fall] 23)).cell? ⟨w.heap.size + 1, 2, none⟩ = some (.int .i64 m.spd) := by simp
      have k3 : ((w.alloc (.cells #[.int .i64 d] 3)).alloc (.cells #[.string m.name, .int .i64 m.to, .int .i64 m.spd, .int .i64 m.rise, .int .i64 m.fall] 23)).cell? ⟨w.heap.size + 1, 3, none⟩ = some (.int .i64 m.rise) := by simp
      have k4 : ((w.alloc (.cells #[.int .i64 d] 3)).alloc (.cells #[.string m.name, .int .i64 m.to, .int .i64 m.spd, .int .i64 m.rise, .int .i64 m.fall] 23)).cell? ⟨w.heap.size + 1, 4, none⟩ = some (.int .i64 m.fall) := by simp
      have k5 : ((w.alloc (.cells #[.int .i64 d] 3)).alloc (.cells #[.string m.name, .int .i64 m.to, .int .i64 m.spd, .int .i64 m.rise, .int .i64 m.fall] 23)).cell? ⟨w.heap.size, 0, none⟩ = some (.int .i64 d) := by simp
      have hz : w.heap.size + 1 < ((w.alloc (.cells #[.int .i64 d] 3)).alloc (.cells #[.string m.name, .int .i64 m.to, .int .i64 m.spd, .int .i64 m.rise, .int .i64 m.fall] 23)).heap.size := by simp
      have hW0 : Below w.heap.size w ((w.alloc (.cells #[.int .i64 d] 3)).alloc (.cells #[.string m.name, .int .i64 m.to, .int .i64 m.spd, .int .i64 m.rise, .int .i64 m.fall] 23)) := (below_new _ _).alloc (by simp) _
      generalize ((w.alloc (.cells #[.int .i64 d] 3)).alloc (.cells #[.string m.name, .int .i64 m.to, .int .i64 m.spd, .int .i64 m.rise, .int .i64 m.fall] 23)) = W0 at *
      have x0 : ∀ wr, Below W0.heap.size W0 wr → wr.cell? ⟨w.heap.size + 1, 0, none⟩ = some (.string m.name) := fun wr h => (h.cell (p := ⟨w.heap.size + 1, 0, none⟩) hz).trans k0
      have x1 : ∀ wr, Below W0.heap.size W0 wr → wr.cell? ⟨w.heap.size + 1, 1, none⟩ = some (.int .i64 m.to) := fun wr h => (h.cell (p := ⟨w.heap.size + 1, 1, none⟩) hz).trans k1
      have x2 : ∀ wr, Below W0.heap.size W0 wr → wr.cell? ⟨w.heap.size + 1, 2, none⟩ = some (.int .i64 m.spd) := fun wr h => (h.cell (p := ⟨w.heap.size + 1, 2, none⟩) hz).trans k2
      have x3 : ∀ wr, Below W0.heap.size W0 wr → wr.cell? ⟨w.heap.size + 1, 3, none⟩ = some (.int .i64 m.rise) := fun wr h => (h.cell (p := ⟨w.heap.size + 1, 3, none⟩) hz).trans k3
      have x4 : ∀ wr, Below W0.heap.size W0 wr → wr.cell? ⟨w.heap.size + 1, 4, none⟩ = some (.int .i64 m.fall) := fun wr h => (h.cell (p := ⟨w.heap.size + 1, 4, none⟩) hz).trans k4
      have x5 : ∀ wr, Below W0.heap.size W0 wr → wr.cell? ⟨w.heap.size, 0, none⟩ = some (.int .i64 d) := fun wr h => (h.cell (p := ⟨w.heap.size, 0, none⟩) (by simp <;> omega)).trans k5
      clear k0 k1 k2 k3 k4 k5 hz
      go_wp2_with (first
        | (go_at_call 10; (with_reducible refine (awake_any _).mono ?_); rintro e w1 ⟨rfl, hB1⟩)
        | (go_at_call 19; (with_reducible refine (ready_any d m _).mono ?_); rintro e w2 ⟨rfl, hb2⟩; rw [HR.out]; have hB2 := hB1.trans (hb2.mono hB1.size))
        | (go_at_call 11; (with_reducible refine (HC.out _).mono ?_); rintro e w3 ⟨rfl, hb3⟩; rw [HT.out, HG.out]; have hB3 := hB2.trans (hb3.mono hB2.size))
        | (go_at_call 22; (with_reducible refine (HK.out _).mono ?_); rintro e w4 ⟨hv, hb4⟩; obtain ⟨v, rfl, hrow⟩ := hv.out; rw [HG.out]; have hr1 := hrow.1 HG.out; obtain ⟨pa, pcap, hve, _, _, _, _⟩ := fr_of_row hr1; rw [HLN.out] at hve; subst hve; have hB4 := hB3.trans (hb4.mono hB3.size); clear hv hrow hr1))
      go_ret
      exact ⟨rfl, hW0.trans (hB4.mono hW0.size)⟩
    · have z2 : (d == 0) = false := by simpa using dz
      have tp := top_pos (show 1 ≤ d by omega) R0 F0 V0 hT
      have z3 : decide (1 ≤ t) = true := decide_eq_true tp
      have z4 : IntKind.i64.wrap (t + 1) = t + 1 := IntWalk.i64_in _ (by omega)
      have HN1 := Lib.hid (need_any d m t true HG.out t0 (by omega) ⟨fun _ => rfl, fun _ => hT.2.2.1⟩)
      obtain ⟨B1, B2, B3, B4, _, _, _, _, _, B5, B6⟩ := room_bd (d := d) (R := m.rise) (F := m.fall) (w := t) d1 d2 (by omega) R1 (by omega) F1 t0 (by omega)
      have B7 : 2 * m.rise * m.fall * d ≤ 536870912 * 1048576 := Int.mul_le_mul B6 d2 d1 (by decide)
      have B8 := Int.mul_nonneg B5 d1
      have s4 : IntKind.i64.wrap (t * t) = t * t := IntWalk.i64_in _ (by omega)
      have s5 : IntKind.i64.wrap (m.rise + m.fall) = m.rise + m.fall := IntWalk.i64_in _ (by omega)
      have s6 : IntKind.i64.wrap (t * t * (m.rise + m.fall)) = t * t * (m.rise + m.fall) := IntWalk.i64_in _ (by omega)
      have s7 : IntKind.i64.wrap (2 * m.rise) = 2 * m.rise := IntWalk.i64_in _ (by omega)
      have s8 : IntKind.i64.wrap (2 * m.rise * m.fall) = 2 * m.rise * m.fall := IntWalk.i64_in _ (by omega)
      have s9 : IntKind.i64.wrap (2 * m.rise * m.fall * d) = 2 * m.rise * m.fall * d := IntWalk.i64_in _ (by omega)
      have hk : kP d m.rise m.fall t = 2 * m.rise * m.fall * d - t * t * (m.rise + m.fall) := rfl
      obtain ⟨n, q, hnq, hq⟩ : ∃ (n : Nat) (q : Bool), (q = true ∧ n = 3 ∨ q = false ∧ n = 4) ∧ (knotsL d m.rise m.fall t).length = n ∧ (t * t * (m.rise + m.fall) == 2 * m.rise * m.fall * d) = q := by
        rw [HKL.out, if_neg dz]
        by_cases c : kP d m.rise m.fall t = 0
        · exact ⟨3, true, .inl ⟨rfl, rfl⟩, by rw [if_pos c], by rw [beq_iff_eq]; omega⟩
        · exact ⟨4, false, .inr ⟨rfl, rfl⟩, by rw [if_neg c], by rw [beq_eq_false_iff_ne]; omega⟩
      have HLN := Lib.hid hq.1
      have z6 := hq.2
      clear hq hk B1 B2 B3 B4 B5 B6 B7 B8 dz
      by_cases ts : t = m.spd
      · have z5 : (t == m.spd) = true := by simpa using ts
        clear ts hT
        rcases hnq with ⟨rfl, rfl⟩ | ⟨rfl, rfl⟩
        all_goals
          go_enter Try.func6, Try.ntmps6
          go_upto_region 1 with (fail)
          have k0 : ((w.alloc (.cells #[.int .i64 d] 3)).alloc (.cells #[.string m.name, .int .i64 m.to, .int .i64 m.spd, .int .i64 m.rise, .int .i64 m.fall] 23)).cell? ⟨w.heap.size + 1, 0, none⟩ = some (.string m.name) := by simp
          have k1 : ((w.alloc (.cells #[.int .i64 d] 3)).alloc (.cells #[.string m.name, .int .i64 m.to, .int .i64 m.spd, .int .i64 m.rise, .int .i64 m.fall] 23)).cell? ⟨w.heap.size + 1, 1, none⟩ = some (.int .i64 m.to) := by simp
          have k2 : ((w.alloc (.cells #[.int .i64 d] 3)).alloc (.cells #[.string m.name, .int .i64 m.to, .int .i64 m.spd, .int .i64 m.rise, .int .i64 m.fall] 23)).cell? ⟨w.heap.size + 1, 2, none⟩ = some (.int .i64 m.spd) := by simp
          have k3 : ((w.alloc (.cells #[.int .i64 d] 3)).alloc (.cells #[.string m.name, .int .i64 m.to, .int .i64 m.spd, .int .i64 m.rise, .int .i64 m.fall] 23)).cell? ⟨w.heap.size + 1, 3, none⟩ = some (.int .i64 m.rise) := by simp
          have k4 : ((w.alloc (.cells #[.int .i64 d] 3)).alloc (.cells #[.string m.name, .int .i64 m.to, .int .i64 m.spd, .int .i64 m.rise, .int .i64 m.fall] 23)).cell? ⟨w.heap.size + 1, 4, none⟩ = some (.int .i64 m.fall) := by simp
          have k5 : ((w.alloc (.cells #[.int .i64 d] 3)).alloc (.cells #[.string m.name, .int .i64 m.to, .int .i64 m.spd, .int .i64 m.rise, .int .i64 m.fall] 23)).cell? ⟨w.heap.size, 0, none⟩ = some (.int .i64 d) := by simp
          have hz : w.heap.size + 1 < ((w.alloc (.cells #[.int .i64 d] 3)).alloc (.cells #[.string m.name, .int .i64 m.to, .int .i64 m.spd, .int .i64 m.rise, .int .i64 m.fall] 23)).heap.size := by simp
          have hW0 : Below w.heap.size w ((w.alloc (.cells #[.int .i64 d] 3)).alloc (.cells #[.string m.name, .int .i64 m.to, .int .i64 m.spd, .int .i64 m.rise, .int .i64 m.fall] 23)) := (below_new _ _).alloc (by simp) _
          generalize ((w.alloc (.cells #[.int .i64 d] 3)).alloc (.cells #[.string m.name, .int .i64 m.to, .int .i64 m.spd, .int .i64 m.rise, .int .i64 m.fall] 23)) = W0 at *
          have x0 : ∀ wr, Below W0.heap.size W0 wr → wr.cell? ⟨w.heap.size + 1, 0, none⟩ = some (.string m.name) := fun wr h => (h.cell (p := ⟨w.heap.size + 1, 0, none⟩) hz).trans k0
          have x1 : ∀ wr, Below W0.heap.size W0 wr → wr.cell? ⟨w.heap.size + 1, 1, none⟩ = some (.int .i64 m.to) := fun wr h => (h.cell (p := ⟨w.heap.size + 1, 1, none⟩) hz).trans k1
          have x2 : ∀ wr, Below W0.heap.size W0 wr → wr.cell? ⟨w.heap.size + 1, 2, none⟩ = some (.int .i64 m.spd) := fun wr h => (h.cell (p := ⟨w.heap.size + 1, 2, none⟩) hz).trans k2
          have x3 : ∀ wr, Below W0.heap.size W0 wr → wr.cell? ⟨w.heap.size + 1, 3, none⟩ = some (.int .i64 m.rise) := fun wr h => (h.cell (p := ⟨w.heap.size + 1, 3, none⟩) hz).trans k3
          have x4 : ∀ wr, Below W0.heap.size W0 wr → wr.cell? ⟨w.heap.size + 1, 4, none⟩ = some (.int .i64 m.fall) := fun wr h => (h.cell (p := ⟨w.heap.size + 1, 4, none⟩) hz).trans k4
          have x5 : ∀ wr, Below W0.heap.size W0 wr → wr.cell? ⟨w.heap.size, 0, none⟩ = some (.int .i64 d) := fun wr h => (h.cell (p := ⟨w.heap.size, 0, none⟩) (by simp <;> omega)).trans k5
          clear k0 k1 k2 k3 k4 k5 hz
          go_wp2_with (first
            | (go_at_call 10; (with_reducible refine (awake_any _).mono ?_); rintro e w1 ⟨rfl, hB1⟩)
            | (go_at_call 19; (with_reducible refine (ready_any d m _).mono ?_); rintro e w2 ⟨rfl, hb2⟩; rw [HR.out]; have hB2 := hB1.trans (hb2.mono hB1.size))
            | (go_at_call 11; (with_reducible refine (HC.out _).mono ?_); rintro e w3 ⟨rfl, hb3⟩; rw [HT.out, HG.out]; have hB3 := hB2.trans (hb3.mono hB2.size))
            | (go_at_call 22; (with_reducible refine (HK.out _).mono ?_); rintro e w4 ⟨hv, hb4⟩; obtain ⟨v, rfl, hrow⟩ := hv.out; rw [HG.out]; have hr1 := hrow.1 HG.out; obtain ⟨pa, pcap, hve, _, _, _, _⟩ := fr_of_row hr1; rw [HLN.out] at hve; subst hve; have hB4 := hB3.trans (hb4.mono hB3.size); clear hv hrow hr1)
            | (go_at_call 23; (with_reducible refine (HN1.out _ _ _ (x3 _ hB4) (x4 _ hB4) (x5 _ hB4)).mono ?_); rintro e w' ⟨rfl, rfl⟩))
          go_ret
          exact ⟨rfl, hW0.trans (hB4.mono hW0.size)⟩
      · have z5 : (t == m.spd) = false := by simpa using ts
        have HN2 := Lib.hid (need_any d m (t + 1) false HG.out (by omega) (by omega) ⟨fun h => by rcases hT.2.2.2 with e | e; exact absurd e ts; exact absurd h e, fun h => by cases h⟩)
        clear ts hT
        rcases hnq with ⟨rfl, rfl⟩ | ⟨rfl, rfl⟩
        all_goals
          go_enter Try.func6, Try.ntmps6
          go_upto_region 1 with (fail)
          have k0 : ((w.alloc (.cells #[.int .i64 d] 3)).alloc (.cells #[.string m.name, .int .i64 m.to, .int .i64 m.spd, .int .i64 m.rise, .int .i64 m.fall] 23)).cell? ⟨w.heap.size + 1, 0, none⟩ = some (.string m.name) := by simp
          have k1 : ((w.alloc (.cells #[.int .i64 d] 3)).alloc (.cells #[.string m.name, .int .i64 m.to, .int .i64 m.spd, .int .i64 m.rise, .int .i64 m.fall] 23)).cell? ⟨w.heap.size + 1, 1, none⟩ = some (.int .i64 m.to) := by simp
          have k2 : ((w.alloc (.cells #[.int .i64 d] 3)).alloc (.cells #[.string m.name, .int .i64 m.to, .int .i64 m.spd, .int .i64 m.rise, .int .i64 m.fall] 23)).cell? ⟨w.heap.size + 1, 2, none⟩ = some (.int .i64 m.spd) := by simp
          have k3 : ((w.alloc (.cells #[.int .i64 d] 3)).alloc (.cells #[.string m.name, .int .i64 m.to, .int .i64 m.spd, .int .i64 m.rise, .int .i64 m.fall] 23)).cell? ⟨w.heap.size + 1, 3, none⟩ = some (.int .i64 m.rise) := by simp
          have k4 : ((w.alloc (.cells #[.int .i64 d] 3)).alloc (.cells #[.string m.name, .int .i64 m.to, .int .i64 m.spd, .int .i64 m.rise, .int .i64 m.fall] 23)).cell? ⟨w.heap.size + 1, 4, none⟩ = some (.int .i64 m.fall) := by simp
          have k5 : ((w.alloc (.cells #[.int .i64 d] 3)).alloc (.cells #[.string m.name, .int .i64 m.to, .int .i64 m.spd, .int .i64 m.rise, .int .i64 m.fall] 23)).cell? ⟨w.heap.size, 0, none⟩ = some (.int .i64 d) := by simp
          have hz : w.heap.size + 1 < ((w.alloc (.cells #[.int .i64 d] 3)).alloc (.cells #[.string m.name, .int .i64 m.to, .int .i64 m.spd, .int .i64 m.rise, .int .i64 m.fall] 23)).heap.size := by simp
          have hW0 : Below w.heap.size w ((w.alloc (.cells #[.int .i64 d] 3)).alloc (.cells #[.string m.name, .int .i64 m.to, .int .i64 m.spd, .int .i64 m.rise, .int .i64 m.fall] 23)) := (below_new _ _).alloc (by simp) _
          generalize ((w.alloc (.cells #[.int .i64 d] 3)).alloc (.cells #[.string m.name, .int .i64 m.to, .int .i64 m.spd, .int .i64 m.rise, .int .i64 m.fall] 23)) = W0 at *
          have x0 : ∀ wr, Below W0.heap.size W0 wr → wr.cell? ⟨w.heap.size + 1, 0, none⟩ = some (.string m.name) := fun wr h => (h.cell (p := ⟨w.heap.size + 1, 0, none⟩) hz).trans k0
          have x1 : ∀ wr, Below W0.heap.size W0 wr → wr.cell? ⟨w.heap.size + 1, 1, none⟩ = some (.int .i64 m.to) := fun wr h => (h.cell (p := ⟨w.heap.size + 1, 1, none⟩) hz).trans k1
          have x2 : ∀ wr, Below W0.heap.size W0 wr → wr.cell? ⟨w.heap.size + 1, 2, none⟩ = some (.int .i64 m.spd) := fun wr h => (h.cell (p := ⟨w.heap.size + 1, 2, none⟩) hz).trans k2
          have x3 : ∀ wr, Below W0.heap.size W0 wr → wr.cell? ⟨w.heap.size + 1, 3, none⟩ = some (.int .i64 m.rise) := fun wr h => (h.cell (p := ⟨w.heap.size + 1, 3, none⟩) hz).trans k3
          have x4 : ∀ wr, Below W0.heap.size W0 wr → wr.cell? ⟨w.heap.size + 1, 4, none⟩ = some (.int .i64 m.fall) := fun wr h => (h.cell (p := ⟨w.heap.size + 1, 4, none⟩) hz).trans k4
          have x5 : ∀ wr, Below W0.heap.size W0 wr → wr.cell? ⟨w.heap.size, 0, none⟩ = some (.int .i64 d) := fun wr h => (h.cell (p := ⟨w.heap.size, 0, none⟩) (by simp <;> omega)).trans k5
          clear k0 k1 k2 k3 k4 k5 hz
          go_wp2_with (first
            | (go_at_call 10; (with_reducible refine (awake_any _).mono ?_); rintro e w1 ⟨rfl, hB1⟩)
            | (go_at_call 19; (with_reducible refine (ready_any d m _).mono ?_); rintro e w2 ⟨rfl, hb2⟩; rw [HR.out]; have hB2 := hB1.trans (hb2.mono hB1.size))
            | (go_at_call 11; (with_reducible refine (HC.out _).mono ?_); rintro e w3 ⟨rfl, hb3⟩; rw [HT.out, HG.out]; have hB3 := hB2.trans (hb3.mono hB2.size))
            | (go_at_call 22; (with_reducible refine (HK.out _).mono ?_); rintro e w4 ⟨hv, hb4⟩; obtain ⟨v, rfl, hrow⟩ := hv.out; rw [HG.out]; have hr1 := hrow.1 HG.out; obtain ⟨pa, pcap, hve, _, _, _, _⟩ := fr_of_row hr1; rw [HLN.out] at hve; subst hve; have hB4 := hB3.trans (hb4.mono hB3.size); clear hv hrow hr1)
            | (go_at_call 23; (with_reducible refine (HN1.out _ _ _ (x3 _ hB4) (x4 _ hB4) (x5 _ hB4)).mono ?_); rintro e w' ⟨rfl, rfl⟩)
            | (go_at_call 23; (with_reducible refine (HN2.out _ _ _ (x3 _ hB4) (x4 _ hB4) (x5 _ hB4)).mono ?_); rintro e w' ⟨rfl, rfl⟩))
          go_ret
          exact ⟨rfl, hW0.trans (hB4.mono hW0.size)⟩
end Go.Proofs.Ytlgpolfbilkmbaa
namespace Go.Proofs.Ytlgpolfbilkmbaa
open Go.RowKit Go.Shelf

set_option maxRecDepth 100000 in
set_option maxHeartbeats 16000000 in
theorem rcmp_any (an ad bn bd : Int) (a0 : 0 ≤ an) (a1 : an ≤ 9223372036854775807) (a2 : 0 ≤ ad) (a3 : ad ≤ 9223372036854775807) (b0 : 0 ≤ bn) (b1 : bn ≤ 9223372036854775807) (b2 : 0 ≤ bd) (b3 : bd ≤ 9223372036854775807) (w : World) :
    Calls Try.prog 21 #[.agg #[.int .i64 an, .int .i64 ad], .agg #[.int .i64 bn, .int .i64 bd]] w fun e w' => e = .returned (.int .i64 (cmpP (an * bd) (bn * ad))) ∧ Below w.heap.size w w' := by
  have n1 : (an.natAbs : Int) = an := by omega
  have n2 : (ad.natAbs : Int) = ad := by omega
  have n3 : (bn.natAbs : Int) = bn := by omega
  have n4 : (bd.natAbs : Int) = bd := by omega
  have z1 := rsize_any an (by omega) (by omega)
  have z2 := rsize_any ad (by omega) (by omega)
  have z3 := rsize_any bn (by omega) (by omega)
  have z4 := rsize_any bd (by omega) (by omega)
  rw [n1] at z1
  rw [n2] at z2
  rw [n3] at z3
  rw [n4] at z4
  have x1 := rmul_any an bd a0 (by omega) b2 (by omega)
  have x2 := rmul_any bn ad b0 (by omega) a2 (by omega)
  generalize an * bd = x at *
  generalize bn * ad = y at *
  have hL := lessU_of x y
  obtain ⟨xh, hxh⟩ : ∃ h, x / 18446744073709551616 = h := ⟨_, rfl⟩
  obtain ⟨xl, hxl⟩ : ∃ h, x % 18446744073709551616 = h := ⟨_, rfl⟩
  obtain ⟨yh, hyh⟩ : ∃ h, y / 18446744073709551616 = h := ⟨_, rfl⟩
  obtain ⟨yl, hyl⟩ : ∃ h, y % 18446744073709551616 = h := ⟨_, rfl⟩
  rw [hxh, hxl] at x1
  rw [hyh, hyl] at x2
  rw [hxh, hxl, hyh, hyl] at hL
  have hE : x = y ↔ (xh = yh ∧ xl = yl) := by omega
  have X1 := Lib.hid x1
  have X2 := Lib.hid x2
  have Z1 := Lib.hid z1
  have Z2 := Lib.hid z2
  have Z3 := Lib.hid z3
  have Z4 := Lib.hid z4
  have HL := Lib.hid hL
  have HE := Lib.hid hE
  clear n1 n2 n3 n4 z1 z2 z3 z4 x1 x2 hL hE hxh hxl hyh hyl
  have g1 : decide (an < 0) = false := decide_eq_false (by omega)
  have g2 : decide (0 ≤ an) = true := decide_eq_true a0
  have g3 : decide (bn < 0) = false := decide_eq_false (by omega)
  have W0b : Below w.heap.size w ((w.alloc (.cells #[.int .i64 an, .int .i64 ad] 39)).alloc (.cells #[.int .i64 bn, .int .i64 bd] 39)) := below_a _ (below_new _ _)
  obtain ⟨c, hc⟩ : ∃ c, cmpP x y = c := ⟨_, rfl⟩
  rw [hc]
  have HC := Lib.hid hc
  clear hc
  go_enter Try.func21, Try.ntmps21
  go_upto_region 1 with (fail)
  have c0 : ((w.alloc (.cells #[.int .i64 an, .int .i64 ad] 39)).alloc (.cells #[.int .i64 bn, .int .i64 bd] 39)).cell? ⟨w.heap.size, 0, none⟩ = some (.int .i64 an) := by simp
  have c1 : ((w.alloc (.cells #[.int .i64 an, .int .i64 ad] 39)).alloc (.cells #[.int .i64 bn, .int .i64 bd] 39)).cell? ⟨w.heap.size, 1, none⟩ = some (.int .i64 ad) := by simp
  have c2 : ((w.alloc (.cells #[.int .i64 an, .int .i64 ad] 39)).alloc (.cells #[.int .i64 bn, .int .i64 bd] 39)).cell? ⟨w.heap.size + 1, 0, none⟩ = some (.int .i64 bn) := by simp
  have c3 : ((w.alloc (.cells #[.int .i64 an, .int .i64 ad] 39)).alloc (.cells #[.int .i64 bn, .int .i64 bd] 39)).cell? ⟨w.heap.size + 1, 1, none⟩ = some (.int .i64 bd) := by simp
  obtain ⟨Bb, hBb⟩ : ∃ b, w.heap.size + 1 = b := ⟨_, rfl⟩
  simp only [hBb] at c2 c3 ⊢
  clear hBb
  generalize (w.alloc (.cells #[.int .i64 an, .int .i64 ad] 39)).alloc (.cells #[.int .i64 bn, .int .i64 bd] 39) = W0 at *
  have HS : Hid (∀ w', Below W0.heap.size W0 w' → Below W0.heap.size W0 w' ∧ w'.cell? ⟨w.heap.size, 0, none⟩ = some (.int .i64 an) ∧ w'.cell? ⟨w.heap.size, 1, none⟩ = some (.int .i64 ad) ∧ w'.cell? ⟨Bb, 0, none⟩ = some (.int .i64 bn) ∧ w'.cell? ⟨Bb, 1, none⟩ = some (.int .i64 bd)) := Lib.hid fun w' h =>
    ⟨h, (h.cell (p := ⟨w.heap.size, 0, none⟩) (World.block_lt_of_cell? _ _ c0)).trans c0, (h.cell (p := ⟨w.heap.size, 1, none⟩) (World.block_lt_of_cell? _ _ c1)).trans c1, (h.cell (p := ⟨Bb, 0, none⟩) (World.block_lt_of_cell? _ _ c2)).trans c2, (h.cell (p := ⟨Bb, 1, none⟩) (World.block_lt_of_cell? _ _ c3)).trans c3⟩
  refine rcmp1 HS Z1 Z2 Z3 Z4 X1 X2 ?_
  intro u5 u6 u7 u8 u9 u10 u11 u12 u13 u14 u15 u16 u17 u18 u19 u20 u21 u22 u23 u24 u25 u26 u27 u28 u29 u30 u31 u32 u33 u34 u35 u36 u37 u38 u39 u40 u41 u42 u43 u44 u45 u46 wc hcut
  · obtain ⟨B5, B6, rfl, rfl, hBn, ⟨y0, y1⟩, ⟨y2, y3⟩⟩ := hcut
    obtain ⟨W1, rfl⟩ : ∃ W : World, W = wc := ⟨_, rfl⟩
    clear c0 c1 c2 c3
    obtain ⟨_, c0, c1, c2, c3⟩ := HS.out _ hBn
    have W1b := W0b.trans (hBn.mono W0b.size)
    clear HS hBn W0b
    by_cases he : x = y
    · have HR : Hid (c = 0) := Lib.hid (by rw [← HC.out]; unfold cmpP; rw [if_pos he])
      obtain ⟨e1, e2⟩ := HE.out.1 he
      have q1 : (xh == yh) = true := by simpa using e1
      have q2 : (xl == yl) = true := by simpa using e2
      clear he e1 e2 g3
      go_wp2_with fail
      go_ret
      exact ⟨ret_u HR.out.symm, W1b⟩
    · have hne : ¬ (xh = yh ∧ xl = yl) := fun h => he (HE.out.2 h)
      have HX : Hid (c = if x < y then -1 else 1) := Lib.hid (by rw [← HC.out]; unfold cmpP; rw [if_neg he])
      by_cases hl : x < y
      all_goals
        first
          | (have hl' : decide (x < y) = true := decide_eq_true hl
             have HR : Hid (c = -1) := Lib.hid (by rw [HX.out, if_pos hl])
             rw [hl'] at HL)
          | (have hl' : decide (x < y) = false := decide_eq_false hl
             have HR : Hid (c = 1) := Lib.hid (by rw [HX.out, if_neg hl])
             rw [hl'] at HL)
        have hw1 : Below W1.heap.size W1 W1 := Below.refl _ _
        clear he hl hl'
        by_cases hh : xh = yh
        all_goals
          first
            | (have q1 : (xh == yh) = true := by simpa using hh
               have q2 : (xl == yl) = false := by simpa using fun h => hne ⟨hh, h⟩
               clear hh hne)
            | (have q1 : (xh == yh) = false := by simpa using hh
               clear hh hne)
          go_upto_region 8 with (fail)
          have HS8 : Hid (∀ w', Below W1.heap.size W1 w' → Below W1.heap.size W1 w' ∧ w'.cell? ⟨w.heap.size, 0, none⟩ = some (.int .i64 an) ∧ w'.cell? ⟨B5, 0, none⟩ = some (.int .u64 xh) ∧ w'.cell? ⟨B5, 1, none⟩ = some (.int .u64 xl) ∧ w'.cell? ⟨B6, 0, none⟩ = some (.int .u64 yh) ∧ w'.cell? ⟨B6, 1, none⟩ = some (.int .u64 yl)) := Lib.hid fun w' h =>
            ⟨h, (h.cell (p := ⟨w.heap.size, 0, none⟩) (World.block_lt_of_cell? _ _ c0)).trans c0, (h.cell (p := ⟨B5, 0, none⟩) (World.block_lt_of_cell? _ _ y0)).trans y0, (h.cell (p := ⟨B5, 1, none⟩) (World.block_lt_of_cell? _ _ y1)).trans y1, (h.cell (p := ⟨B6, 0, none⟩) (World.block_lt_of_cell? _ _ y2)).trans y2, (h.cell (p := ⟨B6, 1, none⟩) (World.block_lt_of_cell? _ _ y3)).trans y3⟩
          have hbd8 := hw1.drew
          clear c0 c1 c2 c3 y0 y1 y2 y3 q1
          go_region_held3 (fun w' => Below W1.heap.size W1 w' ∧ w'.cell? ⟨w.heap.size, 0, none⟩ = some (.int .i64 an) ∧ w'.cell? ⟨B5, 0, none⟩ = some (.int .u64 xh) ∧ w'.cell? ⟨B5, 1, none⟩ = some (.int .u64 xl) ∧ w'.cell? ⟨B6, 0, none⟩ = some (.int .u64 yh) ∧ w'.cell? ⟨B6, 1, none⟩ = some (.int .u64 yl))
            (first | exact HS8.out _ hbd8 | exact HS8.out _ hx8)
            (first
              | (go_at_call 54; go_split_ands; (with_reducible refine (rlessU_any xh xl yh yl _).mono ?_); rw [HL.out]; rintro e w8 ⟨rfl, hb8⟩; have hx8 : Below W1.heap.size W1 w8 := hbd8.trans hb8))
          all_goals go_wp2_with fail
          all_goals go_ret
          all_goals exact ⟨ret_u HR.out.symm, W1b.trans (hx8.mono W1b.size)⟩
end Go.Proofs.Ytlgpolfbilkmbaa
namespace Go.Proofs.Ytlgpolfbilkmbaa
open Go.RowKit Go.Shelf

/-- What the law asks of the slope at a part of the time. -/
theorem smooth_part {T : Int × Int} (vT : vF T = true) {p : Int} (hp : (partT T p).2.2 = 0) : vF ((partT T p).1, (partT T p).2.1) = true := (mulP_ok (den_pos vT) (part_pos (k := p)) hp).1
set_option maxRecDepth 100000 in
set_option maxHeartbeats 16000000 in
theorem lawsmooth_law (d : Int) (m : Mv) (p : Int) (p0 : 0 ≤ p) (p1 : p ≤ 65535) (w : World) : Calls Try.prog 9 #[.int .i64 d, .agg #[.string m.name, .int .i64 m.to, .int .i64 m.spd, .int .i64 m.rise, .int .i64 m.fall], .int .u16 p] w fun e w' => e = .returned (.bool true) ∧ Below w.heap.size w w' := by
  obtain ⟨t, ht⟩ := top_some d m
  have HM := Lib.hid (MvAt.new w m 23)
  have hW0 := below_new w (.cells #[.string m.name, .int .i64 m.to, .int .i64 m.spd, .int .i64 m.rise, .int .i64 m.fall] 23)
  obtain ⟨rd, hrd⟩ : ∃ b, readyP d m = b := ⟨_, rfl⟩
  have HRD := Lib.hid hrd
  cases rd
  · clear hrd ht
    go_enter Try.func9, Try.ntmps9
    go_upto_region 1 with (fail)
    generalize w.alloc (.cells #[.string m.name, .int .i64 m.to, .int .i64 m.spd, .int .i64 m.rise, .int .i64 m.fall] 23) = W0 at *
    go_wp2_with (first
      | (go_at_call 10; (with_reducible refine (awake_any _).mono ?_); rintro e w1 ⟨rfl, hB1⟩; obtain ⟨k0, k1, k2, k3, k4⟩ := HM.out.carry hB1)
      | (go_at_call 19; (with_reducible refine (ready_any d m _).mono ?_); rintro e w2 ⟨rfl, hb2⟩; rw [HRD.out]; have hB2 := held_next hB1 hb2; clear k0 k1 k2 k3 k4; obtain ⟨k0, k1, k2, k3, k4⟩ := HM.out.carry hB2))
    go_ret
    exact ⟨rfl, hW0.trans (hB2.mono hW0.size)⟩
  · obtain ⟨hnl, hg⟩ := ready_iff.1 hrd
    have HG := Lib.hid hg
    have hT := ht hg
    have mc := move_c hg hT
    have hdd := inB_iff.1 (given_ok hg).2
    have HC := Lib.hid (Curve_any d m t ht)
    have HTP := Lib.hid (Top_any d m t ht)
    have HTR : Hid (topR d m t = t) := Lib.hid (by unfold topR; rw [if_pos hg])
    have HT0 := Time_any d m t ht
    rw [time_eq hg] at HT0
    obtain ⟨L, hL⟩ : ∃ L, curveL d m.rise m.fall t = L := ⟨_, rfl⟩
    have HL := Lib.hid hL
    rw [hL] at HT0 mc
    have vT := mc.vT
    obtain ⟨T, hTe⟩ : ∃ T, timeL L = T := ⟨_, rfl⟩
    rw [hTe] at HT0 vT
    have HT := Lib.hid HT0
    have tz := hT.1
    have ts := hT.2.1
    have tv := valid_bds (given_ok hg).1
    have s1 : decide (t < 0) = false := decide_eq_false (by omega)
    have s2 : decide (m.spd < t) = false := decide_eq_false (by omega)
    have HSM : Hid (∀ (PA : Option Addr) (PC : Nat) (w : World), Pcs w.heap.size w PA L → Calls Try.prog 34 #[.slice PA L.length PC] w fun e w' => e = .returned (.tuple #[.bool (smoothP L).1, .int .i64 (smoothP L).2]) ∧ Below w.heap.size w w') := Lib.hid fun PA PC w h => qsmooth_any L mc.ok PA PC w h
    have hbz := mc.b0
    have HSY := Lib.hid (fun h => smooth_yes mc.ok ⟨congrArg Prod.fst hbz, congrArg Prod.snd hbz⟩ mc.up.joinsL h)
    have HSE := Lib.hid (smooth_err L)
    obtain ⟨SM, hSM⟩ : ∃ S, smoothP L = S := ⟨_, rfl⟩
    rw [hSM] at HSM HSY HSE
    have wk : IntKind.i64.wrap p = p := IntWalk.i64_in _ (by omega)
    have HMK := Lib.hid (make_part p p0 p1)
    have vP := part_valid p0 p1
    have HX := Lib.hid (mul_any T.1 T.2 (partP p).1 (partP p).2 vT vP)
    have HXV := Lib.hid (fun h => smooth_part vT (p := p) h)
    have HXE : Hid ((partT T p).2.2 = 0 ∨ (partT T p).2.2 = 5) := Lib.hid (mulP_err _ _ _ _)
    obtain ⟨X, hX⟩ : ∃ X, partT T p = X := ⟨_, rfl⟩
    rw [show mulP T.1 T.2 (partP p).1 (partP p).2 = X from hX] at HX
    rw [hX] at HXV HXE
    obtain ⟨P, hP⟩ : ∃ P, partP p = P := ⟨_, rfl⟩
    rw [hP] at HMK HX
    have HSL : Hid (∀ (PA : Option Addr) (PC : Nat) (w : World), Pcs w.heap.size w PA L → Calls Try.prog 37 #[.slice PA L.length PC, .agg #[.int .i64 X.1, .int .i64 X.2.1]] w fun e w' => e = .returned (.tuple #[.agg #[.int .i64 (slopeP L (X.1, X.2.1)).1, .int .i64 (slopeP L (X.1, X.2.1)).2.1], .int .i64 (slopeP L (X.1, X.2.1)).2.2]) ∧ Below w.heap.size w w') := Lib.hid fun PA PC w h => qslopeAt_any L mc.ok (X.1, X.2.1) PA PC w h
    have HZE := Lib.hid (fun h => slopeP_err (L := L) (t := (X.1, X.2.1)) (HXV.out h))
    have HZV := Lib.hid (fun h1 (h2 : (slopeP L (X.1, X.2.1)).2.2 = 0) => And.intro (slopeP_valid mc.ok (HXV.out h1) h2) (mc.slope (HXV.out h1) h2))
    obtain ⟨Z, hZ⟩ : ∃ Z, slopeP L (X.1, X.2.1) = Z := ⟨_, rfl⟩
    rw [hZ] at HSL HZE HZV
    clear hrd ht hg hT HT0 hL vT hTe mc hnl hSM vP hX hP hZ hbz p0 p1
    go_enter Try.func9, Try.ntmps9
    go_upto_region 1 with (fail)
    generalize w.alloc (.cells #[.string m.name, .int .i64 m.to, .int .i64 m.spd, .int .i64 m.rise, .int .i64 m.fall] 23) = W0 at *
    go_upto_region 8 with (first
      | (go_at_call 10; (with_reducible refine (awake_any _).mono ?_); rintro e w1 ⟨rfl, hB1⟩; obtain ⟨k0, k1, k2, k3, k4⟩ := HM.out.carry hB1)
      | (go_at_call 19; (with_reducible refine (ready_any d m _).mono ?_); rintro e w2 ⟨rfl, hb2⟩; rw [HRD.out]; have hB2 := held_next hB1 hb2; clear k0 k1 k2 k3 k4; obtain ⟨k0, k1, k2, k3, k4⟩ := HM.out.carry hB2)
      | (go_at_call 16; (with_reducible refine (HC.out _).mono ?_); rintro e w3 ⟨hv, hb3⟩; obtain ⟨v, rfl, hrow⟩ := hv.out; rw [HG.out]; have hr1 := hrow.1 HG.out; rw [HL.out] at hr1; obtain ⟨pa, pcap, rfl, _, _, _, hP⟩ := pc_of_row hr1; have HP := Lib.hid hP; clear hP hr1 hrow hv; have hB3 := held_next hB2 hb3; clear k0 k1 k2 k3 k4; obtain ⟨k0, k1, k2, k3, k4⟩ := HM.out.carry hB3)
      | (go_at_call 11; (with_reducible refine (HTP.out _).mono ?_); rintro e w4 ⟨rfl, hb4⟩; rw [HTR.out, HG.out]; have hB4 := held_next hB3 hb4; clear k0 k1 k2 k3 k4; obtain ⟨k0, k1, k2, k3, k4⟩ := HM.out.carry hB4)
      | (go_at_call 20; (with_reducible refine (HT.out _).mono ?_); rintro e w5 ⟨rfl, hb5⟩; rw [HG.out]; have hB5 := held_next hB4 hb5; clear k0 k1 k2 k3 k4; obtain ⟨k0, k1, k2, k3, k4⟩ := HM.out.carry hB5))
    have hB := hB5
    replace HP := Lib.hid ((HP.out.grow hb4).grow hb5)
    have HM5 : Hid (MvAt w5 w.heap.size m) := Lib.hid ⟨k0, k1, k2, k3, k4⟩
    clear hB1 hB2 hB3 hB4 hB5 hb2 hb3 hb4 hb5 k0 k1 k2 k3 k4 HRD HC HT HL HM HTP HTR
    have k2 : (w5.alloc (.cells #[.int .i64 T.1, .int .i64 T.2] 39)).cell? ⟨w.heap.size, 2, none⟩ = some (.int .i64 m.spd) := (HM5.out.carry (below_new _ _)).2.2.1
    have FBt := FI.put w5 (T.1) (T.2) 39
    have hbn := below_new w5 (.cells #[.int .i64 (T.1), .int .i64 (T.2)] 39)
    replace hB := held_next hB hbn
    replace HP := Lib.hid (HP.out.grow hbn)
    clear hbn
    obtain ⟨Bt, hBt⟩ : ∃ b, w5.heap.size = b := ⟨_, rfl⟩
    simp only [hBt] at FBt ⊢
    generalize w5.alloc (.cells #[.int .i64 (T.1), .int .i64 (T.2)] 39) = W1 at *
    clear hBt
    go_upto_region 11 with (go_at_call 34; (with_reducible refine (HSM.out _ _ _ HP.out).mono ?_); rintro e w6 ⟨rfl, hbs⟩)
    clear s1 s2 k2 HM5
    replace FBt := FBt.carry hbs
    replace hB := held_next hB hbs
    replace HP := Lib.hid (HP.out.grow hbs)
    clear hbs
    rcases HSE.out with hs | hs
    · have hy := HSY.out hs
      have f1 : (SM.2 == 5) = false := by rw [hs]; rfl
      have f2 : (SM.2 != 0) = false := by rw [hs]; rfl
      clear hs
      have t0 := FBt.1
      have t1 := FBt.2.1
      go_upto_region 16 with (go_at_call 35; (with_reducible refine (HMK.out _).mono ?_); rintro e w7 ⟨rfl, hbs⟩)
      clear t0 t1 f1 f2 hy
      replace FBt := FBt.carry hbs
      replace hB := held_next hB hbs
      replace HP := Lib.hid (HP.out.grow hbs)
      clear hbs
      have FBp := FI.put w7 (P.1) (P.2) 39
      have hbn := below_new w7 (.cells #[.int .i64 (P.1), .int .i64 (P.2)] 39)
      replace FBt := FBt.carry hbn
      replace hB := held_next hB hbn
      replace HP := Lib.hid (HP.out.grow hbn)
      clear hbn
      obtain ⟨Bp, hBp⟩ : ∃ b, w7.heap.size = b := ⟨_, rfl⟩
      simp only [hBp] at FBp ⊢
      generalize w7.alloc (.cells #[.int .i64 (P.1), .int .i64 (P.2)] 39) = W2 at *
      clear hBp
      have t0 := FBt.1
      have t1 := FBt.2.1
      have t2 := FBp.1
      have t3 := FBp.2.1
      go_upto_region 19 with (go_at_call 36; (with_reducible refine (HX.out _).mono ?_); rintro e w8 ⟨rfl, hbs⟩)
      clear t0 t1 t2 t3 FBt FBp
      replace hB := held_next hB hbs
      replace HP := Lib.hid (HP.out.grow hbs)
      clear hbs
      have FBx := FI.put w8 (X.1) (X.2.1) 39
      have hbn := below_new w8 (.cells #[.int .i64 (X.1), .int .i64 (X.2.1)] 39)
      replace hB := held_next hB hbn
      replace HP := Lib.hid (HP.out.grow hbn)
      clear hbn
      obtain ⟨Bx, hBx⟩ : ∃ b, w8.heap.size = b := ⟨_, rfl⟩
      simp only [hBx] at FBx ⊢
      generalize w8.alloc (.cells #[.int .i64 (X.1), .int .i64 (X.2.1)] 39) = W3 at *
      clear hBx
      rcases HXE.out with hx | hx
      · have f1 : (X.2.2 != 0) = false := by rw [hx]; rfl
        have HZE' := Lib.hid (HZE.out hx)
        have HZV' := Lib.hid (HZV.out hx)
        clear hx
        have t0 := FBx.1
        have t1 := FBx.2.1
        go_upto_region 22 with (go_at_call 37; (with_reducible refine (HSL.out _ _ _ HP.out).mono ?_); rintro e w9 ⟨rfl, hbs⟩)
        clear t0 t1 FBx f1
        replace hB := held_next hB hbs
        replace HP := Lib.hid (HP.out.grow hbs)
        clear hbs
        have FBz := FI.put w9 (Z.1) (Z.2.1) 39
        have hbn := below_new w9 (.cells #[.int .i64 (Z.1), .int .i64 (Z.2.1)] 39)
        replace hB := held_next hB hbn
        replace HP := Lib.hid (HP.out.grow hbn)
        clear hbn
        obtain ⟨Bz, hBz⟩ : ∃ b, w9.heap.size = b := ⟨_, rfl⟩
        simp only [hBz] at FBz ⊢
        generalize w9.alloc (.cells #[.int .i64 (Z.1), .int .i64 (Z.2.1)] 39) = W4 at *
        clear hBz
        rcases HZE'.out with hz | hz
        · obtain ⟨vZ, z0, z1⟩ := HZV'.out hz
          have f1 : (Z.2.2 != 0) = false := by rw [hz]; rfl
          obtain ⟨c1, c2, c3, c4, c5⟩ := (validF_iff _ _).1 vZ
          simp only at c1 c2 c3 c4
          have g0 : decide ((0 : Int) ≤ Z.1) = true := decide_eq_true z0
          have HC1 := Lib.hid (rcmp_any Z.1 Z.2.1 t 1 z0 (by omega) (by omega) (by omega) (by omega) (by omega) (by decide) (by decide))
          have g2 : decide (cmpP (Z.1 * 1) (t * Z.2.1) ≤ 0) = true := decide_eq_true (cmpP_le.2 z1)
          generalize cmpP (Z.1 * 1) (t * Z.2.1) = C1 at *
          have HS : Hid (∀ w', Below W4.heap.size W4 w' → W4.heap.size ≤ w'.heap.size ∧ w'.cell? ⟨Bz, 0, none⟩ = some (.int .i64 Z.1) ∧ w'.cell? ⟨Bz, 1, none⟩ = some (.int .i64 Z.2.1)) := Lib.hid fun w' h => ⟨h.size, (FBz.carry h).1, (FBz.carry h).2.1⟩
          have HBB := Lib.hid hB
          clear c1 c2 c3 c4 c5 vZ z0 z1 hz hB FBz
          go_upto_region 24 with (fail)
          refine wp_region_noPanic ?_
          refine wp_region_held_drew (S := fun w' => W4.heap.size ≤ w'.heap.size ∧ w'.cell? ⟨Bz, 0, none⟩ = some (.int .i64 Z.1) ∧ w'.cell? ⟨Bz, 1, none⟩ = some (.int .i64 Z.2.1)) (by kernel_rfl) (HS.out _ (Below.refl _ _).drew) (fun hHeld => ?_)
          have hB0 := (Below.refl W4.heap.size W4).drew
          obtain ⟨w0, hw0⟩ : ∃ x, W4.drew = x := ⟨_, rfl⟩
          simp only [hw0] at hB0 hHeld ⊢
          clear hw0
          refine wpAnyH_take (i := 0) (oi := _) (v := ?_) (by simp only [List.getElem?_toArray, List.getElem?_cons_zero]; rfl) (by kernel_rfl) (by kernel_rfl) (by kernel_rfl) (fun _ _ _ h => h) (Or.inl ⟨by rfl, ?_⟩) (by assumption) ?_
          rotate_left
          · (intro w hSw; (try dsimp only at hSw); go_split_ands; go_simp; try with_reducible rfl)
          simp only [Act.put, List.setIfInBounds_toArray, List.set_cons_zero, List.set_cons_succ]
          refine wpAnyH_take (i := 1) (oi := _) (v := ?_) (by simp only [List.getElem?_toArray, List.getElem?_cons_succ, List.getElem?_cons_zero]; rfl) (by kernel_rfl) (by kernel_rfl) (by kernel_rfl) (fun _ _ _ h => h) (Or.inl ⟨by rfl, ?_⟩) (by assumption) ?_
          rotate_left
          · (intro w hSw; (try dsimp only at hSw); go_split_ands; go_simp; try with_reducible rfl)
          simp only [Act.put, List.setIfInBounds_toArray, List.set_cons_zero, List.set_cons_succ]
          refine wpAnyH_take (i := 2) (oi := _) (v := ?_) (by simp only [List.getElem?_toArray, List.getElem?_cons_succ, List.getElem?_cons_zero]; rfl) (by kernel_rfl) (by kernel_rfl) (by kernel_rfl) (fun _ _ _ h => h) (Or.inl ⟨by rfl, ?_⟩) (by assumption) ?_
          rotate_left
          · (intro w hSw; (try dsimp only at hSw); go_split_ands; go_simp; try with_reducible rfl)
          simp only [Act.put, List.setIfInBounds_toArray, List.set_cons_zero, List.set_cons_succ]
          refine wpAnyH_take (i := 3) (oi := _) (v := ?_) (by simp only [List.getElem?_toArray, List.getElem?_cons_succ, List.getElem?_cons_zero]; rfl) (by kernel_rfl) (by kernel_rfl) (by kernel_rfl) (fun _ _ _ h => h) (Or.inl ⟨by rfl, ?_⟩) (by assumption) ?_
          rotate_left
          · (intro w hSw; (try dsimp only at hSw); go_split_ands; go_simp; try with_reducible rfl)
          simp only [Act.put, List.setIfInBounds_toArray, List.set_cons_zero, List.set_cons_succ]
          refine wpAnyH_take (i := 4) (oi := _) (v := ?_) (by simp only [List.getElem?_toArray, List.getElem?_cons_succ, List.getElem?_cons_zero]; rfl) (by kernel_rfl) (by kernel_rfl) (by kernel_rfl) (fun _ _ _ h => h) (Or.inl ⟨by rfl, ?_⟩) (by assumption) ?_
          rotate_left
          · (intro w hSw; (try dsimp only at hSw); go_split_ands; go_simp; try with_reducible rfl)
          simp only [Act.put, List.setIfInBounds_toArray, List.set_cons_zero, List.set_cons_succ]
          refine wpAnyH_take (i := 5) (oi := _) (v := ?_) (by simp only [List.getElem?_toArray, List.getElem?_cons_succ, List.getElem?_cons_zero]; rfl) (by kernel_rfl) (by kernel_rfl) (by kernel_rfl) (fun _ _ _ h => h) (Or.inl ⟨by rfl, ?_⟩) (by assumption) ?_
          rotate_left
          · (intro w hSw; (try dsimp only at hSw); go_split_ands; go_simp; try with_reducible rfl)
          simp only [Act.put, List.setIfInBounds_toArray, List.set_cons_zero, List.set_cons_succ]
          refine wpAnyH_ready (rs := [6]) (by kernel_rfl) (by simp) ?_
          refine AllReadyH.cons (o := _) (by simp only [List.getElem?_toArray, List.getElem?_cons_succ, List.getElem?_cons_zero]; rfl) (fun K hK => ?_) (AllReadyH.nil)
          go_simp
          (go_at_call 30; go_split_ands; (with_reducible refine (of_any t _).mono ?_); rintro e w1 ⟨rfl, hb1⟩)
          go_wp2_with fail
          have hB1 := hB0.trans (hb1.mono hB0.size)
          refine hK.out _ _ (HS.out _ hB1) (fun hHeld => ?_)
          clear hK K
          try simp only [Act.put, List.setIfInBounds_toArray, List.set_cons_zero, List.set_cons_succ]
          refine wpAnyH_ready (rs := [7]) (by kernel_rfl) (by simp) ?_
          refine AllReadyH.cons (o := _) (by simp only [List.getElem?_toArray, List.getElem?_cons_succ, List.getElem?_cons_zero]; rfl) (fun K hK => ?_) (AllReadyH.nil)
          go_simp
          (go_at_call 21; go_split_ands; (with_reducible refine (HC1.out _).mono ?_); rintro e w2 ⟨rfl, hb2⟩)
          go_wp2_with fail
          have hB2 := hB1.trans (hb2.mono hB1.size)
          refine hK.out _ _ (HS.out _ hB2) (fun hHeld => ?_)
          clear hK K
          try simp only [Act.put, List.setIfInBounds_toArray, List.set_cons_zero, List.set_cons_succ]
          refine wpAnyH_take (i := 8) (oi := _) (v := ?_) (by simp only [List.getElem?_toArray, List.getElem?_cons_succ, List.getElem?_cons_zero]; rfl) (by kernel_rfl) (by kernel_rfl) (by kernel_rfl) (fun _ _ _ h => h) (Or.inl ⟨by rfl, ?_⟩) (by assumption) ?_
          rotate_left
          · (intro w hSw; (try dsimp only at hSw); go_split_ands; go_simp; try with_reducible rfl)
          simp only [Act.put, List.setIfInBounds_toArray, List.set_cons_zero, List.set_cons_succ]
          refine wpAnyH_take (i := 9) (oi := _) (v := ?_) (by simp only [List.getElem?_toArray, List.getElem?_cons_succ, List.getElem?_cons_zero]; rfl) (by kernel_rfl) (by kernel_rfl) (by kernel_rfl) (fun _ _ _ h => h) (Or.inl ⟨by rfl, ?_⟩) (by assumption) ?_
          rotate_left
          · (intro w hSw; (try dsimp only at hSw); go_split_ands; go_simp; try with_reducible rfl)
          simp only [Act.put, List.setIfInBounds_toArray, List.set_cons_zero, List.set_cons_succ]
          refine wpAnyH_take (i := 10) (oi := _) (v := ?_) (by simp only [List.getElem?_toArray, List.getElem?_cons_succ, List.getElem?_cons_zero]; rfl) (by kernel_rfl) (by kernel_rfl) (by kernel_rfl) (fun _ _ _ h => h) (Or.inl ⟨by rfl, ?_⟩) (by assumption) ?_
          rotate_left
          · (intro w hSw; (try dsimp only at hSw); go_split_ands; go_simp; try with_reducible rfl)
          simp only [Act.put, List.setIfInBounds_toArray, List.set_cons_zero, List.set_cons_succ]
          refine wpAnyH_done (by kernel_rfl) ?_ _
          have hB := hB2
          refine NoPanic.normal ?_
          go_wp2_with fail
          go_ret
          exact ⟨rfl, hW0.trans ((held_next HBB.out hB).mono hW0.size)⟩
        · have f1 : (Z.2.2 != 0) = true := by rw [hz]; rfl
          have f2 : (Z.2.2 == 5) = true := by rw [hz]; rfl
          clear hz
          go_wp2_with fail
          go_ret
          exact ⟨rfl, hW0.trans (hB.mono hW0.size)⟩
      · have f1 : (X.2.2 != 0) = true := by rw [hx]; rfl
        have f2 : (X.2.2 == 5) = true := by rw [hx]; rfl
        clear hx
        go_wp2_with fail
        go_ret
        exact ⟨rfl, hW0.trans (hB.mono hW0.size)⟩
    · have f1 : (SM.2 == 5) = true := by rw [hs]; rfl
      clear hs
      go_wp2_with fail
      go_ret
      exact ⟨rfl, hW0.trans (hB.mono hW0.size)⟩
end Go.Proofs.Ytlgpolfbilkmbaa
namespace Go.Proofs.Ytlgpolfbilkmbaa
open Go.ChangeShapes Go.WideShapes Go.ChangeAt Go.WideMaps Go.WideElems Go.RowKit

theorem own : ownKnob Try.prog.godebug = none := by kernel_rfl
theorem laidOut : laidOutB Try.prog = true := by kernel_rfl

section
variable {H : Type} {enc : TypeId × Value → H} {P : Program}
theorem post_of_below {f : Func} {s : ChangeSpec} {apart fresh handsOn again : Bool} {W W' : World} {args : Array Value} {v : Value} {ds gs : List (DataW H)} {before pa pv : List MemPlace}
    (hW : DataW.Whole enc P f.params.toList s.vars apart W args.toList ds gs before)
    (hres : ∀ (b : Nat) (sp : Nat → Bool) (hd : Bool), DataW.TrodAll enc P W' b sp hd f.resultTypes.toList (v.resultList f.resultTypes.size) (s.fn H (ds ++ gs)).results [])
    (hargs : ∀ sp : Nat → Bool, (∀ p ∈ before, sp p.block = true) → DataW.TrodAll enc P W' 0 sp true f.params.toList args.toList (s.fn H (ds ++ gs)).args pa)
    (hvars : ∀ sp : Nat → Bool, (∀ p ∈ before, sp p.block = true) → DataW.TrodVars enc P W' sp s.vars (s.fn H (ds ++ gs)).vars pv)
    (hps : before = pa ++ pv) (hb : Below W.heap.size W W')
    (hok : ∀ (j : Nat) (t : TypeId) (r : Value), f.resultTypes[j]? = some t → (v.resultList f.resultTypes.size)[j]? = some r → Value.okWide P W' .any 0 t r) :
    s.post enc P f apart fresh handsOn again W args v W' := by
  have hlt : ∀ p ∈ before, p.block < W.heap.size := fun p hp => hW.lt p hp
  have hold : ∀ p ∈ before, (fun b => decide (b < W.heap.size)) p.block = true := fun p hp => by simpa using hlt p hp
  refine ⟨ds, gs, before, [], pa, pv, hW, hres _ _ _, hargs _ hold, hvars _ hold, World.keptBut_mono (fun p hp => ⟨hp, ?_⟩) (hb.frame (· ∈ before)), fun _ => ?_⟩
  · rw [hps, List.mem_append] at hp
    exact Or.inr hp
  · obtain ⟨_, _, _, _, _, hz, hn⟩ := hW
    refine ⟨hok, _, _, ([] ++ pa) ++ pv, ⟨[] ++ pa, pv, trodAll_append (hargs _ (fun _ _ => rfl)) (hres _ _ _), hvars _ (fun _ _ => rfl), rfl, ?_, ?_⟩, ?_⟩
    · intro b off hp
      have hin : MemPlace.cell b off ∈ before := by rw [hps]; simpa using hp
      rw [hb.frozen (hlt _ hin)]
      exact hz b off hin
    · intro ha
      have := hn ha
      rw [hps] at this
      simpa using this
    · intro p hp _
      rw [hps]
      simpa using hp

theorem trodAll_below (hl : laidOutB P = true) {W W' : World} (hb : Below W.heap.size W W') (sp : Nat → Bool) :
    ∀ {ts : List TypeId} {vs : List Value} {ds : List (DataW H)} {ps : List MemPlace}, (ts.all fun t => P.readableRec t && decide (t < P.types.size)) = true → DataW.TrodAll enc P W 0 (fun _ => true) true ts vs ds ps →
      (∀ x ∈ ps, x.block < W.heap.size) → (∀ x ∈ ps, sp x.block = true) → DataW.TrodAll enc P W' 0 sp true ts vs ds ps
  | [], [], [], _, _, h, _, _ => h
  | t :: ts, v :: vs, d :: ds, _, ht, ⟨p, q, h0, h1, rfl⟩, hlt, hsp => by
    simp only [List.all_cons, Bool.and_eq_true, decide_eq_true_eq] at ht
    exact ⟨p, q, WideElems.Trod_stays hl ht.1.1 ht.1.2 h0 (fun x hx => hb.same (hlt x (List.mem_append.2 (.inl hx)))) (fun x hx => hsp x (List.mem_append.2 (.inl hx))),
      trodAll_below hl hb sp (by simpa using ht.2) h1 (fun x hx => hlt x (List.mem_append.2 (.inr hx))) (fun x hx => hsp x (List.mem_append.2 (.inr hx))), rfl⟩
  | [], [], _ :: _, _, _, h, _, _ => h.elim
  | [], _ :: _, _, _, _, h, _, _ => h.elim
  | _ :: _, [], _, _, _, h, _, _ => h.elim
  | _ :: _, _ :: _, [], _, _, h, _, _ => h.elim

theorem law_post {f : Func} {s : ChangeSpec} {apart fresh handsOn again : Bool} {W W' : World} {args : Array Value} {ds gs : List (DataW H)} {before : List MemPlace} {tb : TypeId}
    (hl : laidOutB P = true) (hr : (f.params.toList.all fun t => P.readableRec t && decide (t < P.types.size)) = true) (hW : DataW.Whole enc P f.params.toList s.vars apart W args.toList ds gs before)
    (hv : s.vars = []) (hfn : s.fn H (ds ++ gs) = { results := [.lit (.bool true)], args := ds }) (ht : f.resultTypes = #[tb]) (hu : P.underlying tb = some .bool) (hb : Below W.heap.size W W') :
    s.post enc P f apart fresh handsOn again W args (.bool true) W' := by
  have hlt : ∀ p ∈ before, p.block < W.heap.size := fun p hp => hW.lt p hp
  have hW2 := hW
  obtain ⟨p, q, hA, hV, hpq, _, _⟩ := hW
  have hV' := hV
  rw [hv] at hV'
  obtain ⟨rfl, rfl⟩ := trodVars_none hV'
  have hpp : before = p := by rw [hpq, List.append_nil]
  refine post_of_below (pa := before) (pv := []) hW2 ?_ ?_ ?_ (by simp) hb ?_
  · intro b sp hd
    rw [hfn, ht]
    exact trodAll_mk1 (shut_bool hu _)
  · intro sp hsp
    rw [hfn]
    exact trodAll_below hl hb sp hr (by rw [hpp]; exact hA) hlt hsp
  · intro sp hsp
    rw [hfn, hv]
    rfl
  · intro j t r hj hrr
    rw [ht] at hj hrr
    exact ok_one ht rfl (okWide_bool_mk hu _) j t r (by rw [ht]; exact hj) (by rw [ht]; exact hrr)
end
end Go.Proofs.Ytlgpolfbilkmbaa
namespace Go.Proofs.Ytlgpolfbilkmbaa
open Go.ChangeShapes Go.WideShapes Go.ChangeAt Go.WideMaps Go.WideElems Go.RowKit Go.Deep

theorem flatMap_get {X : Type} (cells : X → List Value) (size : Nat) (hlen : ∀ r, (cells r).length = size) : ∀ (L : List X) (j : Nat) (u : Value), (L.flatMap cells)[j]? = some u → ∃ i k r, j = i * size + k ∧ L[i]? = some r ∧ (cells r)[k]? = some u
  | [], j, u, h => by simp at h
  | x :: l, j, u, h => by
    rw [List.flatMap_cons, List.getElem?_append] at h
    split at h
    · exact ⟨0, j, x, by omega, rfl, h⟩
    · next hj =>
      rw [hlen] at h hj
      obtain ⟨i, k, r, e, h1, h2⟩ := flatMap_get cells size hlen l _ u h
      exact ⟨i + 1, k, r, by rw [Nat.add_mul]; omega, h1, h2⟩

section
variable {H : Type} {enc : TypeId × Value → H} {P : Program} {w : World} {base : Nat} {spare : Nat → Bool} {held : Bool}
theorem open_rows {X : Type} [Inhabited X] (cells : X → List Value) (size : Nat) (Fit : X → Prop) (hsize : 0 < size) (hlen : ∀ r, (cells r).length = size) {t e : TypeId} (ht : P.underlying t = some (.slice e)) (hC : P.cellsOf e = size)
    (hel : ∀ n cs' y, cs'.length = size → DataW.trod enc P w base spare held n e cs' = some y → ∃ r, cs' = cells r ∧ Fit r) {fuel : Nat} {v : Value} {x : DataW H × List MemPlace} (h : DataW.trod enc P w base spare held fuel t [v] = some x) :
    ∃ (a : Option Addr) (cap : Nat) (L : List X), v = .slice a L.length cap ∧ L.length ≤ cap ∧ cap ≤ maxLen ∧ (a = none → cap = 0) ∧ (∀ r ∈ L, Fit r) ∧
      (0 < L.length → ∃ b off, a = some ⟨b, off, none⟩ ∧ b < w.heap.size ∧ ∀ j u, (L.flatMap cells)[j]? = some u → w.cell? ⟨b, off + j, none⟩ = some u) := by
  rcases open_slice ht h with ⟨hcs, _⟩ | ⟨a, len, cap, m, n, D, Pl, hcs, _, hl, hm, hmm, _, hi⟩
  · simp only [List.cons.injEq, and_true] at hcs
    subst hcs
    exact ⟨none, 0, [], rfl, Nat.le_refl _, by unfold maxLen; omega, fun _ => rfl, (fun _ h => by cases h), fun h => absurd h (Nat.not_lt_zero _)⟩
  · simp only [List.cons.injEq, and_true] at hcs
    subst hcs
    have hlm : len ≤ m := by rw [hmm]; split <;> omega
    have hex : ∀ i, ∃ r : X, i < len → Fit r ∧ ∀ k u, (cells r)[k]? = some u → w.cell? (a.add (i * size + k)) = some u := fun i => by
      by_cases h : i < len
      · obtain ⟨cs', hc, ht'⟩ := hi i (by omega)
        rw [hC] at hc
        obtain ⟨_, hcl, hat⟩ := World.cells?_some hc
        obtain ⟨r, e, hf⟩ := hel n cs' _ hcl ht'
        refine ⟨r, fun _ => ⟨hf, fun k u hu => ?_⟩⟩
        rw [← e] at hu
        have hk : k < size := by
          have := (List.getElem?_eq_some_iff.1 hu).1
          omega
        rw [← Go.Deep.add_add, hat k hk, hu]
      · exact ⟨default, fun h' => absurd h' h⟩
    obtain ⟨f, hf⟩ := Classical.axiomOfChoice hex
    refine ⟨some a, cap, (List.range len).map f, by simp, by simpa using hl, hm, (fun e => by cases e), ?_, ?_⟩
    · intro r hr
      obtain ⟨i, hi', rfl⟩ := List.mem_map.1 hr
      exact (hf i (by simpa using hi')).1
    · intro hpos
      have hpos' : 0 < len := by simpa using hpos
      have hcell : ∀ i k u, i < len → (cells (f i))[k]? = some u → w.cell? (a.add (i * size + k)) = some u := fun i k u h hu => (hf i h).2 k u hu
      have h0 : ∃ u, (cells (f 0))[0]? = some u := ⟨_, List.getElem?_eq_getElem (by rw [hlen]; exact hsize)⟩
      obtain ⟨u0, hu0⟩ := h0
      have hc0 := hcell 0 0 u0 hpos' hu0
      obtain ⟨b, off, spot⟩ := a
      have hspot : spot = none := by simpa [Addr.add] using World.cell?_spot hc0
      subst hspot
      refine ⟨b, off, rfl, ?_, fun j u hj => ?_⟩
      · rw [Go.WideShapes.add_plain] at hc0
        exact World.block_lt_of_cell? w _ hc0
      · obtain ⟨i, k, r, e, h1, h2⟩ := flatMap_get cells size hlen _ j u hj
        rw [List.getElem?_map] at h1
        have hil : i < len := by
          rcases Nat.lt_or_ge i len with l | l
          · exact l
          · rw [List.getElem?_eq_none (by simpa using l)] at h1; cases h1
        rw [List.getElem?_range hil] at h1
        obtain rfl : f i = r := by simpa using h1
        have := hcell i k u hil h2
        rw [Go.WideShapes.add_plain] at this
        rw [e]
        exact this
/-- An element that is a struct of one-cell fields. -/
theorem elem_fields {e : TypeId} {fs : Array Field} {n : Nat} {cs' : List Value} {y : DataW H × List MemPlace} (he : P.underlying e = some (.struct fs)) (hone : oneCellFields P fs = true) (hl : cs'.length = fs.size) (h : DataW.trod enc P w base spare held n e cs' = some y) :
    ∃ m, ∀ (j : Nat) (f : Field), fs[j]? = some f → ∃ (v : Value) (z : DataW H × List MemPlace), cs'[j]? = some v ∧ DataW.trod enc P w base spare held m f.type [v] = some z := by
  obtain ⟨ys, n', hn', hy, hlen, hyl, hf⟩ := DataW.trod_struct he h
  refine ⟨n', fun j f hj => ?_⟩
  obtain ⟨ho, hk⟩ := hone_of hone j f hj
  have hjl : j < fs.size := (Array.getElem?_eq_some_iff.1 hj).1
  have hv : cs'[j]? = some (cs'[j]'(by omega)) := List.getElem?_eq_getElem (by omega)
  have h1 := hf j f hj
  rw [ho, hk] at h1
  have hone' : (cs'.drop j).take 1 = [cs'[j]'(by omega)] := by
    rw [List.drop_eq_getElem_cons (by omega)]
    rfl
  rw [hone'] at h1
  exact ⟨_, ys[j]'(by omega), hv, h1.trans (List.getElem?_eq_getElem (by omega))⟩
/-- A field that is a slice of whatever. -/
theorem field_slice {t e : TypeId} {n : Nat} {v : Value} {y : DataW H × List MemPlace} (ht : P.underlying t = some (.slice e)) (h : DataW.trod enc P w base spare held n t [v] = some y) : ∃ a l c, v = .slice a l c := by
  rcases open_slice ht h with ⟨hcs, _⟩ | ⟨a, len, cap, m, n, D, Pl, hcs, _⟩
  · simp only [List.cons.injEq, and_true] at hcs
    exact ⟨_, _, _, hcs⟩
  · simp only [List.cons.injEq, and_true] at hcs
    exact ⟨_, _, _, hcs⟩
end
end Go.Proofs.Ytlgpolfbilkmbaa
namespace Go.Proofs.Ytlgpolfbilkmbaa
open Go.ChangeShapes Go.WideShapes Go.ChangeAt Go.WideMaps Go.WideElems Go.RowKit Go.Deep Go.Joins

section
variable {H : Type} {enc : TypeId × Value → H} {W : World} {base : Nat}
set_option maxRecDepth 100000 in
theorem open_move {v : Value} {d : DataW H} {p : List MemPlace} (hv : Value.okWide Try.prog W .any base 23 v) (h : DataW.Trod enc Try.prog W 0 (fun _ => true) true 23 v d p) :
    ∃ m : Mv, v = .agg #[.string m.name, .int .i64 m.to, .int .i64 m.spd, .int .i64 m.rise, .int .i64 m.fall] := by
  obtain ⟨cs, rfl, hsz⟩ := okWide_struct Try.underlying23 hv
  have hsz : cs.size = 5 := hsz.trans (by kernel_rfl)
  obtain ⟨fuel, hf⟩ := h
  obtain ⟨k, hk⟩ := elem_fields (cs' := cs.toList) Try.underlying23 (by kernel_rfl) (by rw [Array.length_toList, hsz]; rfl) hf
  obtain ⟨v0, z0, c0, t0⟩ := hk 0 _ rfl
  obtain ⟨v1, z1, c1, t1⟩ := hk 1 _ rfl
  obtain ⟨v2, z2, c2, t2⟩ := hk 2 _ rfl
  obtain ⟨v3, z3, c3, t3⟩ := hk 3 _ rfl
  obtain ⟨v4, z4, c4, t4⟩ := hk 4 _ rfl
  obtain ⟨n0, e0, _, w0⟩ := DataW.trod_string Try.underlying9 t0
  obtain ⟨n1, e1, _, w1⟩ := DataW.trod_int Try.underlying3 t1
  obtain ⟨n2, e2, _, w2⟩ := DataW.trod_int Try.underlying3 t2
  obtain ⟨n3, e3, _, w3⟩ := DataW.trod_int Try.underlying3 t3
  obtain ⟨n4, e4, _, w4⟩ := DataW.trod_int Try.underlying3 t4
  simp only [List.cons.injEq, and_true] at e0 e1 e2 e3 e4
  subst e0 e1 e2 e3 e4
  obtain ⟨l⟩ := cs
  match l, hsz with
  | [x0, x1, x2, x3, x4], _ =>
    simp only [List.getElem?_cons_zero, List.getElem?_cons_succ, Option.some.injEq] at c0 c1 c2 c3 c4
    subst c0 c1 c2 c3 c4
    exact ⟨⟨n0, n1, n2, n3, n4⟩, rfl⟩
end
end Go.Proofs.Ytlgpolfbilkmbaa
namespace Go.Proofs.Ytlgpolfbilkmbaa
open Go.ChangeShapes Go.WideShapes Go.ChangeAt Go.WideMaps Go.WideElems Go.RowKit
open Go.ChangeMaps (open_string shut_string)

theorem u16_bd {n : Int} (h : (Lit.int .u16 n).wf = true) : 0 ≤ n ∧ n ≤ 65535 := by
  have e : IntKind.u16.min ≤ n ∧ n ≤ IntKind.u16.max := by simpa [Lit.wf] using h
  exact e
set_option maxRecDepth 100000 in
theorem profileSmooth_lifted (os : Os) (started : os.Started) (H : Type) (enc : TypeId × Value → H) :
    ReturnsInHanded {} Try.checked os 9 .any (Rows.profileSmoothSpec.pre6 enc Try.prog Try.f9 Rows.profileSmoothRow.domain false) (Rows.profileSmoothSpec.post enc Try.prog Try.f9 false true false false) := by
  refine returnsInHanded_of_change (C := Try.checked) own started (by kernel_rfl) Try.func9
    (ChangeSpec.witness6 (enc := enc) (C := Try.checked) false ⟨#[], #[.int .i64 0, .agg #[.string ⟨#[]⟩, .int .i64 0, .int .i64 0, .int .i64 0, .int .i64 0], .int .u16 0], []⟩ 8 (by kernel_rfl) (by kernel_rfl) (by kernel_rfl) (by kernel_rfl)) ?_
  intro W base args ds gs before hval0 hW hcnd _
  have hval : ∀ (j : Nat) t v, Try.f9.params[j]? = some t → args[j]? = some v → Value.okWide Try.prog W .any base t v := hval0
  have hW' := hW
  obtain ⟨p, q, hA0, hV, rfl, hfz, hnd⟩ := hW
  have hA : DataW.TrodAll enc Try.prog W 0 (fun _ => true) true Try.f9.params.toList args.toList ds p := hA0
  rw [Try.params9] at hA hval
  obtain ⟨v0, vs0, d0, ds0, p0, q0, hargs, rfl, rfl, h0, r0⟩ := trodAll_cons hA
  obtain ⟨v1, vs1, d1, ds1, p1, q1, rfl, rfl, rfl, h1, r1⟩ := trodAll_cons r0
  obtain ⟨v2, vs2, d2, ds2, p2, q2, rfl, rfl, rfl, h2, r2⟩ := trodAll_cons r1
  obtain ⟨rfl, rfl, rfl⟩ := trodAll_nil r2
  obtain rfl : args = #[v0, v1, v2] := by cases args; simp_all
  obtain ⟨rfl, rfl⟩ := trodVars_none hV
  obtain ⟨a0, rfl, rfl, rfl, w0⟩ := open_int Try.underlying3 (hval 0 3 v0 rfl rfl) h0
  obtain ⟨m, rfl⟩ := open_move (hval 1 23 v1 rfl rfl) h1
  obtain ⟨a2, rfl, rfl, rfl, w2⟩ := open_int Try.underlying37 (hval 2 37 v2 rfl rfl) h2
  clear hA0 hval0
  simp only [List.append_nil] at hW'
  refine (lawsmooth_law a0 m a2 (u16_bd w2).1 (u16_bd w2).2 W).mono fun e W' ⟨he, hb⟩ => ?_
  subst he
  exact ⟨_, rfl, law_post laidOut (by kernel_rfl) hW' rfl rfl (by kernel_rfl) Try.underlying4 hb⟩

theorem profileSmooth_holds : Rows.ProfileSmoothSaid :=
  OpenClaim.holds_of_wide 9 Try.f9 rfl rfl rfl rfl rfl rfl rfl ⟨rfl, rfl, rfl, rfl, rfl⟩ rfl rfl rfl rfl rfl (by kernel_rfl) Try.func9 (by kernel_rfl)
    (of_decide_eq_true (by kernel_rfl)) (by unfold Func.isWrapper; first | (rw [if_pos (by decide +kernel)]; kernel_rfl) | (rw [if_neg (by decide +kernel)]; exact ⟨rfl, rfl⟩))
    (fun os started H enc _ => profileSmooth_lifted os started H enc)
end Go.Proofs.Ytlgpolfbilkmbaa
