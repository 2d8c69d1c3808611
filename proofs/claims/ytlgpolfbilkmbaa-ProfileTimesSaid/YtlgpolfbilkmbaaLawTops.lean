/-
  THE WALK of the law ProfileTops.
-/
import Derived.Test.YtlgpolfbilkmbaaAwake
namespace Go.Proofs.Ytlgpolfbilkmbaa
open Go.RowKit Go.Shelf

theorem top_some (d : Int) (m : Mv) : ∃ t, givenP d m = 0 → IsTop d m.spd m.rise m.fall t := by
  by_cases hg : givenP d m = 0
  · obtain ⟨hv, hd⟩ := given_ok hg
    obtain ⟨V0, V1, R0, R1, F0, F1⟩ := valid_bds hv
    obtain ⟨t, ht⟩ := top_exI (d := d) (V := m.spd) (R := m.rise) (F := m.fall) (by omega) (by omega) (inB_iff.1 hd).1 (by omega)
    exact ⟨t, fun _ => ht⟩
  · exact ⟨0, fun h => absurd h hg⟩

set_option maxRecDepth 100000 in
set_option maxHeartbeats 8000000 in
theorem lawtops_law (d : Int) (m : Mv) (w : World) : Calls Try.prog 3 #[.int .i64 d, .agg #[.string m.name, .int .i64 m.to, .int .i64 m.spd, .int .i64 m.rise, .int .i64 m.fall]] w fun e w' => e = .returned (.bool true) ∧ Below w.heap.size w w' := by
  obtain ⟨t, ht⟩ := top_some d m
  by_cases hl : 100 < (m.name.size : Int)
  · clear ht
    go_enter Try.func3, Try.ntmps3
    go_upto_region 1 with (fail)
    have k0 : (w.alloc (.cells #[.string m.name, .int .i64 m.to, .int .i64 m.spd, .int .i64 m.rise, .int .i64 m.fall] 23)).cell? ⟨w.heap.size, 0, none⟩ = some (.string m.name) := by simp
    have k1 : (w.alloc (.cells #[.string m.name, .int .i64 m.to, .int .i64 m.spd, .int .i64 m.rise, .int .i64 m.fall] 23)).cell? ⟨w.heap.size, 1, none⟩ = some (.int .i64 m.to) := by simp
    have k2 : (w.alloc (.cells #[.string m.name, .int .i64 m.to, .int .i64 m.spd, .int .i64 m.rise, .int .i64 m.fall] 23)).cell? ⟨w.heap.size, 2, none⟩ = some (.int .i64 m.spd) := by simp
    have k3 : (w.alloc (.cells #[.string m.name, .int .i64 m.to, .int .i64 m.spd, .int .i64 m.rise, .int .i64 m.fall] 23)).cell? ⟨w.heap.size, 3, none⟩ = some (.int .i64 m.rise) := by simp
    have k4 : (w.alloc (.cells #[.string m.name, .int .i64 m.to, .int .i64 m.spd, .int .i64 m.rise, .int .i64 m.fall] 23)).cell? ⟨w.heap.size, 4, none⟩ = some (.int .i64 m.fall) := by simp
    have hz : w.heap.size < (w.alloc (.cells #[.string m.name, .int .i64 m.to, .int .i64 m.spd, .int .i64 m.rise, .int .i64 m.fall] 23)).heap.size := by simp
    have hW0 : Below w.heap.size w (w.alloc (.cells #[.string m.name, .int .i64 m.to, .int .i64 m.spd, .int .i64 m.rise, .int .i64 m.fall] 23)) := below_new _ _
    generalize w.alloc (.cells #[.string m.name, .int .i64 m.to, .int .i64 m.spd, .int .i64 m.rise, .int .i64 m.fall] 23) = W0 at *
    have x0 : ∀ wr, Below W0.heap.size W0 wr → wr.cell? ⟨w.heap.size, 0, none⟩ = some (.string m.name) := fun wr h => (h.cell (p := ⟨w.heap.size, 0, none⟩) hz).trans k0
    have x1 : ∀ wr, Below W0.heap.size W0 wr → wr.cell? ⟨w.heap.size, 1, none⟩ = some (.int .i64 m.to) := fun wr h => (h.cell (p := ⟨w.heap.size, 1, none⟩) hz).trans k1
    have x2 : ∀ wr, Below W0.heap.size W0 wr → wr.cell? ⟨w.heap.size, 2, none⟩ = some (.int .i64 m.spd) := fun wr h => (h.cell (p := ⟨w.heap.size, 2, none⟩) hz).trans k2
    have x3 : ∀ wr, Below W0.heap.size W0 wr → wr.cell? ⟨w.heap.size, 3, none⟩ = some (.int .i64 m.rise) := fun wr h => (h.cell (p := ⟨w.heap.size, 3, none⟩) hz).trans k3
    have x4 : ∀ wr, Below W0.heap.size W0 wr → wr.cell? ⟨w.heap.size, 4, none⟩ = some (.int .i64 m.fall) := fun wr h => (h.cell (p := ⟨w.heap.size, 4, none⟩) hz).trans k4
    clear k0 k1 k2 k3 k4 hz
    go_wp2_with (first
      | (go_at_call 10; (with_reducible refine (awake_any _).mono ?_); rintro e w1 ⟨rfl, hB1⟩))
    go_ret
    exact ⟨rfl, hW0.trans (hB1.mono hW0.size)⟩
  · have HC := Lib.hid (Top_any d m t ht)
    obtain ⟨b, hb⟩ : ∃ b, validM m = b := ⟨_, rfl⟩
    have HV := Lib.hid hb
    have zb : (b != b) = false := bne_self_eq_false _
    obtain ⟨g, hgg⟩ : ∃ g, givenP d m = g := ⟨_, rfl⟩
    have HG := Lib.hid hgg
    have HGV := Lib.hid (refgiven_any d m)
    by_cases hg : g = 0
    · have HT : Hid (topR d m t = t) := Lib.hid (by unfold topR; rw [if_pos (hgg.trans hg)])
      have HRT := Lib.hid (reftop_any d m t (hgg.trans hg) (ht (hgg.trans hg)))
      subst hg
      have zt : (t == t) = true := beq_self_eq_true _
      clear hb hgg ht
      go_enter Try.func3, Try.ntmps3
      go_upto_region 1 with (fail)
      have k0 : (w.alloc (.cells #[.string m.name, .int .i64 m.to, .int .i64 m.spd, .int .i64 m.rise, .int .i64 m.fall] 23)).cell? ⟨w.heap.size, 0, none⟩ = some (.string m.name) := by simp
      have k1 : (w.alloc (.cells #[.string m.name, .int .i64 m.to, .int .i64 m.spd, .int .i64 m.rise, .int .i64 m.fall] 23)).cell? ⟨w.heap.size, 1, none⟩ = some (.int .i64 m.to) := by simp
      have k2 : (w.alloc (.cells #[.string m.name, .int .i64 m.to, .int .i64 m.spd, .int .i64 m.rise, .int .i64 m.fall] 23)).cell? ⟨w.heap.size, 2, none⟩ = some (.int .i64 m.spd) := by simp
      have k3 : (w.alloc (.cells #[.string m.name, .int .i64 m.to, .int .i64 m.spd, .int .i64 m.rise, .int .i64 m.fall] 23)).cell? ⟨w.heap.size, 3, none⟩ = some (.int .i64 m.rise) := by simp
      have k4 : (w.alloc (.cells #[.string m.name, .int .i64 m.to, .int .i64 m.spd, .int .i64 m.rise, .int .i64 m.fall] 23)).cell? ⟨w.heap.size, 4, none⟩ = some (.int .i64 m.fall) := by simp
      have hz : w.heap.size < (w.alloc (.cells #[.string m.name, .int .i64 m.to, .int .i64 m.spd, .int .i64 m.rise, .int .i64 m.fall] 23)).heap.size := by simp
      have hW0 : Below w.heap.size w (w.alloc (.cells #[.string m.name, .int .i64 m.to, .int .i64 m.spd, .int .i64 m.rise, .int .i64 m.fall] 23)) := below_new _ _
      generalize w.alloc (.cells #[.string m.name, .int .i64 m.to, .int .i64 m.spd, .int .i64 m.rise, .int .i64 m.fall] 23) = W0 at *
      have x0 : ∀ wr, Below W0.heap.size W0 wr → wr.cell? ⟨w.heap.size, 0, none⟩ = some (.string m.name) := fun wr h => (h.cell (p := ⟨w.heap.size, 0, none⟩) hz).trans k0
      have x1 : ∀ wr, Below W0.heap.size W0 wr → wr.cell? ⟨w.heap.size, 1, none⟩ = some (.int .i64 m.to) := fun wr h => (h.cell (p := ⟨w.heap.size, 1, none⟩) hz).trans k1
      have x2 : ∀ wr, Below W0.heap.size W0 wr → wr.cell? ⟨w.heap.size, 2, none⟩ = some (.int .i64 m.spd) := fun wr h => (h.cell (p := ⟨w.heap.size, 2, none⟩) hz).trans k2
      have x3 : ∀ wr, Below W0.heap.size W0 wr → wr.cell? ⟨w.heap.size, 3, none⟩ = some (.int .i64 m.rise) := fun wr h => (h.cell (p := ⟨w.heap.size, 3, none⟩) hz).trans k3
      have x4 : ∀ wr, Below W0.heap.size W0 wr → wr.cell? ⟨w.heap.size, 4, none⟩ = some (.int .i64 m.fall) := fun wr h => (h.cell (p := ⟨w.heap.size, 4, none⟩) hz).trans k4
      clear k0 k1 k2 k3 k4 hz
      go_upto_region 6 with (first
        | (go_at_call 10; (with_reducible refine (awake_any _).mono ?_); rintro e w1 ⟨rfl, hB1⟩)
        | (go_at_call 11; (with_reducible refine (HC.out _).mono ?_); rintro e w2 ⟨rfl, hb2⟩; rw [HT.out, HG.out]; have hB2 := hB1.trans (hb2.mono hB1.size)))
      go_region_held3 (fun w' => Below W0.heap.size W0 w' ∧ w'.cell? ⟨w.heap.size, 0, none⟩ = some (.string m.name) ∧ w'.cell? ⟨w.heap.size, 1, none⟩ = some (.int .i64 m.to) ∧ w'.cell? ⟨w.heap.size, 2, none⟩ = some (.int .i64 m.spd) ∧ w'.cell? ⟨w.heap.size, 3, none⟩ = some (.int .i64 m.rise) ∧ w'.cell? ⟨w.heap.size, 4, none⟩ = some (.int .i64 m.fall))
        (first | exact ⟨hB2.drew, x0 _ hB2.drew, x1 _ hB2.drew, x2 _ hB2.drew, x3 _ hB2.drew, x4 _ hB2.drew⟩ | exact ⟨hB3, x0 _ hB3, x1 _ hB3, x2 _ hB3, x3 _ hB3, x4 _ hB3⟩ | exact ⟨hB4, x0 _ hB4, x1 _ hB4, x2 _ hB4, x3 _ hB4, x4 _ hB4⟩)
        (first
          | (go_at_call 12; go_split_ands; (with_reducible refine (valid_anyM m _).mono ?_); rintro e w3 ⟨rfl, hb3⟩; rw [HV.out]; have hB3 := hB2.drew.trans (hb3.mono hB2.drew.size))
          | (go_at_call 13; go_split_ands; (with_reducible refine (refvalid_anyM m _).mono ?_); rintro e w4 ⟨rfl, hb4⟩; rw [HV.out]; have hB4 := hB3.trans (hb4.mono hB3.size)))
      go_wp2_with (first
        | (go_at_call 14; (with_reducible refine (HGV.out _).mono ?_); rintro e w5 ⟨rfl, hb5⟩; rw [HG.out]; have hB5 := hB4.trans (hb5.mono hB4.size))
        | (go_at_call 15; (with_reducible refine (HRT.out _).mono ?_); rintro e w6 ⟨rfl, hb6⟩; have hB6 := hB5.trans (hb6.mono hB5.size)))
      go_ret
      exact ⟨rfl, hW0.trans (hB6.mono hW0.size)⟩
    · have HT : Hid (topR d m t = 0) := Lib.hid (by unfold topR; rw [if_neg (by rw [hgg]; exact hg)])
      have g1 : (g == 0) = false := by simpa using hg
      have g2 : (g != 0) = true := by simpa using hg
      have g3 : (g == g) = true := beq_self_eq_true _
      clear hb hgg ht hg
      go_enter Try.func3, Try.ntmps3
      go_upto_region 1 with (fail)
      have k0 : (w.alloc (.cells #[.string m.name, .int .i64 m.to, .int .i64 m.spd, .int .i64 m.rise, .int .i64 m.fall] 23)).cell? ⟨w.heap.size, 0, none⟩ = some (.string m.name) := by simp
      have k1 : (w.alloc (.cells #[.string m.name, .int .i64 m.to, .int .i64 m.spd, .int .i64 m.rise, .int .i64 m.fall] 23)).cell? ⟨w.heap.size, 1, none⟩ = some (.int .i64 m.to) := by simp
      have k2 : (w.alloc (.cells #[.string m.name, .int .i64 m.to, .int .i64 m.spd, .int .i64 m.rise, .int .i64 m.fall] 23)).cell? ⟨w.heap.size, 2, none⟩ = some (.int .i64 m.spd) := by simp
      have k3 : (w.alloc (.cells #[.string m.name, .int .i64 m.to, .int .i64 m.spd, .int .i64 m.rise, .int .i64 m.fall] 23)).cell? ⟨w.heap.size, 3, none⟩ = some (.int .i64 m.rise) := by simp
      have k4 : (w.alloc (.cells #[.string m.name, .int .i64 m.to, .int .i64 m.spd, .int .i64 m.rise, .int .i64 m.fall] 23)).cell? ⟨w.heap.size, 4, none⟩ = some (.int .i64 m.fall) := by simp
      have hz : w.heap.size < (w.alloc (.cells #[.string m.name, .int .i64 m.to, .int .i64 m.spd, .int .i64 m.rise, .int .i64 m.fall] 23)).heap.size := by simp
      have hW0 : Below w.heap.size w (w.alloc (.cells #[.string m.name, .int .i64 m.to, .int .i64 m.spd, .int .i64 m.rise, .int .i64 m.fall] 23)) := below_new _ _
      generalize w.alloc (.cells #[.string m.name, .int .i64 m.to, .int .i64 m.spd, .int .i64 m.rise, .int .i64 m.fall] 23) = W0 at *
      have x0 : ∀ wr, Below W0.heap.size W0 wr → wr.cell? ⟨w.heap.size, 0, none⟩ = some (.string m.name) := fun wr h => (h.cell (p := ⟨w.heap.size, 0, none⟩) hz).trans k0
      have x1 : ∀ wr, Below W0.heap.size W0 wr → wr.cell? ⟨w.heap.size, 1, none⟩ = some (.int .i64 m.to) := fun wr h => (h.cell (p := ⟨w.heap.size, 1, none⟩) hz).trans k1
      have x2 : ∀ wr, Below W0.heap.size W0 wr → wr.cell? ⟨w.heap.size, 2, none⟩ = some (.int .i64 m.spd) := fun wr h => (h.cell (p := ⟨w.heap.size, 2, none⟩) hz).trans k2
      have x3 : ∀ wr, Below W0.heap.size W0 wr → wr.cell? ⟨w.heap.size, 3, none⟩ = some (.int .i64 m.rise) := fun wr h => (h.cell (p := ⟨w.heap.size, 3, none⟩) hz).trans k3
      have x4 : ∀ wr, Below W0.heap.size W0 wr → wr.cell? ⟨w.heap.size, 4, none⟩ = some (.int .i64 m.fall) := fun wr h => (h.cell (p := ⟨w.heap.size, 4, none⟩) hz).trans k4
      clear k0 k1 k2 k3 k4 hz
      go_upto_region 6 with (first
        | (go_at_call 10; (with_reducible refine (awake_any _).mono ?_); rintro e w1 ⟨rfl, hB1⟩)
        | (go_at_call 11; (with_reducible refine (HC.out _).mono ?_); rintro e w2 ⟨rfl, hb2⟩; rw [HT.out, HG.out]; have hB2 := hB1.trans (hb2.mono hB1.size)))
      go_region_held3 (fun w' => Below W0.heap.size W0 w' ∧ w'.cell? ⟨w.heap.size, 0, none⟩ = some (.string m.name) ∧ w'.cell? ⟨w.heap.size, 1, none⟩ = some (.int .i64 m.to) ∧ w'.cell? ⟨w.heap.size, 2, none⟩ = some (.int .i64 m.spd) ∧ w'.cell? ⟨w.heap.size, 3, none⟩ = some (.int .i64 m.rise) ∧ w'.cell? ⟨w.heap.size, 4, none⟩ = some (.int .i64 m.fall))
        (first | exact ⟨hB2.drew, x0 _ hB2.drew, x1 _ hB2.drew, x2 _ hB2.drew, x3 _ hB2.drew, x4 _ hB2.drew⟩ | exact ⟨hB3, x0 _ hB3, x1 _ hB3, x2 _ hB3, x3 _ hB3, x4 _ hB3⟩ | exact ⟨hB4, x0 _ hB4, x1 _ hB4, x2 _ hB4, x3 _ hB4, x4 _ hB4⟩)
        (first
          | (go_at_call 12; go_split_ands; (with_reducible refine (valid_anyM m _).mono ?_); rintro e w3 ⟨rfl, hb3⟩; rw [HV.out]; have hB3 := hB2.drew.trans (hb3.mono hB2.drew.size))
          | (go_at_call 13; go_split_ands; (with_reducible refine (refvalid_anyM m _).mono ?_); rintro e w4 ⟨rfl, hb4⟩; rw [HV.out]; have hB4 := hB3.trans (hb4.mono hB3.size)))
      go_wp2_with (first
        | (go_at_call 14; (with_reducible refine (HGV.out _).mono ?_); rintro e w5 ⟨rfl, hb5⟩; rw [HG.out]; have hB5 := hB4.trans (hb5.mono hB4.size)))
      go_ret
      exact ⟨rfl, hW0.trans (hB5.mono hW0.size)⟩
end Go.Proofs.Ytlgpolfbilkmbaa
