/-
  THE WALKS of package quadratic: compare, Valid (at a valid curve), piece.
-/
import Derived.Test.YtlgpolfbilkmbaaQuad2
import Derived.Test.YtlgpolfbilkmbaaMem
import Derived.Test.YtlgpolfbilkmbaaRat10
namespace Go.Proofs.Ytlgpolfbilkmbaa
open Go.RowKit Go.Shelf
structure PcOK (p : Pc) : Prop where
  f : validF p.f0 p.f1 = true
  a : validF p.a0 p.a1 = true
  b : validF p.b0 p.b1 = true
  c : validF p.c0 p.c1 = true
/-- A valid curve. -/
structure CurveOK (L : List Pc) : Prop where
  pos : 1 ≤ L.length
  len : L.length ≤ 200
  val : ∀ i, i < L.length → PcOK (pcg L i)
  asc : ∀ i, i + 1 < L.length → (pcg L i).f0 * (pcg L (i + 1)).f1 < (pcg L (i + 1)).f0 * (pcg L i).f1
theorem cmpP_lt {x y : Int} (h : x < y) : cmpP x y = -1 := by unfold cmpP; rw [if_neg (by omega), if_pos h]
theorem cmpP_le {x y : Int} : cmpP x y ≤ 0 ↔ x ≤ y := by unfold cmpP; split <;> (try split) <;> omega
set_option maxHeartbeats 1000000 in
theorem compare_any (an ad bn bd : Int) (va : validF an ad = true) (vb : validF bn bd = true) (w : World) :
    Calls Try.prog 78 #[.agg #[.int .i64 an, .int .i64 ad], .agg #[.int .i64 bn, .int .i64 bd]] w fun e w' => e = .returned (.int .i64 (cmpP (an * bd) (bn * ad))) ∧ Below w.heap.size w w' := by
  have HC := Lib.hid (cmp_all an ad bn bd va vb)
  generalize cmpP (an * bd) (bn * ad) = C at *
  clear va vb
  go_enter Try.func78, Try.ntmps78
  go_wp2_with (go_at_call 90; (with_reducible refine (HC.out _).mono ?_); rintro e w1 ⟨rfl, hb1⟩)
  go_ret
  exact ⟨rfl, ((below_new _ _).alloc (by simp) _).trans (hb1.mono (by simp <;> omega))⟩
set_option maxRecDepth 100000 in
set_option maxHeartbeats 8000000 in
theorem qvalid_yes (L : List Pc) (ok : CurveOK L) (a : Option Addr) (c : Nat) (w : World) (hL : Pcs w.heap.size w a L) :
    Calls Try.prog 56 #[.slice a L.length c] w fun e w' => e = .returned (.bool true) ∧ Below w.heap.size w w' := by
  have hl1 := ok.pos
  have hl2 := ok.len
  have HOK := Lib.hid ok
  have g1 : decide ((L.length : Int) < 1) = false := decide_eq_false (by omega)
  have g2 : decide (200 < (L.length : Int)) = false := decide_eq_false (by omega)
  have g3 : decide (200 < L.length) = false := decide_eq_false (by omega)
  obtain ⟨b, off, rfl, hb, hc⟩ := hL (by omega)
  have HC := Lib.hid hc
  clear ok hc hL
  go_enter Try.func56, Try.ntmps56
  go_wp2_with fail
  clear g1 g2 g3
  go_loopw [15] (fun i wr => ∃ k : Nat, k ≤ L.length ∧ i = .int .i64 k ∧ Below w.heap.size w wr) (fun i _ => L.length - (intOf i).toNat)
  case atStart => exact ⟨0, Nat.zero_le _, rfl, Below.refl _ _⟩
  case round =>
    obtain ⟨k, hk, rfl, hB⟩ := hrel
    have hbs := hB.size
    by_cases hlt : k < L.length
    · obtain ⟨c0, c1, c2, c3, c4, c5, c6, c7⟩ := HC.out k hlt
      have d0 := (hB.cell (p := ⟨b, off + k * 8, none⟩) hb).trans c0
      have d1 := (hB.cell (p := ⟨b, off + k * 8 + 1, none⟩) hb).trans c1
      have d2 := (hB.cell (p := ⟨b, off + k * 8 + 2, none⟩) hb).trans c2
      have d3 := (hB.cell (p := ⟨b, off + k * 8 + 3, none⟩) hb).trans c3
      have d4 := (hB.cell (p := ⟨b, off + k * 8 + 4, none⟩) hb).trans c4
      have d5 := (hB.cell (p := ⟨b, off + k * 8 + 5, none⟩) hb).trans c5
      have d6 := (hB.cell (p := ⟨b, off + k * 8 + 6, none⟩) hb).trans c6
      have d7 := (hB.cell (p := ⟨b, off + k * 8 + 7, none⟩) hb).trans c7
      have hok := HOK.out.val k hlt
      have HVf := Lib.hid hok.f
      have HVa := Lib.hid hok.a
      have HVb := Lib.hid hok.b
      have HVc := Lib.hid hok.c
      have i0 : 0 ≤ (k : Int) := by omega
      have i1 : (k : Int) < (L.length : Int) := by omega
      have s1 : IntKind.i64.wrap ((k : Int) + 1) = (k : Int) + 1 := IntWalk.i64_in _ (by omega)
      clear c0 c1 c2 c3 c4 c5 c6 c7 hok
      have hn0 : wr.heap.size < (wr.alloc (.cells #[.int .i64 (pcg L k).f0, .int .i64 (pcg L k).f1, .int .i64 (pcg L k).a0, .int .i64 (pcg L k).a1, .int .i64 (pcg L k).b0, .int .i64 (pcg L k).b1, .int .i64 (pcg L k).c0, .int .i64 (pcg L k).c1] 70)).heap.size := by simp
      have z0_0 : (wr.alloc (.cells #[.int .i64 (pcg L k).f0, .int .i64 (pcg L k).f1, .int .i64 (pcg L k).a0, .int .i64 (pcg L k).a1, .int .i64 (pcg L k).b0, .int .i64 (pcg L k).b1, .int .i64 (pcg L k).c0, .int .i64 (pcg L k).c1] 70)).cell? ⟨wr.heap.size, 0, none⟩ = some (.int .i64 (pcg L k).f0) := by simp
      have z0_1 : (wr.alloc (.cells #[.int .i64 (pcg L k).f0, .int .i64 (pcg L k).f1, .int .i64 (pcg L k).a0, .int .i64 (pcg L k).a1, .int .i64 (pcg L k).b0, .int .i64 (pcg L k).b1, .int .i64 (pcg L k).c0, .int .i64 (pcg L k).c1] 70)).cell? ⟨wr.heap.size, 1, none⟩ = some (.int .i64 (pcg L k).f1) := by simp
      have z0_2 : (wr.alloc (.cells #[.int .i64 (pcg L k).f0, .int .i64 (pcg L k).f1, .int .i64 (pcg L k).a0, .int .i64 (pcg L k).a1, .int .i64 (pcg L k).b0, .int .i64 (pcg L k).b1, .int .i64 (pcg L k).c0, .int .i64 (pcg L k).c1] 70)).cell? ⟨wr.heap.size, 2, none⟩ = some (.int .i64 (pcg L k).a0) := by simp
      have z0_3 : (wr.alloc (.cells #[.int .i64 (pcg L k).f0, .int .i64 (pcg L k).f1, .int .i64 (pcg L k).a0, .int .i64 (pcg L k).a1, .int .i64 (pcg L k).b0, .int .i64 (pcg L k).b1, .int .i64 (pcg L k).c0, .int .i64 (pcg L k).c1] 70)).cell? ⟨wr.heap.size, 3, none⟩ = some (.int .i64 (pcg L k).a1) := by simp
      have z0_4 : (wr.alloc (.cells #[.int .i64 (pcg L k).f0, .int .i64 (pcg L k).f1, .int .i64 (pcg L k).a0, .int .i64 (pcg L k).a1, .int .i64 (pcg L k).b0, .int .i64 (pcg L k).b1, .int .i64 (pcg L k).c0, .int .i64 (pcg L k).c1] 70)).cell? ⟨wr.heap.size, 4, none⟩ = some (.int .i64 (pcg L k).b0) := by simp
      have z0_5 : (wr.alloc (.cells #[.int .i64 (pcg L k).f0, .int .i64 (pcg L k).f1, .int .i64 (pcg L k).a0, .int .i64 (pcg L k).a1, .int .i64 (pcg L k).b0, .int .i64 (pcg L k).b1, .int .i64 (pcg L k).c0, .int .i64 (pcg L k).c1] 70)).cell? ⟨wr.heap.size, 5, none⟩ = some (.int .i64 (pcg L k).b1) := by simp
      have z0_6 : (wr.alloc (.cells #[.int .i64 (pcg L k).f0, .int .i64 (pcg L k).f1, .int .i64 (pcg L k).a0, .int .i64 (pcg L k).a1, .int .i64 (pcg L k).b0, .int .i64 (pcg L k).b1, .int .i64 (pcg L k).c0, .int .i64 (pcg L k).c1] 70)).cell? ⟨wr.heap.size, 6, none⟩ = some (.int .i64 (pcg L k).c0) := by simp
      have z0_7 : (wr.alloc (.cells #[.int .i64 (pcg L k).f0, .int .i64 (pcg L k).f1, .int .i64 (pcg L k).a0, .int .i64 (pcg L k).a1, .int .i64 (pcg L k).b0, .int .i64 (pcg L k).b1, .int .i64 (pcg L k).c0, .int .i64 (pcg L k).c1] 70)).cell? ⟨wr.heap.size, 7, none⟩ = some (.int .i64 (pcg L k).c1) := by simp
      go_upto_region 8 with (first
        | (go_at_call 57; (with_reducible refine (valid_any (pcg L k).f0 (pcg L k).f1 _).mono ?_); rintro e w1 ⟨rfl, hv1⟩; rw [HVf.out]; have z1_0 : w1.cell? ⟨wr.heap.size, 0, none⟩ = some (.int .i64 (pcg L k).f0) := (hv1.cell (p := ⟨wr.heap.size, 0, none⟩) hn0).trans z0_0; have z1_1 : w1.cell? ⟨wr.heap.size, 1, none⟩ = some (.int .i64 (pcg L k).f1) := (hv1.cell (p := ⟨wr.heap.size, 1, none⟩) hn0).trans z0_1; have z1_2 : w1.cell? ⟨wr.heap.size, 2, none⟩ = some (.int .i64 (pcg L k).a0) := (hv1.cell (p := ⟨wr.heap.size, 2, none⟩) hn0).trans z0_2; have z1_3 : w1.cell? ⟨wr.heap.size, 3, none⟩ = some (.int .i64 (pcg L k).a1) := (hv1.cell (p := ⟨wr.heap.size, 3, none⟩) hn0).trans z0_3; have z1_4 : w1.cell? ⟨wr.heap.size, 4, none⟩ = some (.int .i64 (pcg L k).b0) := (hv1.cell (p := ⟨wr.heap.size, 4, none⟩) hn0).trans z0_4; have z1_5 : w1.cell? ⟨wr.heap.size, 5, none⟩ = some (.int .i64 (pcg L k).b1) := (hv1.cell (p := ⟨wr.heap.size, 5, none⟩) hn0).trans z0_5; have z1_6 : w1.cell? ⟨wr.heap.size, 6, none⟩ = some (.int .i64 (pcg L k).c0) := (hv1.cell (p := ⟨wr.heap.size, 6, none⟩) hn0).trans z0_6; have z1_7 : w1.cell? ⟨wr.heap.size, 7, none⟩ = some (.int .i64 (pcg L k).c1) := (hv1.cell (p := ⟨wr.heap.size, 7, none⟩) hn0).trans z0_7; have hn1 : wr.heap.size < w1.heap.size := World.block_lt_of_cell? _ _ z1_0)
        | (go_at_call 57; (with_reducible refine (valid_any (pcg L k).a0 (pcg L k).a1 _).mono ?_); rintro e w2 ⟨rfl, hv2⟩; rw [HVa.out]; have z2_0 : w2.cell? ⟨wr.heap.size, 0, none⟩ = some (.int .i64 (pcg L k).f0) := (hv2.cell (p := ⟨wr.heap.size, 0, none⟩) hn1).trans z1_0; have z2_1 : w2.cell? ⟨wr.heap.size, 1, none⟩ = some (.int .i64 (pcg L k).f1) := (hv2.cell (p := ⟨wr.heap.size, 1, none⟩) hn1).trans z1_1; have z2_2 : w2.cell? ⟨wr.heap.size, 2, none⟩ = some (.int .i64 (pcg L k).a0) := (hv2.cell (p := ⟨wr.heap.size, 2, none⟩) hn1).trans z1_2; have z2_3 : w2.cell? ⟨wr.heap.size, 3, none⟩ = some (.int .i64 (pcg L k).a1) := (hv2.cell (p := ⟨wr.heap.size, 3, none⟩) hn1).trans z1_3; have z2_4 : w2.cell? ⟨wr.heap.size, 4, none⟩ = some (.int .i64 (pcg L k).b0) := (hv2.cell (p := ⟨wr.heap.size, 4, none⟩) hn1).trans z1_4; have z2_5 : w2.cell? ⟨wr.heap.size, 5, none⟩ = some (.int .i64 (pcg L k).b1) := (hv2.cell (p := ⟨wr.heap.size, 5, none⟩) hn1).trans z1_5; have z2_6 : w2.cell? ⟨wr.heap.size, 6, none⟩ = some (.int .i64 (pcg L k).c0) := (hv2.cell (p := ⟨wr.heap.size, 6, none⟩) hn1).trans z1_6; have z2_7 : w2.cell? ⟨wr.heap.size, 7, none⟩ = some (.int .i64 (pcg L k).c1) := (hv2.cell (p := ⟨wr.heap.size, 7, none⟩) hn1).trans z1_7; have hn2 : wr.heap.size < w2.heap.size := World.block_lt_of_cell? _ _ z2_0)
        | (go_at_call 57; (with_reducible refine (valid_any (pcg L k).b0 (pcg L k).b1 _).mono ?_); rintro e w3 ⟨rfl, hv3⟩; rw [HVb.out]; have z3_0 : w3.cell? ⟨wr.heap.size, 0, none⟩ = some (.int .i64 (pcg L k).f0) := (hv3.cell (p := ⟨wr.heap.size, 0, none⟩) hn2).trans z2_0; have z3_1 : w3.cell? ⟨wr.heap.size, 1, none⟩ = some (.int .i64 (pcg L k).f1) := (hv3.cell (p := ⟨wr.heap.size, 1, none⟩) hn2).trans z2_1; have z3_2 : w3.cell? ⟨wr.heap.size, 2, none⟩ = some (.int .i64 (pcg L k).a0) := (hv3.cell (p := ⟨wr.heap.size, 2, none⟩) hn2).trans z2_2; have z3_3 : w3.cell? ⟨wr.heap.size, 3, none⟩ = some (.int .i64 (pcg L k).a1) := (hv3.cell (p := ⟨wr.heap.size, 3, none⟩) hn2).trans z2_3; have z3_4 : w3.cell? ⟨wr.heap.size, 4, none⟩ = some (.int .i64 (pcg L k).b0) := (hv3.cell (p := ⟨wr.heap.size, 4, none⟩) hn2).trans z2_4; have z3_5 : w3.cell? ⟨wr.heap.size, 5, none⟩ = some (.int .i64 (pcg L k).b1) := (hv3.cell (p := ⟨wr.heap.size, 5, none⟩) hn2).trans z2_5; have z3_6 : w3.cell? ⟨wr.heap.size, 6, none⟩ = some (.int .i64 (pcg L k).c0) := (hv3.cell (p := ⟨wr.heap.size, 6, none⟩) hn2).trans z2_6; have z3_7 : w3.cell? ⟨wr.heap.size, 7, none⟩ = some (.int .i64 (pcg L k).c1) := (hv3.cell (p := ⟨wr.heap.size, 7, none⟩) hn2).trans z2_7; have hn3 : wr.heap.size < w3.heap.size := World.block_lt_of_cell? _ _ z3_0)
        | (go_at_call 57; (with_reducible refine (valid_any (pcg L k).c0 (pcg L k).c1 _).mono ?_); rintro e w4 ⟨rfl, hv4⟩; rw [HVc.out]; have z4_0 : w4.cell? ⟨wr.heap.size, 0, none⟩ = some (.int .i64 (pcg L k).f0) := (hv4.cell (p := ⟨wr.heap.size, 0, none⟩) hn3).trans z3_0; have z4_1 : w4.cell? ⟨wr.heap.size, 1, none⟩ = some (.int .i64 (pcg L k).f1) := (hv4.cell (p := ⟨wr.heap.size, 1, none⟩) hn3).trans z3_1; have z4_2 : w4.cell? ⟨wr.heap.size, 2, none⟩ = some (.int .i64 (pcg L k).a0) := (hv4.cell (p := ⟨wr.heap.size, 2, none⟩) hn3).trans z3_2; have z4_3 : w4.cell? ⟨wr.heap.size, 3, none⟩ = some (.int .i64 (pcg L k).a1) := (hv4.cell (p := ⟨wr.heap.size, 3, none⟩) hn3).trans z3_3; have z4_4 : w4.cell? ⟨wr.heap.size, 4, none⟩ = some (.int .i64 (pcg L k).b0) := (hv4.cell (p := ⟨wr.heap.size, 4, none⟩) hn3).trans z3_4; have z4_5 : w4.cell? ⟨wr.heap.size, 5, none⟩ = some (.int .i64 (pcg L k).b1) := (hv4.cell (p := ⟨wr.heap.size, 5, none⟩) hn3).trans z3_5; have z4_6 : w4.cell? ⟨wr.heap.size, 6, none⟩ = some (.int .i64 (pcg L k).c0) := (hv4.cell (p := ⟨wr.heap.size, 6, none⟩) hn3).trans z3_6; have z4_7 : w4.cell? ⟨wr.heap.size, 7, none⟩ = some (.int .i64 (pcg L k).c1) := (hv4.cell (p := ⟨wr.heap.size, 7, none⟩) hn3).trans z3_7; have hn4 : wr.heap.size < w4.heap.size := World.block_lt_of_cell? _ _ z4_0))
      have hB4 : Below w.heap.size w w4 := ((((hB.alloc hbs _).trans (hv1.mono (by simp; omega))).trans (hv2.mono (by have := hv1.size; simp at this; omega))).trans (hv3.mono (by omega))).trans (hv4.mono (by omega))
      have hw4 : Below wr.heap.size wr w4 := ((((below_new wr _).trans (hv1.mono (by simp))).trans (hv2.mono (by omega))).trans (hv3.mono (by omega))).trans (hv4.mono (by omega))
      clear hv1 hv2 hv3 hv4 hn0 hn1 hn2 hn3 z0_0 z0_1 z0_2 z0_3 z0_4 z0_5 z0_6 z0_7 z1_0 z1_1 z1_2 z1_3 z1_4 z1_5 z1_6 z1_7 z2_0 z2_1 z2_2 z2_3 z2_4 z2_5 z2_6 z2_7 z3_0 z3_1 z3_2 z3_3 z3_4 z3_5 z3_6 z3_7 d0 d1 d2 d3 d4 d5 d6 d7 z4_2 z4_3 z4_4 z4_5 z4_6 z4_7
      have hbx := hB4.size
      rcases (show k = 0 ∨ ∃ m, k = m + 1 by cases k with | zero => exact .inl rfl | succ m => exact .inr ⟨m, rfl⟩) with rfl | ⟨m, rfl⟩
      · go_quiet (fail)
        go_wp2_with fail
        go_roundw
        case rel => exact ⟨1, by omega, by go_num, by first | exact below_drewN hB4 _ | exact hB4.drew⟩
        case measure => simp [intOf]; omega
      · obtain ⟨c0, c1, c2, c3, c4, c5, c6, c7⟩ := HC.out m (by omega)
        have q0 := (hB4.cell (p := ⟨b, off + m * 8, none⟩) hb).trans c0
        have q1 := (hB4.cell (p := ⟨b, off + m * 8 + 1, none⟩) hb).trans c1
        have HV1 := Lib.hid (HOK.out.val m (by omega)).f
        have HA := Lib.hid (cmpP_lt (HOK.out.asc m hlt))
        have j0 : IntKind.i64.wrap (((m + 1 : Nat) : Int) - 1) = (m : Int) := (IntWalk.i64_in _ (by omega)).trans (by omega)
        have j1 : IntKind.i64.wrap ((m : Int) + 1 - 1) = (m : Int) := (IntWalk.i64_in _ (by omega)).trans (by omega)
        have j2 : IntKind.i64.wrap (m : Int) = (m : Int) := IntWalk.i64_in _ (by omega)
        have j3 : (m : Int) < (L.length : Int) := by omega
        have j4 : decide ((0 : Int) < ((m + 1 : Nat) : Int)) = true := decide_eq_true (by omega)
        have j5 : decide ((0 : Int) < (m : Int) + 1) = true := decide_eq_true (by omega)
        have j6 : (0 : Int) ≤ (m : Int) := by omega
        have j7 : m < L.length := by omega
        clear c0 c1 c2 c3 c4 c5 c6 c7
        have hn4' := hn4
        have HSX : Hid (∀ w', Below w4.heap.size w4 w' → Below w4.heap.size w4 w' ∧ w'.cell? ⟨b, off + m * 8, none⟩ = some (.int .i64 (pcg L m).f0) ∧ w'.cell? ⟨b, off + m * 8 + 1, none⟩ = some (.int .i64 (pcg L m).f1) ∧ w'.cell? ⟨wr.heap.size, 0, none⟩ = some (.int .i64 (pcg L (m + 1)).f0) ∧ w'.cell? ⟨wr.heap.size, 1, none⟩ = some (.int .i64 (pcg L (m + 1)).f1)) := Lib.hid fun w' h =>
          ⟨h, (h.cell (p := ⟨b, off + m * 8, none⟩) (by simp; omega)).trans q0, (h.cell (p := ⟨b, off + m * 8 + 1, none⟩) (by simp; omega)).trans q1, (h.cell (p := ⟨wr.heap.size, 0, none⟩) hn4).trans z4_0, (h.cell (p := ⟨wr.heap.size, 1, none⟩) hn4).trans z4_1⟩
        clear q0 q1 z4_0 z4_1
        refine wp_region_held_drew (S := (fun w' => Below w4.heap.size w4 w' ∧ w'.cell? ⟨b, off + m * 8, none⟩ = some (.int .i64 (pcg L m).f0) ∧ w'.cell? ⟨b, off + m * 8 + 1, none⟩ = some (.int .i64 (pcg L m).f1) ∧ w'.cell? ⟨wr.heap.size, 0, none⟩ = some (.int .i64 (pcg L (m + 1)).f0) ∧ w'.cell? ⟨wr.heap.size, 1, none⟩ = some (.int .i64 (pcg L (m + 1)).f1))) (by kernel_rfl) (HSX.out _ (Below.refl _ _).drew) (fun hHeld => ?_)
        refine wpAnyH_take (i := 0) (oi := _) (v := ?_) rfl (by kernel_rfl) (by kernel_rfl) (by kernel_rfl) (fun _ _ _ h => h) (Or.inl ⟨by rfl, ?_⟩) (by assumption) ?_
        rotate_left
        · (intro w hSw; (try dsimp only at hSw); (try simp only [List.getElem_toArray, List.getElem_cons_zero]); go_simp; try with_reducible rfl)
        simp only [Act.put, List.setIfInBounds_toArray, List.set_cons_zero, List.set_cons_succ, List.getElem_toArray, List.getElem_cons_zero]
        refine wpAnyH_take (i := 1) (oi := _) (v := ?_) rfl (by kernel_rfl) (by kernel_rfl) (by kernel_rfl) (fun _ _ _ h => h) (Or.inl ⟨by rfl, ?_⟩) (by assumption) ?_
        rotate_left
        · (intro w hSw; (try dsimp only at hSw); (try simp only [List.getElem_toArray, List.getElem_cons_succ, List.getElem_cons_zero]); go_simp; try with_reducible rfl)
        simp only [Act.put, List.setIfInBounds_toArray, List.set_cons_zero, List.set_cons_succ, List.getElem_toArray, List.getElem_cons_succ, List.getElem_cons_zero]
        refine wpAnyH_take (i := 2) (oi := _) (v := ?_) rfl (by kernel_rfl) (by kernel_rfl) (by kernel_rfl) (fun _ _ _ h => h) (Or.inl ⟨by rfl, ?_⟩) (by assumption) ?_
        rotate_left
        · (intro w hSw; (try dsimp only at hSw); (try simp only [List.getElem_toArray, List.getElem_cons_succ, List.getElem_cons_zero]); go_simp; try with_reducible rfl)
        simp only [Act.put, List.setIfInBounds_toArray, List.set_cons_zero, List.set_cons_succ, List.getElem_toArray, List.getElem_cons_succ, List.getElem_cons_zero]
        refine wpAnyH_take (i := 3) (oi := _) (v := ?_) rfl (by kernel_rfl) (by kernel_rfl) (by kernel_rfl) (fun _ _ _ h => h) (Or.inl ⟨by rfl, ?_⟩) (by assumption) ?_
        rotate_left
        · (intro w hSw; (try dsimp only at hSw); (try simp only [List.getElem_toArray, List.getElem_cons_succ, List.getElem_cons_zero]); go_simp; try with_reducible rfl)
        simp only [Act.put, List.setIfInBounds_toArray, List.set_cons_zero, List.set_cons_succ, List.getElem_toArray, List.getElem_cons_succ, List.getElem_cons_zero]
        refine wpAnyH_take (i := 4) (oi := _) (v := ?_) rfl (by kernel_rfl) (by kernel_rfl) (by kernel_rfl) (fun _ _ _ h => h) (Or.inl ⟨by rfl, ?_⟩) (by assumption) ?_
        rotate_left
        · (intro w hSw; (try dsimp only at hSw); (try simp only [List.getElem_toArray, List.getElem_cons_succ, List.getElem_cons_zero]); go_simp; try with_reducible rfl)
        simp only [Act.put, List.setIfInBounds_toArray, List.set_cons_zero, List.set_cons_succ, List.getElem_toArray, List.getElem_cons_succ, List.getElem_cons_zero]
        refine wpAnyH_take (i := 5) (oi := _) (v := ?_) rfl (by kernel_rfl) (by kernel_rfl) (by kernel_rfl) (fun _ _ _ h => h) (Or.inl ⟨by rfl, ?_⟩) (by assumption) ?_
        rotate_left
        · (intro w hSw; (try dsimp only at hSw); (try simp only [List.getElem_toArray, List.getElem_cons_succ, List.getElem_cons_zero]); go_simp; try with_reducible rfl)
        simp only [Act.put, List.setIfInBounds_toArray, List.set_cons_zero, List.set_cons_succ, List.getElem_toArray, List.getElem_cons_succ, List.getElem_cons_zero]
        refine wpAnyH_take (i := 6) (oi := _) (v := ?_) rfl (by kernel_rfl) (by kernel_rfl) (by kernel_rfl) (fun _ _ _ h => h) (Or.inl ⟨by rfl, ?_⟩) (by assumption) ?_
        rotate_left
        · (intro w hSw; (try dsimp only at hSw); (try simp only [List.getElem_toArray, List.getElem_cons_succ, List.getElem_cons_zero]); go_simp; try with_reducible rfl)
        simp only [Act.put, List.setIfInBounds_toArray, List.set_cons_zero, List.set_cons_succ, List.getElem_toArray, List.getElem_cons_succ, List.getElem_cons_zero]
        refine wpAnyH_take (i := 7) (oi := _) (v := ?_) rfl (by kernel_rfl) (by kernel_rfl) (by kernel_rfl) (fun _ _ _ h => h) (Or.inl ⟨by rfl, ?_⟩) (by assumption) ?_
        rotate_left
        · (intro w hSw; (try dsimp only at hSw); (try simp only [List.getElem_toArray, List.getElem_cons_succ, List.getElem_cons_zero]); go_simp; try with_reducible rfl)
        simp only [Act.put, List.setIfInBounds_toArray, List.set_cons_zero, List.set_cons_succ, List.getElem_toArray, List.getElem_cons_succ, List.getElem_cons_zero]
        refine wpAnyH_take (i := 8) (oi := _) (v := ?_) rfl (by kernel_rfl) (by kernel_rfl) (by kernel_rfl) (fun _ _ _ h => h) (Or.inl ⟨by rfl, ?_⟩) (by assumption) ?_
        rotate_left
        · (intro w hSw; (try dsimp only at hSw); (try simp only [List.getElem_toArray, List.getElem_cons_succ, List.getElem_cons_zero]); go_simp; try with_reducible rfl)
        simp only [Act.put, List.setIfInBounds_toArray, List.set_cons_zero, List.set_cons_succ, List.getElem_toArray, List.getElem_cons_succ, List.getElem_cons_zero]
        refine wpAnyH_take (i := 9) (oi := _) (v := ?_) rfl (by kernel_rfl) (by kernel_rfl) (by kernel_rfl) (fun _ _ _ h => h) (Or.inl ⟨by rfl, ?_⟩) (by assumption) ?_
        rotate_left
        · (intro w hSw; (try dsimp only at hSw); (try simp only [List.getElem_toArray, List.getElem_cons_succ, List.getElem_cons_zero]); go_simp; try with_reducible rfl)
        simp only [Act.put, List.setIfInBounds_toArray, List.set_cons_zero, List.set_cons_succ, List.getElem_toArray, List.getElem_cons_succ, List.getElem_cons_zero]
        refine wpAnyH_take (i := 10) (oi := _) (v := ?_) rfl (by kernel_rfl) (by kernel_rfl) (by kernel_rfl) (fun _ _ _ h => h) (Or.inl ⟨by rfl, ?_⟩) (by assumption) ?_
        rotate_left
        · (intro w hSw; (try dsimp only at hSw); (try simp only [List.getElem_toArray, List.getElem_cons_succ, List.getElem_cons_zero]); go_simp; try with_reducible rfl)
        simp only [Act.put, List.setIfInBounds_toArray, List.set_cons_zero, List.set_cons_succ, List.getElem_toArray, List.getElem_cons_succ, List.getElem_cons_zero]
        refine wpAnyH_ready (rs := [11]) (by kernel_rfl) (by simp) ?_
        refine AllReadyH.cons (o := _) rfl (fun K hK => ?_) AllReadyH.nil
        try simp only [List.getElem_toArray, List.getElem_cons_succ, List.getElem_cons_zero]
        go_simp
        (go_at_call 78; go_split_ands; (with_reducible refine (compare_any (pcg L m).f0 (pcg L m).f1 (pcg L (m + 1)).f0 (pcg L (m + 1)).f1 HV1.out HVf.out _).mono ?_); rintro e w5 ⟨rfl, hb5⟩; rw [HA.out]; have hb6 : Below w4.heap.size w4 w5 := ((Below.refl w4.heap.size w4).drew).trans hb5)
        go_wp2_with fail
        refine hK.out _ _ (HSX.out _ hb6) (fun hHeld => ?_)
        clear hK K
        try simp only [Act.put, List.setIfInBounds_toArray, List.set_cons_zero, List.set_cons_succ, List.getElem_toArray, List.getElem_cons_succ, List.getElem_cons_zero]
        refine wpAnyH_take (i := 12) (oi := _) (v := ?_) rfl (by kernel_rfl) (by kernel_rfl) (by kernel_rfl) (fun _ _ _ h => h) (Or.inl ⟨by rfl, ?_⟩) (by assumption) ?_
        rotate_left
        · (intro w hSw; (try dsimp only at hSw); (try simp only [List.getElem_toArray, List.getElem_cons_succ, List.getElem_cons_zero]); go_simp; try with_reducible rfl)
        simp only [Act.put, List.setIfInBounds_toArray, List.set_cons_zero, List.set_cons_succ, List.getElem_toArray, List.getElem_cons_succ, List.getElem_cons_zero]
        refine wpAnyH_take (i := 13) (oi := _) (v := ?_) rfl (by kernel_rfl) (by kernel_rfl) (by kernel_rfl) (fun _ _ _ h => h) (Or.inl ⟨by rfl, ?_⟩) (by assumption) ?_
        rotate_left
        · (intro w hSw; (try dsimp only at hSw); (try simp only [List.getElem_toArray, List.getElem_cons_succ, List.getElem_cons_zero]); go_simp; try with_reducible rfl)
        simp only [Act.put, List.setIfInBounds_toArray, List.set_cons_zero, List.set_cons_succ, List.getElem_toArray, List.getElem_cons_succ, List.getElem_cons_zero]
        refine wpAnyH_done (by kernel_rfl) ?_ _
        go_wp2_with fail
        go_roundw
        case rel => exact ⟨m + 2, by omega, by go_num, hB4.trans (hb6.mono hB4.size)⟩
        case measure => simp [intOf]; omega
    · obtain rfl : k = L.length := by omega
      go_wp2_with fail
      go_ret
      exact ⟨rfl, hB⟩
/-- The piece at a time: the last one that has begun; -1 ahead of the first. -/
def pieceN (L : List Pc) (t : Int × Int) : Nat → Int
  | 0 => -1
  | k + 1 => if (pcg L k).f0 * t.2 ≤ t.1 * (pcg L k).f1 then (k : Int) else pieceN L t k
set_option maxRecDepth 100000 in
set_option maxHeartbeats 8000000 in
theorem piece_any (L : List Pc) (ok : CurveOK L) (t : Int × Int) (vt : vF t = true) (a : Option Addr) (c : Nat) (w : World) (hL : Pcs w.heap.size w a L) :
    Calls Try.prog 58 #[.slice a L.length c, .agg #[.int .i64 t.1, .int .i64 t.2]] w fun e w' => e = .returned (.int .i64 (pieceN L t L.length)) ∧ Below w.heap.size w w' := by
  have hl2 := ok.len
  have HOK := Lib.hid ok
  obtain ⟨b, off, rfl, hb, hc⟩ := hL (by have := ok.pos; omega)
  have HC := Lib.hid hc
  have HT : Hid (validF t.1 t.2 = true) := Lib.hid vt
  clear ok hc hL vt
  go_enter Try.func58, Try.ntmps58
  go_wp2_with fail
  go_loopw [5, 10] (fun p i wr => ∃ k : Nat, k ≤ L.length ∧ i = .int .i64 k ∧ p = .int .i64 (pieceN L t k) ∧ Below w.heap.size w wr ∧ w.heap.size < wr.heap.size ∧ wr.cell? ⟨w.heap.size, 0, none⟩ = some (.int .i64 t.1) ∧ wr.cell? ⟨w.heap.size, 1, none⟩ = some (.int .i64 t.2)) (fun _ i _ => L.length - (intOf i).toNat)
  case atStart => exact ⟨0, Nat.zero_le _, rfl, rfl, below_new _ _, by simp, by simp, by simp⟩
  case round =>
    obtain ⟨k, hk, rfl, rfl, hB, hbs, t0, t1⟩ := hrel
    by_cases hlt : k < L.length
    · obtain ⟨c0, c1, c2, c3, c4, c5, c6, c7⟩ := HC.out k hlt
      have d0 := (hB.cell (p := ⟨b, off + k * 8, none⟩) hb).trans c0
      have d1 := (hB.cell (p := ⟨b, off + k * 8 + 1, none⟩) hb).trans c1
      have d2 := (hB.cell (p := ⟨b, off + k * 8 + 2, none⟩) hb).trans c2
      have d3 := (hB.cell (p := ⟨b, off + k * 8 + 3, none⟩) hb).trans c3
      have d4 := (hB.cell (p := ⟨b, off + k * 8 + 4, none⟩) hb).trans c4
      have d5 := (hB.cell (p := ⟨b, off + k * 8 + 5, none⟩) hb).trans c5
      have d6 := (hB.cell (p := ⟨b, off + k * 8 + 6, none⟩) hb).trans c6
      have d7 := (hB.cell (p := ⟨b, off + k * 8 + 7, none⟩) hb).trans c7
      have HVf := Lib.hid (HOK.out.val k hlt).f
      have i0 : 0 ≤ (k : Int) := by omega
      have i1 : (k : Int) < (L.length : Int) := by omega
      have s1 : IntKind.i64.wrap ((k : Int) + 1) = (k : Int) + 1 := IntWalk.i64_in _ (by omega)
      obtain ⟨P, hP⟩ : ∃ P, pieceN L t k = P := ⟨_, rfl⟩
      rw [hP]
      obtain ⟨C, hC⟩ : ∃ C, cmpP ((pcg L k).f0 * t.2) (t.1 * (pcg L k).f1) = C := ⟨_, rfl⟩
      have HCC := Lib.hid hC
      have hle : C ≤ 0 ↔ (pcg L k).f0 * t.2 ≤ t.1 * (pcg L k).f1 := by rw [← hC]; exact cmpP_le
      have HN : Hid (pieceN L t (k + 1) = if C ≤ 0 then (k : Int) else P) := Lib.hid (by
        rw [pieceN, hP]
        by_cases h : C ≤ 0
        · rw [if_pos h, if_pos (hle.1 h)]
        · rw [if_neg h, if_neg (fun x => h (hle.2 x))])
      clear c0 c1 c2 c3 c4 c5 c6 c7 hC hle hP
      by_cases h : C ≤ 0
      · have g : decide (C ≤ 0) = true := decide_eq_true h
        rw [if_pos h] at HN
        clear h
        go_wp2_with (go_at_call 78; (with_reducible refine (compare_any (pcg L k).f0 (pcg L k).f1 t.1 t.2 HVf.out HT.out _).mono ?_); rw [HCC.out]; rintro e w1 ⟨rfl, hb1⟩)
        have e0 := (hb1.cell (p := ⟨w.heap.size, 0, none⟩) (by simp <;> omega)).trans ((World.cell?_alloc_lt _ _ _ hbs).trans t0)
        have e1 := (hb1.cell (p := ⟨w.heap.size, 1, none⟩) (by simp <;> omega)).trans ((World.cell?_alloc_lt _ _ _ hbs).trans t1)
        have hB1 := (hB.alloc hB.size (.cells #[.int .i64 (pcg L k).f0, .int .i64 (pcg L k).f1, .int .i64 (pcg L k).a0, .int .i64 (pcg L k).a1, .int .i64 (pcg L k).b0, .int .i64 (pcg L k).b1, .int .i64 (pcg L k).c0, .int .i64 (pcg L k).c1] 70)).trans (hb1.mono (by simp; omega))
        go_roundw
        case rel => exact ⟨k + 1, by omega, by go_num, by rw [HN.out], hB1, World.block_lt_of_cell? _ _ e0, e0, e1⟩
        case measure => simp [intOf]; omega
      · have g : decide (C ≤ 0) = false := decide_eq_false h
        rw [if_neg h] at HN
        clear h
        go_wp2_with (go_at_call 78; (with_reducible refine (compare_any (pcg L k).f0 (pcg L k).f1 t.1 t.2 HVf.out HT.out _).mono ?_); rw [HCC.out]; rintro e w1 ⟨rfl, hb1⟩)
        have e0 := (hb1.cell (p := ⟨w.heap.size, 0, none⟩) (by simp <;> omega)).trans ((World.cell?_alloc_lt _ _ _ hbs).trans t0)
        have e1 := (hb1.cell (p := ⟨w.heap.size, 1, none⟩) (by simp <;> omega)).trans ((World.cell?_alloc_lt _ _ _ hbs).trans t1)
        have hB1 := (hB.alloc hB.size (.cells #[.int .i64 (pcg L k).f0, .int .i64 (pcg L k).f1, .int .i64 (pcg L k).a0, .int .i64 (pcg L k).a1, .int .i64 (pcg L k).b0, .int .i64 (pcg L k).b1, .int .i64 (pcg L k).c0, .int .i64 (pcg L k).c1] 70)).trans (hb1.mono (by simp; omega))
        go_roundw
        case rel => exact ⟨k + 1, by omega, by go_num, by rw [HN.out], hB1, World.block_lt_of_cell? _ _ e0, e0, e1⟩
        case measure => simp [intOf]; omega
    · obtain rfl : k = L.length := by omega
      go_wp2_with fail
      go_ret
      exact ⟨rfl, hB⟩
end Go.Proofs.Ytlgpolfbilkmbaa
