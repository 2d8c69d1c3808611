/-
  THE WALK of the reference's comparison of two fractions (02) that are not negative.
-/
import Derived.Test.YtlgpolfbilkmbaaRCmp
namespace Go.Proofs.Ytlgpolfbilkmbaa
open Go.RowKit Go.Shelf

set_option maxRecDepth 100000 in
set_option maxHeartbeats 16000000 in
theorem rcmp_any (an ad bn bd : Int) (a0 : 0 ≤ an) (a1 : an ≤ 9223372036854775807) (a2 : 0 ≤ ad) (a3 : ad ≤ 9223372036854775807) (b0 : 0 ≤ bn) (b1 : bn ≤ 9223372036854775807) (b2 : 0 ≤ bd) (b3 : bd ≤ 9223372036854775807) (w : World) :
    Calls Try.prog 21 #[.agg #[.int .i64 an, .int .i64 ad], .agg #[.int .i64 bn, .int .i64 bd]] w fun e w' => e = .returned (.int .i64 (cmpP (an * bd) (bn * ad))) ∧ Below w.heap.size w w' := by
  have n1 : (an.natAbs : Int) = an := by omega
  have n2 : (ad.natAbs : Int) = ad := by omega
  have n3 : (bn.natAbs : Int) = bn := by omega
  have n4 : (bd.natAbs : Int) = bd := by omega
  have z1 := rsize_any an (by omega) (by omega)
  have z2 := rsize_any ad (by omega) (by omega)
  have z3 := rsize_any bn (by omega) (by omega)
  have z4 := rsize_any bd (by omega) (by omega)
  rw [n1] at z1
  rw [n2] at z2
  rw [n3] at z3
  rw [n4] at z4
  have x1 := rmul_any an bd a0 (by omega) b2 (by omega)
  have x2 := rmul_any bn ad b0 (by omega) a2 (by omega)
  generalize an * bd = x at *
  generalize bn * ad = y at *
  have hL := lessU_of x y
  obtain ⟨xh, hxh⟩ : ∃ h, x / 18446744073709551616 = h := ⟨_, rfl⟩
  obtain ⟨xl, hxl⟩ : ∃ h, x % 18446744073709551616 = h := ⟨_, rfl⟩
  obtain ⟨yh, hyh⟩ : ∃ h, y / 18446744073709551616 = h := ⟨_, rfl⟩
  obtain ⟨yl, hyl⟩ : ∃ h, y % 18446744073709551616 = h := ⟨_, rfl⟩
  rw [hxh, hxl] at x1
  rw [hyh, hyl] at x2
  rw [hxh, hxl, hyh, hyl] at hL
  have hE : x = y ↔ (xh = yh ∧ xl = yl) := by omega
  have X1 := Lib.hid x1
  have X2 := Lib.hid x2
  have Z1 := Lib.hid z1
  have Z2 := Lib.hid z2
  have Z3 := Lib.hid z3
  have Z4 := Lib.hid z4
  have HL := Lib.hid hL
  have HE := Lib.hid hE
  clear n1 n2 n3 n4 z1 z2 z3 z4 x1 x2 hL hE hxh hxl hyh hyl
  have g1 : decide (an < 0) = false := decide_eq_false (by omega)
  have g2 : decide (0 ≤ an) = true := decide_eq_true a0
  have g3 : decide (bn < 0) = false := decide_eq_false (by omega)
  have W0b : Below w.heap.size w ((w.alloc (.cells #[.int .i64 an, .int .i64 ad] 39)).alloc (.cells #[.int .i64 bn, .int .i64 bd] 39)) := below_a _ (below_new _ _)
  obtain ⟨c, hc⟩ : ∃ c, cmpP x y = c := ⟨_, rfl⟩
  rw [hc]
  have HC := Lib.hid hc
  clear hc
  go_enter Try.func21, Try.ntmps21
  go_upto_region 1 with (fail)
  have c0 : ((w.alloc (.cells #[.int .i64 an, .int .i64 ad] 39)).alloc (.cells #[.int .i64 bn, .int .i64 bd] 39)).cell? ⟨w.heap.size, 0, none⟩ = some (.int .i64 an) := by simp
  have c1 : ((w.alloc (.cells #[.int .i64 an, .int .i64 ad] 39)).alloc (.cells #[.int .i64 bn, .int .i64 bd] 39)).cell? ⟨w.heap.size, 1, none⟩ = some (.int .i64 ad) := by simp
  have c2 : ((w.alloc (.cells #[.int .i64 an, .int .i64 ad] 39)).alloc (.cells #[.int .i64 bn, .int .i64 bd] 39)).cell? ⟨w.heap.size + 1, 0, none⟩ = some (.int .i64 bn) := by simp
  have c3 : ((w.alloc (.cells #[.int .i64 an, .int .i64 ad] 39)).alloc (.cells #[.int .i64 bn, .int .i64 bd] 39)).cell? ⟨w.heap.size + 1, 1, none⟩ = some (.int .i64 bd) := by simp
  obtain ⟨Bb, hBb⟩ : ∃ b, w.heap.size + 1 = b := ⟨_, rfl⟩
  simp only [hBb] at c2 c3 ⊢
  clear hBb
  generalize (w.alloc (.cells #[.int .i64 an, .int .i64 ad] 39)).alloc (.cells #[.int .i64 bn, .int .i64 bd] 39) = W0 at *
  have HS : Hid (∀ w', Below W0.heap.size W0 w' → Below W0.heap.size W0 w' ∧ w'.cell? ⟨w.heap.size, 0, none⟩ = some (.int .i64 an) ∧ w'.cell? ⟨w.heap.size, 1, none⟩ = some (.int .i64 ad) ∧ w'.cell? ⟨Bb, 0, none⟩ = some (.int .i64 bn) ∧ w'.cell? ⟨Bb, 1, none⟩ = some (.int .i64 bd)) := Lib.hid fun w' h =>
    ⟨h, (h.cell (p := ⟨w.heap.size, 0, none⟩) (World.block_lt_of_cell? _ _ c0)).trans c0, (h.cell (p := ⟨w.heap.size, 1, none⟩) (World.block_lt_of_cell? _ _ c1)).trans c1, (h.cell (p := ⟨Bb, 0, none⟩) (World.block_lt_of_cell? _ _ c2)).trans c2, (h.cell (p := ⟨Bb, 1, none⟩) (World.block_lt_of_cell? _ _ c3)).trans c3⟩
  refine rcmp1 HS Z1 Z2 Z3 Z4 X1 X2 ?_
  intro u5 u6 u7 u8 u9 u10 u11 u12 u13 u14 u15 u16 u17 u18 u19 u20 u21 u22 u23 u24 u25 u26 u27 u28 u29 u30 u31 u32 u33 u34 u35 u36 u37 u38 u39 u40 u41 u42 u43 u44 u45 u46 wc hcut
  · obtain ⟨B5, B6, rfl, rfl, hBn, ⟨y0, y1⟩, ⟨y2, y3⟩⟩ := hcut
    obtain ⟨W1, rfl⟩ : ∃ W : World, W = wc := ⟨_, rfl⟩
    clear c0 c1 c2 c3
    obtain ⟨_, c0, c1, c2, c3⟩ := HS.out _ hBn
    have W1b := W0b.trans (hBn.mono W0b.size)
    clear HS hBn W0b
    by_cases he : x = y
    · have HR : Hid (c = 0) := Lib.hid (by rw [← HC.out]; unfold cmpP; rw [if_pos he])
      obtain ⟨e1, e2⟩ := HE.out.1 he
      have q1 : (xh == yh) = true := by simpa using e1
      have q2 : (xl == yl) = true := by simpa using e2
      clear he e1 e2 g3
      go_wp2_with fail
      go_ret
      exact ⟨ret_u HR.out.symm, W1b⟩
    · have hne : ¬ (xh = yh ∧ xl = yl) := fun h => he (HE.out.2 h)
      have HX : Hid (c = if x < y then -1 else 1) := Lib.hid (by rw [← HC.out]; unfold cmpP; rw [if_neg he])
      by_cases hl : x < y
      all_goals
        first
          | (have hl' : decide (x < y) = true := decide_eq_true hl
             have HR : Hid (c = -1) := Lib.hid (by rw [HX.out, if_pos hl])
             rw [hl'] at HL)
          | (have hl' : decide (x < y) = false := decide_eq_false hl
             have HR : Hid (c = 1) := Lib.hid (by rw [HX.out, if_neg hl])
             rw [hl'] at HL)
        have hw1 : Below W1.heap.size W1 W1 := Below.refl _ _
        clear he hl hl'
        by_cases hh : xh = yh
        all_goals
          first
            | (have q1 : (xh == yh) = true := by simpa using hh
               have q2 : (xl == yl) = false := by simpa using fun h => hne ⟨hh, h⟩
               clear hh hne)
            | (have q1 : (xh == yh) = false := by simpa using hh
               clear hh hne)
          go_upto_region 8 with (fail)
          have HS8 : Hid (∀ w', Below W1.heap.size W1 w' → Below W1.heap.size W1 w' ∧ w'.cell? ⟨w.heap.size, 0, none⟩ = some (.int .i64 an) ∧ w'.cell? ⟨B5, 0, none⟩ = some (.int .u64 xh) ∧ w'.cell? ⟨B5, 1, none⟩ = some (.int .u64 xl) ∧ w'.cell? ⟨B6, 0, none⟩ = some (.int .u64 yh) ∧ w'.cell? ⟨B6, 1, none⟩ = some (.int .u64 yl)) := Lib.hid fun w' h =>
            ⟨h, (h.cell (p := ⟨w.heap.size, 0, none⟩) (World.block_lt_of_cell? _ _ c0)).trans c0, (h.cell (p := ⟨B5, 0, none⟩) (World.block_lt_of_cell? _ _ y0)).trans y0, (h.cell (p := ⟨B5, 1, none⟩) (World.block_lt_of_cell? _ _ y1)).trans y1, (h.cell (p := ⟨B6, 0, none⟩) (World.block_lt_of_cell? _ _ y2)).trans y2, (h.cell (p := ⟨B6, 1, none⟩) (World.block_lt_of_cell? _ _ y3)).trans y3⟩
          have hbd8 := hw1.drew
          clear c0 c1 c2 c3 y0 y1 y2 y3 q1
          go_region_held3 (fun w' => Below W1.heap.size W1 w' ∧ w'.cell? ⟨w.heap.size, 0, none⟩ = some (.int .i64 an) ∧ w'.cell? ⟨B5, 0, none⟩ = some (.int .u64 xh) ∧ w'.cell? ⟨B5, 1, none⟩ = some (.int .u64 xl) ∧ w'.cell? ⟨B6, 0, none⟩ = some (.int .u64 yh) ∧ w'.cell? ⟨B6, 1, none⟩ = some (.int .u64 yl))
            (first | exact HS8.out _ hbd8 | exact HS8.out _ hx8)
            (first
              | (go_at_call 54; go_split_ands; (with_reducible refine (rlessU_any xh xl yh yl _).mono ?_); rw [HL.out]; rintro e w8 ⟨rfl, hb8⟩; have hx8 : Below W1.heap.size W1 w8 := hbd8.trans hb8))
          all_goals go_wp2_with fail
          all_goals go_ret
          all_goals exact ⟨ret_u HR.out.symm, W1b.trans (hx8.mono W1b.size)⟩
end Go.Proofs.Ytlgpolfbilkmbaa
