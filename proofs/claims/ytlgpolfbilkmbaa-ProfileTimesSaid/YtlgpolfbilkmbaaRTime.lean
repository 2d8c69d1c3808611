/-
  THE WALKS of the reference 34: frac, Time, Stop; and of profile.Stop.
-/
import Derived.Test.YtlgpolfbilkmbaaFaster0
import Derived.Test.YtlgpolfbilkmbaaRMade
import Derived.Test.YtlgpolfbilkmbaaLawTops
import Derived.Test.YtlgpolfbilkmbaaMvAt
namespace Go.Proofs.Ytlgpolfbilkmbaa
open Go.RowKit Go.Shelf

theorem ret_cells {w : World} {B : Nat} {o : Obj} {v0 v1 u0 u1 : Value} (g0 : w.cell? ⟨B, 0, none⟩ = some u0) (g1 : w.cell? ⟨B, 1, none⟩ = some u1) :
    (((w.setCell ⟨B, 0, none⟩ v0).setCell ⟨B, 1, none⟩ v1).alloc o).cell? ⟨B, 0, none⟩ = some v0 ∧ (((w.setCell ⟨B, 0, none⟩ v0).setCell ⟨B, 1, none⟩ v1).alloc o).cell? ⟨B, 1, none⟩ = some v1 := by
  have hz : B < ((w.setCell ⟨B, 0, none⟩ v0).setCell ⟨B, 1, none⟩ v1).heap.size := by have := World.block_lt_of_cell? _ _ g0; simpa using this
  have h := two_cells (v0 := v0) (v1 := v1) g0 g1
  exact ⟨(World.cell?_alloc_lt _ _ _ hz).trans h.1, (World.cell?_alloc_lt _ _ _ hz).trans h.2⟩

set_option maxRecDepth 100000 in
set_option maxHeartbeats 4000000 in
theorem rfrac_any (n d : Int) (n0 : -1152921504606846976 ≤ n) (n1 : n ≤ 1152921504606846976) (d0 : 0 < d) (d1 : d ≤ 1152921504606846976) (w : World) :
    Calls Try.prog 51 #[.int .i64 n, .int .i64 d] w fun e w' => e = .returned (.agg #[.int .i64 (lowN n d), .int .i64 (lowD n d)]) ∧ Below w.heap.size w w' := by
  have HM := Lib.hid (rmake_any n d n0 n1 d0 d1)
  have HN := Lib.hid (NewI6.new w 39)
  generalize lowN n d = p at *
  generalize lowD n d = q at *
  go_enter Try.func51, Try.ntmps51
  go_wp2_with (go_at_call 76; (with_reducible refine (HM.out _).mono ?_); rintro e w1 ⟨rfl, hb1⟩; obtain ⟨g0, g1, g2, g3, g4⟩ := HN.out.carry hb1)
  have l0 := (ret_cells (o := .cells #[.int .i64 p, .int .i64 q] 39) (v0 := .int .i64 p) (v1 := .int .i64 q) g0 g1).1
  have l1 := (ret_cells (o := .cells #[.int .i64 p, .int .i64 q] 39) (v0 := .int .i64 p) (v1 := .int .i64 q) g0 g1).2
  refine bodyPost_ret (v := .agg #[.int .i64 p, .int .i64 q]) (by simp [results, Try.results51, go_sem, l0, l1]) rfl ⟨rfl, ?_⟩
  exact below_a _ (below_s ⟨w.heap.size, 1, none⟩ _ (below_s ⟨w.heap.size, 0, none⟩ _ ((below_new _ _).trans (hb1.mono (by simp))) (Nat.le_refl _)) (Nat.le_refl _))

/-- What the reference's arithmetic at a move stays within. -/
theorem time_sums {d : Int} {m : Mv} {t : Int} (hg : givenP d m = 0) (ht : IsTop d m.spd m.rise m.fall t) :
    0 ≤ t ∧ t ≤ 8192 ∧ 0 ≤ t * t ∧ t * t ≤ 67108864 ∧ 0 ≤ t * t * (m.rise + m.fall) ∧ t * t * (m.rise + m.fall) ≤ 2199023255552 ∧ 0 ≤ 2 * m.rise * m.fall ∧ 2 * m.rise * m.fall ≤ 536870912 ∧ 0 ≤ 2 * m.rise * m.fall * d ∧ 2 * m.rise * m.fall * d ≤ 562949953421312 ∧ 0 ≤ 2 * m.rise * m.fall * t ∧ 2 * m.rise * m.fall * t ≤ 4398046511104 := by
  obtain ⟨hv, hdd⟩ := given_ok hg
  obtain ⟨V0, V1, R0, R1, F0, F1⟩ := valid_bds hv
  obtain ⟨d1, d2⟩ := inB_iff.1 hdd
  have t0 := ht.1
  have t1 := ht.2.1
  obtain ⟨B1, B2, B3, B4, _, _, _, _, _, B5, B6⟩ := room_bd (d := d) (R := m.rise) (F := m.fall) (w := t) d1 d2 (by omega) R1 (by omega) F1 (by omega) (by omega)
  have B7 : 2 * m.rise * m.fall * d ≤ 536870912 * 1048576 := Int.mul_le_mul B6 d2 d1 (by decide)
  have B8 := Int.mul_nonneg B5 d1
  have B9 : 2 * m.rise * m.fall * t ≤ 536870912 * 8192 := Int.mul_le_mul B6 (by omega) (by omega) (by decide)
  have B10 := Int.mul_nonneg B5 t0
  refine ⟨t0, by omega, B1, B2, B3, B4, B5, B6, B8, by omega, B10, by omega⟩

set_option maxRecDepth 100000 in
set_option maxHeartbeats 8000000 in
theorem rtime_any (d : Int) (m : Mv) (t : Int) (hg : givenP d m = 0) (ht : IsTop d m.spd m.rise m.fall t) (w : World) :
    Calls Try.prog 26 #[.int .i64 d, .agg #[.string m.name, .int .i64 m.to, .int .i64 m.spd, .int .i64 m.rise, .int .i64 m.fall]] w fun e w' => e = .returned (.agg #[.int .i64 (timeP d m t).1, .int .i64 (timeP d m t).2]) ∧ Below w.heap.size w w' := by
  by_cases hd : d = 0
  · have hd' : (d == 0) = true := by simpa using hd
    have HP : Hid (timeP d m t = (0, 1)) := Lib.hid (by subst hd; exact time_zero hg)
    rw [HP.out]
    clear hd hg ht
    go_enter Try.func26, Try.ntmps26
    go_upto_region 2 with (fail)
    have hM : MvAt ((w.alloc (.cells #[.string m.name, .int .i64 m.to, .int .i64 m.spd, .int .i64 m.rise, .int .i64 m.fall] 23)).alloc (.cells #[.int .i64 0, .int .i64 0] 39)) w.heap.size m := (MvAt.new w m _).carry (below_new _ _)
    have hR : NewI6 ((w.alloc (.cells #[.string m.name, .int .i64 m.to, .int .i64 m.spd, .int .i64 m.rise, .int .i64 m.fall] 23)).alloc (.cells #[.int .i64 0, .int .i64 0] 39)) (w.heap.size + 1) := by have h := NewI6.new (w.alloc (.cells #[.string m.name, .int .i64 m.to, .int .i64 m.spd, .int .i64 m.rise, .int .i64 m.fall] 23)) 39; rw [World.size_alloc] at h; exact h
    have hW0 : Below w.heap.size w ((w.alloc (.cells #[.string m.name, .int .i64 m.to, .int .i64 m.spd, .int .i64 m.rise, .int .i64 m.fall] 23)).alloc (.cells #[.int .i64 0, .int .i64 0] 39)) := below_a _ (below_new _ _)
    obtain ⟨Br, hBr⟩ : ∃ b, w.heap.size + 1 = b := ⟨_, rfl⟩
    have hle : w.heap.size ≤ Br := by omega
    simp only [hBr] at hR ⊢
    clear hBr
    generalize ((w.alloc (.cells #[.string m.name, .int .i64 m.to, .int .i64 m.spd, .int .i64 m.rise, .int .i64 m.fall] 23)).alloc (.cells #[.int .i64 0, .int .i64 0] 39)) = W0 at *
    go_wp2_with (go_at_call 30; (with_reducible refine (of_any 0 _).mono ?_); rintro e w1 ⟨rfl, hb1⟩; obtain ⟨g0, g1, g2, g3, g4⟩ := hR.carry hb1)
    have l0 := (two_cells (v0 := .int .i64 0) (v1 := .int .i64 1) g0 g1).1
    have l1 := (two_cells (v0 := .int .i64 0) (v1 := .int .i64 1) g0 g1).2
    refine bodyPost_ret (v := .agg #[.int .i64 0, .int .i64 1]) (by simp [results, Try.results26, go_sem, l0, l1]) rfl ⟨rfl, ?_⟩
    exact below_s _ _ (below_s _ _ (hW0.trans (hb1.mono hW0.size)) hle) hle
  · have hd' : (d == 0) = false := by simpa using hd
    obtain ⟨hv, hdd⟩ := given_ok hg
    obtain ⟨V0, V1, R0, R1, F0, F1⟩ := valid_bds hv
    obtain ⟨d1, d2⟩ := inB_iff.1 hdd
    have tp := top_pos (show 1 ≤ d by omega) R0 F0 V0 ht
    obtain ⟨b0, b1, b2, b3, b4, b5, b6, b7, b8, b9, b10, b11⟩ := time_sums hg ht
    have hpos : 0 < 2 * m.rise * m.fall * t := Int.mul_pos (posD R0 F0) (by omega)
    have HF := Lib.hid (rfrac_any (2 * m.rise * m.fall * d + t * t * (m.rise + m.fall)) (2 * m.rise * m.fall * t) (by omega) (by omega) hpos (by omega))
    have HP : Hid (timeP d m t = (lowN (2 * m.rise * m.fall * d + t * t * (m.rise + m.fall)) (2 * m.rise * m.fall * t), lowD (2 * m.rise * m.fall * d + t * t * (m.rise + m.fall)) (2 * m.rise * m.fall * t))) := Lib.hid (time_pos hg hd)
    rw [HP.out]
    have HT := Lib.hid (reftop_any d m t hg ht)
    have s1 : IntKind.i64.wrap (t * t) = t * t := IntWalk.i64_in _ (by omega)
    have s2 : IntKind.i64.wrap (m.rise + m.fall) = m.rise + m.fall := IntWalk.i64_in _ (by omega)
    have s3 : IntKind.i64.wrap (t * t * (m.rise + m.fall)) = t * t * (m.rise + m.fall) := IntWalk.i64_in _ (by omega)
    have s4 : IntKind.i64.wrap (2 * m.rise) = 2 * m.rise := IntWalk.i64_in _ (by omega)
    have s5 : IntKind.i64.wrap (2 * m.rise * m.fall) = 2 * m.rise * m.fall := IntWalk.i64_in _ (by omega)
    have s6 : IntKind.i64.wrap (2 * m.rise * m.fall * d) = 2 * m.rise * m.fall * d := IntWalk.i64_in _ (by omega)
    have s7 : IntKind.i64.wrap (2 * m.rise * m.fall * t) = 2 * m.rise * m.fall * t := IntWalk.i64_in _ (by omega)
    have s8 : IntKind.i64.wrap (2 * m.rise * m.fall * d + t * t * (m.rise + m.fall)) = 2 * m.rise * m.fall * d + t * t * (m.rise + m.fall) := IntWalk.i64_in _ (by omega)
    generalize lowN (2 * m.rise * m.fall * d + t * t * (m.rise + m.fall)) (2 * m.rise * m.fall * t) = p at *
    generalize lowD (2 * m.rise * m.fall * d + t * t * (m.rise + m.fall)) (2 * m.rise * m.fall * t) = q at *
    clear hd hg ht hv hdd b0 b1 b2 b3 b4 b5 b6 b7 b8 b9 b10 b11 hpos
    go_enter Try.func26, Try.ntmps26
    go_upto_region 3 with (fail)
    have hM : MvAt ((w.alloc (.cells #[.string m.name, .int .i64 m.to, .int .i64 m.spd, .int .i64 m.rise, .int .i64 m.fall] 23)).alloc (.cells #[.int .i64 0, .int .i64 0] 39)) w.heap.size m := (MvAt.new w m _).carry (below_new _ _)
    have hR : NewI6 ((w.alloc (.cells #[.string m.name, .int .i64 m.to, .int .i64 m.spd, .int .i64 m.rise, .int .i64 m.fall] 23)).alloc (.cells #[.int .i64 0, .int .i64 0] 39)) (w.heap.size + 1) := by have h := NewI6.new (w.alloc (.cells #[.string m.name, .int .i64 m.to, .int .i64 m.spd, .int .i64 m.rise, .int .i64 m.fall] 23)) 39; rw [World.size_alloc] at h; exact h
    have hW0 : Below w.heap.size w ((w.alloc (.cells #[.string m.name, .int .i64 m.to, .int .i64 m.spd, .int .i64 m.rise, .int .i64 m.fall] 23)).alloc (.cells #[.int .i64 0, .int .i64 0] 39)) := below_a _ (below_new _ _)
    obtain ⟨Br, hBr⟩ : ∃ b, w.heap.size + 1 = b := ⟨_, rfl⟩
    have hle : w.heap.size ≤ Br := by omega
    simp only [hBr] at hR ⊢
    clear hBr
    generalize ((w.alloc (.cells #[.string m.name, .int .i64 m.to, .int .i64 m.spd, .int .i64 m.rise, .int .i64 m.fall] 23)).alloc (.cells #[.int .i64 0, .int .i64 0] 39)) = W0 at *
    have HM := Lib.hid hM
    obtain ⟨k0, k1, k2, k3, k4⟩ := hM
    go_wp2_with (first
      | (go_at_call 15; (with_reducible refine (HT.out _).mono ?_); rintro e w1 ⟨rfl, hb1⟩; obtain ⟨k0, k1, k2, k3, k4⟩ := HM.out.carry hb1)
      | (go_at_call 51; (with_reducible refine (HF.out _).mono ?_); rintro e w2 ⟨rfl, hb2⟩; have hb3 := held_next hb1 hb2; obtain ⟨g0, g1, g2, g3, g4⟩ := hR.carry hb3))
    have l0 := (two_cells (v0 := .int .i64 p) (v1 := .int .i64 q) g0 g1).1
    have l1 := (two_cells (v0 := .int .i64 p) (v1 := .int .i64 q) g0 g1).2
    refine bodyPost_ret (v := .agg #[.int .i64 p, .int .i64 q]) (by simp [results, Try.results26, go_sem, l0, l1]) rfl ⟨rfl, ?_⟩
    exact below_s _ _ (below_s _ _ (hW0.trans (hb3.mono hW0.size)) hle) hle

/-- The way to stop. -/
def stopN (m : Mv) : Int := lowN (m.spd * m.spd) (2 * m.fall)
def stopD (m : Mv) : Int := lowD (m.spd * m.spd) (2 * m.fall)
theorem stop_bd {m : Mv} (hv : validM m = true) : 1 ≤ m.spd * m.spd ∧ m.spd * m.spd ≤ 67108864 ∧ 2 ≤ 2 * m.fall ∧ 2 * m.fall ≤ 32768 := by
  obtain ⟨V0, V1, R0, R1, F0, F1⟩ := valid_bds hv
  have a : m.spd * m.spd ≤ 8192 * 8192 := Int.mul_le_mul V1 V1 (by omega) (by decide)
  have b := Int.mul_pos (show 0 < m.spd by omega) (show 0 < m.spd by omega)
  omega
set_option maxRecDepth 100000 in
set_option maxHeartbeats 8000000 in
theorem rstop_any (m : Mv) (hv : validM m = true) (w : World) :
    Calls Try.prog 25 #[.agg #[.string m.name, .int .i64 m.to, .int .i64 m.spd, .int .i64 m.rise, .int .i64 m.fall]] w fun e w' => e = .returned (.agg #[.int .i64 (stopN m), .int .i64 (stopD m)]) ∧ Below w.heap.size w w' := by
  obtain ⟨a0, a1, a2, a3⟩ := stop_bd hv
  have HF := Lib.hid (rfrac_any (m.spd * m.spd) (2 * m.fall) (by omega) (by omega) (by omega) (by omega))
  have s1 : IntKind.i64.wrap (m.spd * m.spd) = m.spd * m.spd := IntWalk.i64_in _ (by omega)
  have s2 : IntKind.i64.wrap (2 * m.fall) = 2 * m.fall := IntWalk.i64_in _ (by omega)
  unfold stopN stopD
  generalize lowN (m.spd * m.spd) (2 * m.fall) = p at *
  generalize lowD (m.spd * m.spd) (2 * m.fall) = q at *
  clear hv a0 a1 a2 a3
  go_enter Try.func25, Try.ntmps25
  go_upto_region 1 with (fail)
  have hM : MvAt ((w.alloc (.cells #[.string m.name, .int .i64 m.to, .int .i64 m.spd, .int .i64 m.rise, .int .i64 m.fall] 23)).alloc (.cells #[.int .i64 0, .int .i64 0] 39)) w.heap.size m := (MvAt.new w m _).carry (below_new _ _)
  have hR : NewI6 ((w.alloc (.cells #[.string m.name, .int .i64 m.to, .int .i64 m.spd, .int .i64 m.rise, .int .i64 m.fall] 23)).alloc (.cells #[.int .i64 0, .int .i64 0] 39)) (w.heap.size + 1) := by have h := NewI6.new (w.alloc (.cells #[.string m.name, .int .i64 m.to, .int .i64 m.spd, .int .i64 m.rise, .int .i64 m.fall] 23)) 39; rw [World.size_alloc] at h; exact h
  have hW0 : Below w.heap.size w ((w.alloc (.cells #[.string m.name, .int .i64 m.to, .int .i64 m.spd, .int .i64 m.rise, .int .i64 m.fall] 23)).alloc (.cells #[.int .i64 0, .int .i64 0] 39)) := below_a _ (below_new _ _)
  obtain ⟨Br, hBr⟩ : ∃ b, w.heap.size + 1 = b := ⟨_, rfl⟩
  have hle : w.heap.size ≤ Br := by omega
  simp only [hBr] at hR ⊢
  clear hBr
  generalize ((w.alloc (.cells #[.string m.name, .int .i64 m.to, .int .i64 m.spd, .int .i64 m.rise, .int .i64 m.fall] 23)).alloc (.cells #[.int .i64 0, .int .i64 0] 39)) = W0 at *
  have HM := Lib.hid hM
  obtain ⟨k0, k1, k2, k3, k4⟩ := hM
  go_wp2_with (go_at_call 51; (with_reducible refine (HF.out _).mono ?_); rintro e w1 ⟨rfl, hb1⟩; obtain ⟨g0, g1, g2, g3, g4⟩ := hR.carry hb1)
  have l0 := (two_cells (v0 := .int .i64 p) (v1 := .int .i64 q) g0 g1).1
  have l1 := (two_cells (v0 := .int .i64 p) (v1 := .int .i64 q) g0 g1).2
  refine bodyPost_ret (v := .agg #[.int .i64 p, .int .i64 q]) (by simp [results, Try.results25, go_sem, l0, l1]) rfl ⟨rfl, ?_⟩
  exact below_s _ _ (below_s _ _ (hW0.trans (hb1.mono hW0.size)) hle) hle
set_option maxRecDepth 100000 in
set_option maxHeartbeats 8000000 in
theorem stop_any (m : Mv) (w : World) :
    Calls Try.prog 24 #[.agg #[.string m.name, .int .i64 m.to, .int .i64 m.spd, .int .i64 m.rise, .int .i64 m.fall]] w fun e w' => e = .returned (.tuple #[.agg #[.int .i64 (if validM m then stopN m else 0), .int .i64 (if validM m then stopD m else 0)], .int .i64 (if validM m then 0 else 1)]) ∧ Below w.heap.size w w' := by
  cases hv : validM m
  · have HV := Lib.hid hv
    clear hv
    go_enter Try.func24, Try.ntmps24
    go_upto_region 1 with (fail)
    have hM : MvAt ((w.alloc (.cells #[.string m.name, .int .i64 m.to, .int .i64 m.spd, .int .i64 m.rise, .int .i64 m.fall] 23)).alloc (.cells #[.int .i64 0, .int .i64 0] 39)) w.heap.size m := (MvAt.new w m _).carry (below_new _ _)
    have hR : NewI6 ((w.alloc (.cells #[.string m.name, .int .i64 m.to, .int .i64 m.spd, .int .i64 m.rise, .int .i64 m.fall] 23)).alloc (.cells #[.int .i64 0, .int .i64 0] 39)) (w.heap.size + 1) := by have h := NewI6.new (w.alloc (.cells #[.string m.name, .int .i64 m.to, .int .i64 m.spd, .int .i64 m.rise, .int .i64 m.fall] 23)) 39; rw [World.size_alloc] at h; exact h
    have hW0 : Below w.heap.size w ((w.alloc (.cells #[.string m.name, .int .i64 m.to, .int .i64 m.spd, .int .i64 m.rise, .int .i64 m.fall] 23)).alloc (.cells #[.int .i64 0, .int .i64 0] 39)) := below_a _ (below_new _ _)
    obtain ⟨Br, hBr⟩ : ∃ b, w.heap.size + 1 = b := ⟨_, rfl⟩
    have hle : w.heap.size ≤ Br := by omega
    simp only [hBr] at hR ⊢
    clear hBr
    generalize ((w.alloc (.cells #[.string m.name, .int .i64 m.to, .int .i64 m.spd, .int .i64 m.rise, .int .i64 m.fall] 23)).alloc (.cells #[.int .i64 0, .int .i64 0] 39)) = W0 at *
    have HM := Lib.hid hM
    obtain ⟨k0, k1, k2, k3, k4⟩ := hM
    go_wp2_with (go_at_call 12; (with_reducible refine (valid_anyM m _).mono ?_); rintro e w1 ⟨rfl, hb1⟩; rw [HV.out]; obtain ⟨g0, g1, g2, g3, g4⟩ := hR.carry hb1)
    have l0 := (two_cells (v0 := .int .i64 0) (v1 := .int .i64 0) g0 g1).1
    have l1 := (two_cells (v0 := .int .i64 0) (v1 := .int .i64 0) g0 g1).2
    refine bodyPost_ret (v := .tuple #[.agg #[.int .i64 0, .int .i64 0], .int .i64 1]) (by simp [results, Try.results24, go_sem, l0, l1]) rfl ⟨rfl, ?_⟩
    exact below_s _ _ (below_s _ _ (hW0.trans (hb1.mono hW0.size)) hle) hle
  · have HV := Lib.hid hv
    obtain ⟨a0, a1, a2, a3⟩ := stop_bd hv
    have HF := Lib.hid (gives_make (n := m.spd * m.spd) (d := 2 * m.fall) (by omega) (by omega) (by omega) (by omega) (by omega))
    have s1 : IntKind.i64.wrap (m.spd * m.spd) = m.spd * m.spd := IntWalk.i64_in _ (by omega)
    have s2 : IntKind.i64.wrap (2 * m.fall) = 2 * m.fall := IntWalk.i64_in _ (by omega)
    unfold stopN stopD
    generalize lowN (m.spd * m.spd) (2 * m.fall) = p at *
    generalize lowD (m.spd * m.spd) (2 * m.fall) = q at *
    clear hv a0 a1 a2 a3
    go_enter Try.func24, Try.ntmps24
    go_upto_region 1 with (fail)
    have hM : MvAt ((w.alloc (.cells #[.string m.name, .int .i64 m.to, .int .i64 m.spd, .int .i64 m.rise, .int .i64 m.fall] 23)).alloc (.cells #[.int .i64 0, .int .i64 0] 39)) w.heap.size m := (MvAt.new w m _).carry (below_new _ _)
    have hR : NewI6 ((w.alloc (.cells #[.string m.name, .int .i64 m.to, .int .i64 m.spd, .int .i64 m.rise, .int .i64 m.fall] 23)).alloc (.cells #[.int .i64 0, .int .i64 0] 39)) (w.heap.size + 1) := by have h := NewI6.new (w.alloc (.cells #[.string m.name, .int .i64 m.to, .int .i64 m.spd, .int .i64 m.rise, .int .i64 m.fall] 23)) 39; rw [World.size_alloc] at h; exact h
    have hW0 : Below w.heap.size w ((w.alloc (.cells #[.string m.name, .int .i64 m.to, .int .i64 m.spd, .int .i64 m.rise, .int .i64 m.fall] 23)).alloc (.cells #[.int .i64 0, .int .i64 0] 39)) := below_a _ (below_new _ _)
    obtain ⟨Br, hBr⟩ : ∃ b, w.heap.size + 1 = b := ⟨_, rfl⟩
    have hle : w.heap.size ≤ Br := by omega
    simp only [hBr] at hR ⊢
    clear hBr
    generalize ((w.alloc (.cells #[.string m.name, .int .i64 m.to, .int .i64 m.spd, .int .i64 m.rise, .int .i64 m.fall] 23)).alloc (.cells #[.int .i64 0, .int .i64 0] 39)) = W0 at *
    have HM := Lib.hid hM
    obtain ⟨k0, k1, k2, k3, k4⟩ := hM
    go_wp2_with (first
      | (go_at_call 12; (with_reducible refine (valid_anyM m _).mono ?_); rintro e w1 ⟨rfl, hb1⟩; rw [HV.out]; obtain ⟨k0, k1, k2, k3, k4⟩ := HM.out.carry hb1)
      | (go_at_call 35; (with_reducible refine (HF.out.at _).mono ?_); rintro e w2 ⟨rfl, hb2⟩; have hb3 := held_next hb1 hb2; obtain ⟨g0, g1, g2, g3, g4⟩ := hR.carry hb3))
    have l0 := (two_cells (v0 := .int .i64 p) (v1 := .int .i64 q) g0 g1).1
    have l1 := (two_cells (v0 := .int .i64 p) (v1 := .int .i64 q) g0 g1).2
    refine bodyPost_ret (v := .tuple #[.agg #[.int .i64 p, .int .i64 q], .int .i64 0]) (by simp [results, Try.results24, go_sem, l0, l1]) rfl ⟨rfl, ?_⟩
    exact below_s _ _ (below_s _ _ (hW0.trans (hb3.mono hW0.size)) hle) hle
end Go.Proofs.Ytlgpolfbilkmbaa
