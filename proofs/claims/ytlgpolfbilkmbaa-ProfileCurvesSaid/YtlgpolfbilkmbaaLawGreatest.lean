/-
  THE WALK of the law ProfileGreatest.
-/
import Derived.Test.YtlgpolfbilkmbaaLawTops
namespace Go.Proofs.Ytlgpolfbilkmbaa
open Go.RowKit Go.Shelf

def readyP (d : Int) (m : Mv) : Bool := decide ((m.name.size : Int) ≤ 100) && (givenP d m == 0)
theorem ready_iff {d : Int} {m : Mv} : readyP d m = true ↔ (m.name.size : Int) ≤ 100 ∧ givenP d m = 0 := by simp [readyP]
set_option maxRecDepth 100000 in
set_option maxHeartbeats 4000000 in
theorem ready_any (d : Int) (m : Mv) (w : World) : Calls Try.prog 19 #[.int .i64 d, .agg #[.string m.name, .int .i64 m.to, .int .i64 m.spd, .int .i64 m.rise, .int .i64 m.fall]] w fun e w' => e = .returned (.bool (readyP d m)) ∧ Below w.heap.size w w' := by
  by_cases hl : (m.name.size : Int) ≤ 100
  · obtain ⟨g, hg⟩ : ∃ g, givenP d m = g := ⟨_, rfl⟩
    obtain ⟨b, hb⟩ : ∃ b, (g == 0) = b := ⟨_, rfl⟩
    have HG := Lib.hid hg
    have HR : Hid (readyP d m = b) := Lib.hid (by unfold readyP; rw [hg, hb, decide_eq_true hl]; rfl)
    have hl' := decide_eq_true hl
    rw [HR.out]
    clear hg hl
    go_enter Try.func19, Try.ntmps19
    go_wp2_with (go_at_call 14; (with_reducible refine (refgiven_any d m _).mono ?_); rintro e w1 ⟨rfl, hb1⟩; rw [HG.out])
    go_ret
    exact ⟨rfl, (below_new _ _).trans (hb1.mono (by simp))⟩
  · have HR : Hid (readyP d m = false) := Lib.hid (by unfold readyP; rw [decide_eq_false hl]; rfl)
    have hl' := decide_eq_false hl
    rw [HR.out]
    clear hl
    go_enter Try.func19, Try.ntmps19
    go_wp2_with fail
    go_ret
    exact ⟨rfl, below_new _ _⟩

set_option maxRecDepth 100000 in
set_option maxHeartbeats 4000000 in
theorem need_any (d : Int) (m : Mv) (x : Int) (b : Bool) (hg : givenP d m = 0) (x0 : 0 ≤ x) (x1 : x ≤ 8193) (hb : Room d m.rise m.fall x ↔ b = true) (Bm Bd : Nat) (w : World)
    (k3 : w.cell? ⟨Bm, 3, none⟩ = some (.int .i64 m.rise)) (k4 : w.cell? ⟨Bm, 4, none⟩ = some (.int .i64 m.fall)) (kd : w.cell? ⟨Bd, 0, none⟩ = some (.int .i64 d)) :
    Calls Try.prog 23 #[.int .i64 x, .pointer (some ⟨Bm, 0, none⟩), .pointer (some ⟨Bd, 0, none⟩)] w fun e w' => e = .returned (.bool b) ∧ w = w' := by
  obtain ⟨hv, hd⟩ := given_ok hg
  obtain ⟨v1, v2, r1, r2, f1, f2⟩ := valid_bds hv
  obtain ⟨d1, d2⟩ := inB_iff.1 hd
  have a0 := Int.mul_nonneg x0 x0
  have a1 : x * x ≤ 8193 * 8193 := Int.mul_le_mul x1 x1 x0 (by decide)
  have b0 := Int.mul_nonneg a0 (show 0 ≤ m.rise + m.fall by omega)
  have b1 : x * x * (m.rise + m.fall) ≤ 67125249 * 32768 := Int.mul_le_mul (by omega) (by omega) (by omega) (by decide)
  have e0 := Int.mul_nonneg (show 0 ≤ 2 * m.rise by omega) (show 0 ≤ m.fall by omega)
  have e1 : 2 * m.rise * m.fall ≤ 32768 * 16384 := Int.mul_le_mul (by omega) f2 (by omega) (by decide)
  have g0 := Int.mul_nonneg e0 d1
  have g1 : 2 * m.rise * m.fall * d ≤ 536870912 * 1048576 := Int.mul_le_mul (by omega) d2 d1 (by decide)
  have s4 : IntKind.i64.wrap (x * x) = x * x := IntWalk.i64_in _ (by omega)
  have s5 : IntKind.i64.wrap (m.rise + m.fall) = m.rise + m.fall := IntWalk.i64_in _ (by omega)
  have s6 : IntKind.i64.wrap (x * x * (m.rise + m.fall)) = x * x * (m.rise + m.fall) := IntWalk.i64_in _ (by omega)
  have s7 : IntKind.i64.wrap (2 * m.rise) = 2 * m.rise := IntWalk.i64_in _ (by omega)
  have s8 : IntKind.i64.wrap (2 * m.rise * m.fall) = 2 * m.rise * m.fall := IntWalk.i64_in _ (by omega)
  have s9 : IntKind.i64.wrap (2 * m.rise * m.fall * d) = 2 * m.rise * m.fall * d := IntWalk.i64_in _ (by omega)
  have hb' : decide (x * x * (m.rise + m.fall) ≤ 2 * m.rise * m.fall * d) = b := by
    unfold Room at hb
    rw [Bool.eq_iff_iff, ← hb]
    simp
  clear a0 a1 b0 b1 e0 e1 g0 g1 hb hg hv hd
  go_enter Try.func23, Try.ntmps23
  go_wp2_with fail
  go_ret
  exact ⟨ret_boolB (by first | rfl | exact hb'), rfl⟩

theorem knots_len (d : Int) (m : Mv) (t : Int) : (knotsL d m.rise m.fall t).length = if d = 0 then 1 else if kP d m.rise m.fall t = 0 then 3 else 4 := by
  unfold knotsL
  rw [knTo_len]
  unfold curveL
  split
  · rfl
  · split <;> simp

set_option maxRecDepth 100000 in
set_option maxHeartbeats 8000000 in
theorem lawgreatest_law (d : Int) (m : Mv) (w : World) : Calls Try.prog 6 #[.int .i64 d, .agg #[.string m.name, .int .i64 m.to, .int .i64 m.spd, .int .i64 m.rise, .int .i64 m.fall]] w fun e w' => e = .returned (.bool true) ∧ Below w.heap.size w w' := by
  obtain ⟨t, ht⟩ := top_some d m
  cases hr : readyP d m
  · have HR := Lib.hid hr
    clear hr ht
    go_enter Try.func6, Try.ntmps6
    go_upto_region 1 with (fail)
    have k0 : ((w.alloc (.cells #[.int .i64 d] 3)).alloc (.cells #[.string m.name, .int .i64 m.to, .int .i64 m.spd, .int .i64 m.rise, .int .i64 m.fall] 23)).cell? ⟨w.heap.size + 1, 0, none⟩ = some (.string m.name) := by simp
    have k1 : ((w.alloc (.cells #[.int .i64 d] 3)).alloc (.cells #[.string m.name, .int .i64 m.to, .int .i64 m.spd, .int .i64 m.rise, .int .i64 m.fall] 23)).cell? ⟨w.heap.size + 1, 1, none⟩ = some (.int .i64 m.to) := by simp
    have k2 : ((w.alloc (.cells #[.int .i64 d] 3)).alloc (.cells #[.string m.name, .int .i64 m.to, .int .i64 m.spd, .int .i64 m.rise, .int .i64 m.fall] 23)).cell? ⟨w.heap.size + 1, 2, none⟩ = some (.int .i64 m.spd) := by simp
    have k3 : ((w.alloc (.cells #[.int .i64 d] 3)).alloc (.cells #[.string m.name, .int .i64 m.to, .int .i64 m.spd, .int .i64 m.rise, .int .i64 m.fall] 23)).cell? ⟨w.heap.size + 1, 3, none⟩ = some (.int .i64 m.rise) := by simp
    have k4 : ((w.alloc (.cells #[.int .i64 d] 3)).alloc (.cells #[.string m.name, .int .i64 m.to, .int .i64 m.spd, .int .i64 m.rise, .int .i64 m.fall] 23)).cell? ⟨w.heap.size + 1, 4, none⟩ = some (.int .i64 m.fall) := by simp
    have k5 : ((w.alloc (.cells #[.int .i64 d] 3)).alloc (.cells #[.string m.name, .int .i64 m.to, .int .i64 m.spd, .int .i64 m.rise, .int .i64 m.fall] 23)).cell? ⟨w.heap.size, 0, none⟩ = some (.int .i64 d) := by simp
    have hz : w.heap.size + 1 < ((w.alloc (.cells #[.int .i64 d] 3)).alloc (.cells #[.string m.name, .int .i64 m.to, .int .i64 m.spd, .int .i64 m.rise, .int .i64 m.fall] 23)).heap.size := by simp
    have hW0 : Below w.heap.size w ((w.alloc (.cells #[.int .i64 d] 3)).alloc (.cells #[.string m.name, .int .i64 m.to, .int .i64 m.spd, .int .i64 m.rise, .int .i64 m.fall] 23)) := (below_new _ _).alloc (by simp) _
    generalize ((w.alloc (.cells #[.int .i64 d] 3)).alloc (.cells #[.string m.name, .int .i64 m.to, .int .i64 m.spd, .int .i64 m.rise, .int .i64 m.fall] 23)) = W0 at *
    have x0 : ∀ wr, Below W0.heap.size W0 wr → wr.cell? ⟨w.heap.size + 1, 0, none⟩ = some (.string m.name) := fun wr h => (h.cell (p := ⟨w.heap.size + 1, 0, none⟩) hz).trans k0
    have x1 : ∀ wr, Below W0.heap.size W0 wr → wr.cell? ⟨w.heap.size + 1, 1, none⟩ = some (.int .i64 m.to) := fun wr h => (h.cell (p := ⟨w.heap.size + 1, 1, none⟩) hz).trans k1
    have x2 : ∀ wr, Below W0.heap.size W0 wr → wr.cell? ⟨w.heap.size + 1, 2, none⟩ = some (.int .i64 m.spd) := fun wr h => (h.cell (p := ⟨w.heap.size + 1, 2, none⟩) hz).trans k2
    have x3 : ∀ wr, Below W0.heap.size W0 wr → wr.cell? ⟨w.heap.size + 1, 3, none⟩ = some (.int .i64 m.rise) := fun wr h => (h.cell (p := ⟨w.heap.size + 1, 3, none⟩) hz).trans k3
    have x4 : ∀ wr, Below W0.heap.size W0 wr → wr.cell? ⟨w.heap.size + 1, 4, none⟩ = some (.int .i64 m.fall) := fun wr h => (h.cell (p := ⟨w.heap.size + 1, 4, none⟩) hz).trans k4
    have x5 : ∀ wr, Below W0.heap.size W0 wr → wr.cell? ⟨w.heap.size, 0, none⟩ = some (.int .i64 d) := fun wr h => (h.cell (p := ⟨w.heap.size, 0, none⟩) (by simp <;> omega)).trans k5
    clear k0 k1 k2 k3 k4 k5 hz
    go_wp2_with (first
      | (go_at_call 10; (with_reducible refine (awake_any _).mono ?_); rintro e w1 ⟨rfl, hB1⟩)
      | (go_at_call 19; (with_reducible refine (ready_any d m _).mono ?_); rintro e w2 ⟨rfl, hb2⟩; rw [HR.out]; have hB2 := hB1.trans (hb2.mono hB1.size)))
    go_ret
    exact ⟨rfl, hW0.trans (hB2.mono hW0.size)⟩
  · have HR := Lib.hid hr
    obtain ⟨hl, hg⟩ := ready_iff.1 hr
    have hT := ht hg
    obtain ⟨hv, hdd⟩ := given_ok hg
    obtain ⟨V0, V1, R0, R1, F0, F1⟩ := valid_bds hv
    obtain ⟨d1, d2⟩ := inB_iff.1 hdd
    have t0 := hT.1
    have t1 := hT.2.1
    have HC := Lib.hid (Top_any d m t ht)
    have HK := Lib.hid (Knots_any d m t ht)
    have HG := Lib.hid hg
    have HT : Hid (topR d m t = t) := Lib.hid (by unfold topR; rw [if_pos hg])
    have z0 : decide (t < 0) = false := decide_eq_false (by omega)
    have z1 : decide (m.spd < t) = false := decide_eq_false (by omega)
    have HKL := Lib.hid (knots_len d m t)
    have HTop := Lib.hid hT
    clear hr hl hv hdd ht hg
    by_cases dz : d = 0
    · have HLN : Hid ((knotsL d m.rise m.fall t).length = 1) := Lib.hid (by rw [HKL.out, if_pos dz])
      have HTZ : Hid (t = 0) := Lib.hid (top_unique (by omega) (by omega) hT (by rw [dz]; exact top_zero (by omega) (by omega) (by omega)))
      have z2 : (d == 0) = true := by simpa using dz
      have z3 : (t == 0) = true := by rw [HTZ.out]; rfl
      clear hT dz
      go_enter Try.func6, Try.ntmps6
      go_upto_region 1 with (fail)
      have k0 : ((w.alloc (.cells #[.int .i64 d] 3)).alloc (.cells #[.string m.name, .int .i64 m.to, .int .i64 m.spd, .int .i64 m.rise, .int .i64 m.fall] 23)).cell? ⟨w.heap.size + 1, 0, none⟩ = some (.string m.name) := by simp
      have k1 : ((w.alloc (.cells #[.int .i64 d] 3)).alloc (.cells #[.string m.name, .int .i64 m.to, .int .i64 m.spd, .int .i64 m.rise, .int .i64 m.fall] 23)).cell? ⟨w.heap.size + 1, 1, none⟩ = some (.int .i64 m.to) := by simp
      have k2 : ((w.alloc (.cells #[.int .i64 d] 3)).alloc (.cells #[.string m.name, .int .i64 m.to, .int .i64 m.spd, .int .i64 m.rise, .int .i64 m.fall] 23)).cell? ⟨w.heap.size + 1, 2, none⟩ = some (.int .i64 m.spd) := by simp
      have k3 : ((w.alloc (.cells #[.int .i64 d] 3)).alloc (.cells #[.string m.name, .int .i64 m.to, .int .i64 m.spd, .int .i64 m.rise, .int .i64 m.fall] 23)).cell? ⟨w.heap.size + 1, 3, none⟩ = some (.int .i64 m.rise) := by simp
      have k4 : ((w.alloc (.cells #[.int .i64 d] 3)).alloc (.cells #[.string m.name, .int .i64 m.to, .int .i64 m.spd, .int .i64 m.rise, .int .i64 m.fall] 23)).cell? ⟨w.heap.size + 1, 4, none⟩ = some (.int .i64 m.fall) := by simp
      have k5 : ((w.alloc (.cells #[.int .i64 d] 3)).alloc (.cells #[.string m.name, .int .i64 m.to, .int .i64 m.spd, .int .i64 m.rise, .int .i64 m.fall] 23)).cell? ⟨w.heap.size, 0, none⟩ = some (.int .i64 d) := by simp
      have hz : w.heap.size + 1 < ((w.alloc (.cells #[.int .i64 d] 3)).alloc (.cells #[.string m.name, .int .i64 m.to, .int .i64 m.spd, .int .i64 m.rise, .int .i64 m.fall] 23)).heap.size := by simp
      have hW0 : Below w.heap.size w ((w.alloc (.cells #[.int .i64 d] 3)).alloc (.cells #[.string m.name, .int .i64 m.to, .int .i64 m.spd, .int .i64 m.rise, .int .i64 m.fall] 23)) := (below_new _ _).alloc (by simp) _
      generalize ((w.alloc (.cells #[.int .i64 d] 3)).alloc (.cells #[.string m.name, .int .i64 m.to, .int .i64 m.spd, .int .i64 m.rise, .int .i64 m.fall] 23)) = W0 at *
      have x0 : ∀ wr, Below W0.heap.size W0 wr → wr.cell? ⟨w.heap.size + 1, 0, none⟩ = some (.string m.name) := fun wr h => (h.cell (p := ⟨w.heap.size + 1, 0, none⟩) hz).trans k0
      have x1 : ∀ wr, Below W0.heap.size W0 wr → wr.cell? ⟨w.heap.size + 1, 1, none⟩ = some (.int .i64 m.to) := fun wr h => (h.cell (p := ⟨w.heap.size + 1, 1, none⟩) hz).trans k1
      have x2 : ∀ wr, Below W0.heap.size W0 wr → wr.cell? ⟨w.heap.size + 1, 2, none⟩ = some (.int .i64 m.spd) := fun wr h => (h.cell (p := ⟨w.heap.size + 1, 2, none⟩) hz).trans k2
      have x3 : ∀ wr, Below W0.heap.size W0 wr → wr.cell? ⟨w.heap.size + 1, 3, none⟩ = some (.int .i64 m.rise) := fun wr h => (h.cell (p := ⟨w.heap.size + 1, 3, none⟩) hz).trans k3
      have x4 : ∀ wr, Below W0.heap.size W0 wr → wr.cell? ⟨w.heap.size + 1, 4, none⟩ = some (.int .i64 m.fall) := fun wr h => (h.cell (p := ⟨w.heap.size + 1, 4, none⟩) hz).trans k4
      have x5 : ∀ wr, Below W0.heap.size W0 wr → wr.cell? ⟨w.heap.size, 0, none⟩ = some (.int .i64 d) := fun wr h => (h.cell (p := ⟨w.heap.size, 0, none⟩) (by simp <;> omega)).trans k5
      clear k0 k1 k2 k3 k4 k5 hz
      go_wp2_with (first
        | (go_at_call 10; (with_reducible refine (awake_any _).mono ?_); rintro e w1 ⟨rfl, hB1⟩)
        | (go_at_call 19; (with_reducible refine (ready_any d m _).mono ?_); rintro e w2 ⟨rfl, hb2⟩; rw [HR.out]; have hB2 := hB1.trans (hb2.mono hB1.size))
        | (go_at_call 11; (with_reducible refine (HC.out _).mono ?_); rintro e w3 ⟨rfl, hb3⟩; rw [HT.out, HG.out]; have hB3 := hB2.trans (hb3.mono hB2.size))
        | (go_at_call 22; (with_reducible refine (HK.out _).mono ?_); rintro e w4 ⟨hv, hb4⟩; obtain ⟨v, rfl, hrow⟩ := hv.out; rw [HG.out]; have hr1 := hrow.1 HG.out; obtain ⟨pa, pcap, hve, _, _, _, _⟩ := fr_of_row hr1; rw [HLN.out] at hve; subst hve; have hB4 := hB3.trans (hb4.mono hB3.size); clear hv hrow hr1))
      go_ret
      exact ⟨rfl, hW0.trans (hB4.mono hW0.size)⟩
    · have z2 : (d == 0) = false := by simpa using dz
      have tp := top_pos (show 1 ≤ d by omega) R0 F0 V0 hT
      have z3 : decide (1 ≤ t) = true := decide_eq_true tp
      have z4 : IntKind.i64.wrap (t + 1) = t + 1 := IntWalk.i64_in _ (by omega)
      have HN1 := Lib.hid (need_any d m t true HG.out t0 (by omega) ⟨fun _ => rfl, fun _ => hT.2.2.1⟩)
      obtain ⟨B1, B2, B3, B4, _, _, _, _, _, B5, B6⟩ := room_bd (d := d) (R := m.rise) (F := m.fall) (w := t) d1 d2 (by omega) R1 (by omega) F1 t0 (by omega)
      have B7 : 2 * m.rise * m.fall * d ≤ 536870912 * 1048576 := Int.mul_le_mul B6 d2 d1 (by decide)
      have B8 := Int.mul_nonneg B5 d1
      have s4 : IntKind.i64.wrap (t * t) = t * t := IntWalk.i64_in _ (by omega)
      have s5 : IntKind.i64.wrap (m.rise + m.fall) = m.rise + m.fall := IntWalk.i64_in _ (by omega)
      have s6 : IntKind.i64.wrap (t * t * (m.rise + m.fall)) = t * t * (m.rise + m.fall) := IntWalk.i64_in _ (by omega)
      have s7 : IntKind.i64.wrap (2 * m.rise) = 2 * m.rise := IntWalk.i64_in _ (by omega)
      have s8 : IntKind.i64.wrap (2 * m.rise * m.fall) = 2 * m.rise * m.fall := IntWalk.i64_in _ (by omega)
      have s9 : IntKind.i64.wrap (2 * m.rise * m.fall * d) = 2 * m.rise * m.fall * d := IntWalk.i64_in _ (by omega)
      have hk : kP d m.rise m.fall t = 2 * m.rise * m.fall * d - t * t * (m.rise + m.fall) := rfl
      obtain ⟨n, q, hnq, hq⟩ : ∃ (n : Nat) (q : Bool), (q = true ∧ n = 3 ∨ q = false ∧ n = 4) ∧ (knotsL d m.rise m.fall t).length = n ∧ (t * t * (m.rise + m.fall) == 2 * m.rise * m.fall * d) = q := by
        rw [HKL.out, if_neg dz]
        by_cases c : kP d m.rise m.fall t = 0
        · exact ⟨3, true, .inl ⟨rfl, rfl⟩, by rw [if_pos c], by rw [beq_iff_eq]; omega⟩
        · exact ⟨4, false, .inr ⟨rfl, rfl⟩, by rw [if_neg c], by rw [beq_eq_false_iff_ne]; omega⟩
      have HLN := Lib.hid hq.1
      have z6 := hq.2
      clear hq hk B1 B2 B3 B4 B5 B6 B7 B8 dz
      by_cases ts : t = m.spd
      · have z5 : (t == m.spd) = true := by simpa using ts
        clear ts hT
        rcases hnq with ⟨rfl, rfl⟩ | ⟨rfl, rfl⟩
        all_goals
          go_enter Try.func6, Try.ntmps6
          go_upto_region 1 with (fail)
          have k0 : ((w.alloc (.cells #[.int .i64 d] 3)).alloc (.cells #[.string m.name, .int .i64 m.to, .int .i64 m.spd, .int .i64 m.rise, .int .i64 m.fall] 23)).cell? ⟨w.heap.size + 1, 0, none⟩ = some (.string m.name) := by simp
          have k1 : ((w.alloc (.cells #[.int .i64 d] 3)).alloc (.cells #[.string m.name, .int .i64 m.to, .int .i64 m.spd, .int .i64 m.rise, .int .i64 m.fall] 23)).cell? ⟨w.heap.size + 1, 1, none⟩ = some (.int .i64 m.to) := by simp
          have k2 : ((w.alloc (.cells #[.int .i64 d] 3)).alloc (.cells #[.string m.name, .int .i64 m.to, .int .i64 m.spd, .int .i64 m.rise, .int .i64 m.fall] 23)).cell? ⟨w.heap.size + 1, 2, none⟩ = some (.int .i64 m.spd) := by simp
          have k3 : ((w.alloc (.cells #[.int .i64 d] 3)).alloc (.cells #[.string m.name, .int .i64 m.to, .int .i64 m.spd, .int .i64 m.rise, .int .i64 m.fall] 23)).cell? ⟨w.heap.size + 1, 3, none⟩ = some (.int .i64 m.rise) := by simp
          have k4 : ((w.alloc (.cells #[.int .i64 d] 3)).alloc (.cells #[.string m.name, .int .i64 m.to, .int .i64 m.spd, .int .i64 m.rise, .int .i64 m.fall] 23)).cell? ⟨w.heap.size + 1, 4, none⟩ = some (.int .i64 m.fall) := by simp
          have k5 : ((w.alloc (.cells #[.int .i64 d] 3)).alloc (.cells #[.string m.name, .int .i64 m.to, .int .i64 m.spd, .int .i64 m.rise, .int .i64 m.fall] 23)).cell? ⟨w.heap.size, 0, none⟩ = some (.int .i64 d) := by simp
          have hz : w.heap.size + 1 < ((w.alloc (.cells #[.int .i64 d] 3)).alloc (.cells #[.string m.name, .int .i64 m.to, .int .i64 m.spd, .int .i64 m.rise, .int .i64 m.fall] 23)).heap.size := by simp
          have hW0 : Below w.heap.size w ((w.alloc (.cells #[.int .i64 d] 3)).alloc (.cells #[.string m.name, .int .i64 m.to, .int .i64 m.spd, .int .i64 m.rise, .int .i64 m.fall] 23)) := (below_new _ _).alloc (by simp) _
          generalize ((w.alloc (.cells #[.int .i64 d] 3)).alloc (.cells #[.string m.name, .int .i64 m.to, .int .i64 m.spd, .int .i64 m.rise, .int .i64 m.fall] 23)) = W0 at *
          have x0 : ∀ wr, Below W0.heap.size W0 wr → wr.cell? ⟨w.heap.size + 1, 0, none⟩ = some (.string m.name) := fun wr h => (h.cell (p := ⟨w.heap.size + 1, 0, none⟩) hz).trans k0
          have x1 : ∀ wr, Below W0.heap.size W0 wr → wr.cell? ⟨w.heap.size + 1, 1, none⟩ = some (.int .i64 m.to) := fun wr h => (h.cell (p := ⟨w.heap.size + 1, 1, none⟩) hz).trans k1
          have x2 : ∀ wr, Below W0.heap.size W0 wr → wr.cell? ⟨w.heap.size + 1, 2, none⟩ = some (.int .i64 m.spd) := fun wr h => (h.cell (p := ⟨w.heap.size + 1, 2, none⟩) hz).trans k2
          have x3 : ∀ wr, Below W0.heap.size W0 wr → wr.cell? ⟨w.heap.size + 1, 3, none⟩ = some (.int .i64 m.rise) := fun wr h => (h.cell (p := ⟨w.heap.size + 1, 3, none⟩) hz).trans k3
          have x4 : ∀ wr, Below W0.heap.size W0 wr → wr.cell? ⟨w.heap.size + 1, 4, none⟩ = some (.int .i64 m.fall) := fun wr h => (h.cell (p := ⟨w.heap.size + 1, 4, none⟩) hz).trans k4
          have x5 : ∀ wr, Below W0.heap.size W0 wr → wr.cell? ⟨w.heap.size, 0, none⟩ = some (.int .i64 d) := fun wr h => (h.cell (p := ⟨w.heap.size, 0, none⟩) (by simp <;> omega)).trans k5
          clear k0 k1 k2 k3 k4 k5 hz
          go_wp2_with (first
            | (go_at_call 10; (with_reducible refine (awake_any _).mono ?_); rintro e w1 ⟨rfl, hB1⟩)
            | (go_at_call 19; (with_reducible refine (ready_any d m _).mono ?_); rintro e w2 ⟨rfl, hb2⟩; rw [HR.out]; have hB2 := hB1.trans (hb2.mono hB1.size))
            | (go_at_call 11; (with_reducible refine (HC.out _).mono ?_); rintro e w3 ⟨rfl, hb3⟩; rw [HT.out, HG.out]; have hB3 := hB2.trans (hb3.mono hB2.size))
            | (go_at_call 22; (with_reducible refine (HK.out _).mono ?_); rintro e w4 ⟨hv, hb4⟩; obtain ⟨v, rfl, hrow⟩ := hv.out; rw [HG.out]; have hr1 := hrow.1 HG.out; obtain ⟨pa, pcap, hve, _, _, _, _⟩ := fr_of_row hr1; rw [HLN.out] at hve; subst hve; have hB4 := hB3.trans (hb4.mono hB3.size); clear hv hrow hr1)
            | (go_at_call 23; (with_reducible refine (HN1.out _ _ _ (x3 _ hB4) (x4 _ hB4) (x5 _ hB4)).mono ?_); rintro e w' ⟨rfl, rfl⟩))
          go_ret
          exact ⟨rfl, hW0.trans (hB4.mono hW0.size)⟩
      · have z5 : (t == m.spd) = false := by simpa using ts
        have HN2 := Lib.hid (need_any d m (t + 1) false HG.out (by omega) (by omega) ⟨fun h => by rcases hT.2.2.2 with e | e; exact absurd e ts; exact absurd h e, fun h => by cases h⟩)
        clear ts hT
        rcases hnq with ⟨rfl, rfl⟩ | ⟨rfl, rfl⟩
        all_goals
          go_enter Try.func6, Try.ntmps6
          go_upto_region 1 with (fail)
          have k0 : ((w.alloc (.cells #[.int .i64 d] 3)).alloc (.cells #[.string m.name, .int .i64 m.to, .int .i64 m.spd, .int .i64 m.rise, .int .i64 m.fall] 23)).cell? ⟨w.heap.size + 1, 0, none⟩ = some (.string m.name) := by simp
          have k1 : ((w.alloc (.cells #[.int .i64 d] 3)).alloc (.cells #[.string m.name, .int .i64 m.to, .int .i64 m.spd, .int .i64 m.rise, .int .i64 m.fall] 23)).cell? ⟨w.heap.size + 1, 1, none⟩ = some (.int .i64 m.to) := by simp
          have k2 : ((w.alloc (.cells #[.int .i64 d] 3)).alloc (.cells #[.string m.name, .int .i64 m.to, .int .i64 m.spd, .int .i64 m.rise, .int .i64 m.fall] 23)).cell? ⟨w.heap.size + 1, 2, none⟩ = some (.int .i64 m.spd) := by simp
          have k3 : ((w.alloc (.cells #[.int .i64 d] 3)).alloc (.cells #[.string m.name, .int .i64 m.to, .int .i64 m.spd, .int .i64 m.rise, .int .i64 m.fall] 23)).cell? ⟨w.heap.size + 1, 3, none⟩ = some (.int .i64 m.rise) := by simp
          have k4 : ((w.alloc (.cells #[.int .i64 d] 3)).alloc (.cells #[.string m.name, .int .i64 m.to, .int .i64 m.spd, .int .i64 m.rise, .int .i64 m.fall] 23)).cell? ⟨w.heap.size + 1, 4, none⟩ = some (.int .i64 m.fall) := by simp
          have k5 : ((w.alloc (.cells #[.int .i64 d] 3)).alloc (.cells #[.string m.name, .int .i64 m.to, .int .i64 m.spd, .int .i64 m.rise, .int .i64 m.fall] 23)).cell? ⟨w.heap.size, 0, none⟩ = some (.int .i64 d) := by simp
          have hz : w.heap.size + 1 < ((w.alloc (.cells #[.int .i64 d] 3)).alloc (.cells #[.string m.name, .int .i64 m.to, .int .i64 m.spd, .int .i64 m.rise, .int .i64 m.fall] 23)).heap.size := by simp
          have hW0 : Below w.heap.size w ((w.alloc (.cells #[.int .i64 d] 3)).alloc (.cells #[.string m.name, .int .i64 m.to, .int .i64 m.spd, .int .i64 m.rise, .int .i64 m.fall] 23)) := (below_new _ _).alloc (by simp) _
          generalize ((w.alloc (.cells #[.int .i64 d] 3)).alloc (.cells #[.string m.name, .int .i64 m.to, .int .i64 m.spd, .int .i64 m.rise, .int .i64 m.fall] 23)) = W0 at *
          have x0 : ∀ wr, Below W0.heap.size W0 wr → wr.cell? ⟨w.heap.size + 1, 0, none⟩ = some (.string m.name) := fun wr h => (h.cell (p := ⟨w.heap.size + 1, 0, none⟩) hz).trans k0
          have x1 : ∀ wr, Below W0.heap.size W0 wr → wr.cell? ⟨w.heap.size + 1, 1, none⟩ = some (.int .i64 m.to) := fun wr h => (h.cell (p := ⟨w.heap.size + 1, 1, none⟩) hz).trans k1
          have x2 : ∀ wr, Below W0.heap.size W0 wr → wr.cell? ⟨w.heap.size + 1, 2, none⟩ = some (.int .i64 m.spd) := fun wr h => (h.cell (p := ⟨w.heap.size + 1, 2, none⟩) hz).trans k2
          have x3 : ∀ wr, Below W0.heap.size W0 wr → wr.cell? ⟨w.heap.size + 1, 3, none⟩ = some (.int .i64 m.rise) := fun wr h => (h.cell (p := ⟨w.heap.size + 1, 3, none⟩) hz).trans k3
          have x4 : ∀ wr, Below W0.heap.size W0 wr → wr.cell? ⟨w.heap.size + 1, 4, none⟩ = some (.int .i64 m.fall) := fun wr h => (h.cell (p := ⟨w.heap.size + 1, 4, none⟩) hz).trans k4
          have x5 : ∀ wr, Below W0.heap.size W0 wr → wr.cell? ⟨w.heap.size, 0, none⟩ = some (.int .i64 d) := fun wr h => (h.cell (p := ⟨w.heap.size, 0, none⟩) (by simp <;> omega)).trans k5
          clear k0 k1 k2 k3 k4 k5 hz
          go_wp2_with (first
            | (go_at_call 10; (with_reducible refine (awake_any _).mono ?_); rintro e w1 ⟨rfl, hB1⟩)
            | (go_at_call 19; (with_reducible refine (ready_any d m _).mono ?_); rintro e w2 ⟨rfl, hb2⟩; rw [HR.out]; have hB2 := hB1.trans (hb2.mono hB1.size))
            | (go_at_call 11; (with_reducible refine (HC.out _).mono ?_); rintro e w3 ⟨rfl, hb3⟩; rw [HT.out, HG.out]; have hB3 := hB2.trans (hb3.mono hB2.size))
            | (go_at_call 22; (with_reducible refine (HK.out _).mono ?_); rintro e w4 ⟨hv, hb4⟩; obtain ⟨v, rfl, hrow⟩ := hv.out; rw [HG.out]; have hr1 := hrow.1 HG.out; obtain ⟨pa, pcap, hve, _, _, _, _⟩ := fr_of_row hr1; rw [HLN.out] at hve; subst hve; have hB4 := hB3.trans (hb4.mono hB3.size); clear hv hrow hr1)
            | (go_at_call 23; (with_reducible refine (HN1.out _ _ _ (x3 _ hB4) (x4 _ hB4) (x5 _ hB4)).mono ?_); rintro e w' ⟨rfl, rfl⟩)
            | (go_at_call 23; (with_reducible refine (HN2.out _ _ _ (x3 _ hB4) (x4 _ hB4) (x5 _ hB4)).mono ?_); rintro e w' ⟨rfl, rfl⟩))
          go_ret
          exact ⟨rfl, hW0.trans (hB4.mono hW0.size)⟩
end Go.Proofs.Ytlgpolfbilkmbaa
