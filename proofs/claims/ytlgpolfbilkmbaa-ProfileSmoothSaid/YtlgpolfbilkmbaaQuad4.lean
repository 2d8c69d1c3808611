/-
  THE WALKS of package quadratic: At and Slope, at a valid curve.
-/
import Derived.Test.YtlgpolfbilkmbaaQuad3
namespace Go.Proofs.Ytlgpolfbilkmbaa
open Go.RowKit Go.Shelf
theorem pieceN_range (L : List Pc) (t : Int × Int) (k : Nat) : -1 ≤ pieceN L t k ∧ pieceN L t k < (k : Int) := by
  induction k with
  | zero => exact ⟨Int.le_refl _, by unfold pieceN; omega⟩
  | succ k ih => unfold pieceN; split <;> omega
def resV (v : (Int × Int) × Int) : Int × Int × Int := (if v.2 = 0 then v.1.1 else 0, if v.2 = 0 then v.1.2 else 0, v.2)
/-- The value of a piece at a time, and the error. -/
def valAt (L : List Pc) (t : Int × Int) (i : Nat) : Int × Int × Int := resV (kVal (kSub 0 t ((pcg L i).f0, (pcg L i).f1)).2 ((pcg L i).a0, (pcg L i).a1) ((pcg L i).b0, (pcg L i).b1) ((pcg L i).c0, (pcg L i).c1) (kSub 0 t ((pcg L i).f0, (pcg L i).f1)).1)
def slopeAt (L : List Pc) (t : Int × Int) (i : Nat) : Int × Int × Int := resV (kSlope (kSub 0 t ((pcg L i).f0, (pcg L i).f1)).2 ((pcg L i).b0, (pcg L i).b1) ((pcg L i).c0, (pcg L i).c1) (kSub 0 t ((pcg L i).f0, (pcg L i).f1)).1)
def atP (L : List Pc) (t : Int × Int) : Int × Int × Int := if vF t = true then (if pieceN L t L.length < 0 then ((pcg L 0).a0, (pcg L 0).a1, 0) else valAt L t (pieceN L t L.length).toNat) else (0, 0, 1)
def slopeP (L : List Pc) (t : Int × Int) : Int × Int × Int := if vF t = true then (if pieceN L t L.length < 0 then (0, 1, 0) else slopeAt L t (pieceN L t L.length).toNat) else (0, 0, 1)
set_option maxRecDepth 100000 in
set_option maxHeartbeats 8000000 in
theorem qat_any (L : List Pc) (ok : CurveOK L) (t : Int × Int) (a : Option Addr) (c : Nat) (w : World) (hL : Pcs w.heap.size w a L) :
    Calls Try.prog 31 #[.slice a L.length c, .agg #[.int .i64 t.1, .int .i64 t.2]] w fun e w' => e = .returned (.tuple #[.agg #[.int .i64 (atP L t).1, .int .i64 (atP L t).2.1], .int .i64 (atP L t).2.2]) ∧ Below w.heap.size w w' := by
  have hpos := ok.pos
  have hlen := ok.len
  have hL0 : Pcs ((w.alloc (.cells #[.int .i64 t.1, .int .i64 t.2] 39)).alloc (.cells #[.int .i64 0, .int .i64 0] 39)).heap.size ((w.alloc (.cells #[.int .i64 t.1, .int .i64 t.2] 39)).alloc (.cells #[.int .i64 0, .int .i64 0] 39)) a L := hL.grow ((below_new _ _).alloc (by simp) _)
  have HV := Lib.hid (fun c w h => qvalid_yes L ok a c w h)
  have HOK := Lib.hid ok
  have HL := Lib.hid hL
  obtain ⟨Z, hZ⟩ : ∃ Z, atP L t = Z := ⟨_, rfl⟩
  rw [hZ]
  have HZ := Lib.hid hZ
  clear ok hL hZ
  by_cases vt : vF t = true
  case neg =>
    have HVT : Hid (validF t.1 t.2 = false) := Lib.hid (by have := Bool.not_eq_true _ ▸ vt; exact this)
    have HR : Hid (Z = (0, 0, 1)) := Lib.hid (by rw [← HZ.out]; unfold atP; rw [if_neg vt])
    rw [HR.out]
    clear vt
    go_enter Try.func31, Try.ntmps31
    go_wp2_with (first
      | (go_at_call 56; (with_reducible refine (HV.out _ _ ?_).mono ?_); (next => exact hL0); rintro e w1 ⟨rfl, hb1⟩; have t0 : w1.cell? ⟨w.heap.size, 0, none⟩ = some (.int .i64 t.1) := (hb1.cell (p := ⟨w.heap.size, 0, none⟩) (by simp <;> omega)).trans (by simp [go_sem, World.cell?_alloc_past]); have t1 : w1.cell? ⟨w.heap.size, 1, none⟩ = some (.int .i64 t.2) := (hb1.cell (p := ⟨w.heap.size, 1, none⟩) (by simp <;> omega)).trans (by simp [go_sem, World.cell?_alloc_past]); have r0 : w1.cell? ⟨w.heap.size + 1, 0, none⟩ = some (.int .i64 0) := (hb1.cell (p := ⟨w.heap.size + 1, 0, none⟩) (by simp <;> omega)).trans (by simp [go_sem]); have r1 : w1.cell? ⟨w.heap.size + 1, 1, none⟩ = some (.int .i64 0) := (hb1.cell (p := ⟨w.heap.size + 1, 1, none⟩) (by simp <;> omega)).trans (by simp [go_sem]); have r2 : w1.frozen? ⟨w.heap.size + 1, 0, none⟩ = false := (hb1.frozen (p := ⟨w.heap.size + 1, 0, none⟩) (by simp <;> omega)).trans (by simp [go_sem]); have r3 : w1.frozen? ⟨w.heap.size + 1, 1, none⟩ = false := (hb1.frozen (p := ⟨w.heap.size + 1, 1, none⟩) (by simp <;> omega)).trans (by simp [go_sem]); have hB1 : Below w.heap.size w w1 := ((below_new w (.cells #[.int .i64 t.1, .int .i64 t.2] 39)).alloc (by simp) (.cells #[.int .i64 0, .int .i64 0] 39)).trans (hb1.mono (by simp <;> omega)); have z1 := World.block_lt_of_cell? _ _ r0; simp only at z1)
      | (go_at_call 57; (with_reducible refine (valid_any t.1 t.2 _).mono ?_); rintro e w2 ⟨rfl, hb2⟩; rw [HVT.out]; have hB2 := hB1.trans (hb2.mono hB1.size); have T0 := (hb2.cell (p := ⟨w.heap.size, 0, none⟩) (by simp; omega)).trans t0; have T1 := (hb2.cell (p := ⟨w.heap.size, 1, none⟩) (by simp; omega)).trans t1; have R0 := (hb2.cell (p := ⟨w.heap.size + 1, 0, none⟩) z1).trans r0; have R1 := (hb2.cell (p := ⟨w.heap.size + 1, 1, none⟩) z1).trans r1; have R2 := (hb2.frozen (p := ⟨w.heap.size + 1, 0, none⟩) z1).trans r2; have R3 := (hb2.frozen (p := ⟨w.heap.size + 1, 1, none⟩) z1).trans r3; have z2 := World.block_lt_of_cell? _ _ R0; simp only at z2; have zz : w.heap.size < w2.heap.size := (by omega); clear t0 t1 r0 r1 r2 r3 hb1 hb2))
    have l0 := (two_cells (v0 := .int .i64 0) (v1 := .int .i64 0) R0 R1).1
    have l1 := (two_cells (v0 := .int .i64 0) (v1 := .int .i64 0) R0 R1).2
    refine bodyPost_ret (v := .tuple #[.agg #[.int .i64 0, .int .i64 0], .int .i64 1]) (by simp [results, Try.results31, go_sem, l0, l1]) rfl ⟨rfl, ?_⟩
    exact (hB2.setCell (p := ⟨w.heap.size + 1, 0, none⟩) (Nat.le_succ _) _).setCell (p := ⟨w.heap.size + 1, 1, none⟩) (Nat.le_succ _) _
  case pos =>
    have HVT : Hid (validF t.1 t.2 = true) := Lib.hid vt
    have HTT := Lib.hid vt
    have HZ2 : Hid (Z = if pieceN L t L.length < 0 then ((pcg L 0).a0, (pcg L 0).a1, 0) else valAt L t (pieceN L t L.length).toNat) := Lib.hid (by rw [← HZ.out]; unfold atP; rw [if_pos vt])
    clear vt HZ
    obtain ⟨kI, hk⟩ : ∃ k, pieceN L t L.length = k := ⟨_, rfl⟩
    have hkr := pieceN_range L t L.length
    rw [hk] at hkr
    have HK := Lib.hid hk
    rw [hk] at HZ2
    clear hk
    by_cases neg : kI < 0
    · have g : decide (kI < 0) = true := decide_eq_true neg
      rw [if_pos neg] at HZ2
      rw [HZ2.out]
      clear neg
      obtain ⟨b, off, rfl, hb, hc⟩ := HL.out (by omega)
      obtain ⟨c0, c1, c2, c3, c4, c5, c6, c7⟩ := hc 0 (by omega)
      simp only [Nat.zero_mul, Nat.add_zero] at c2 c3
      have HC2 := Lib.hid c2
      have HC3 := Lib.hid c3
      clear c0 c1 c2 c3 c4 c5 c6 c7 hc
      go_enter Try.func31, Try.ntmps31
      go_wp2_with (first
        | (go_at_call 56; (with_reducible refine (HV.out _ _ ?_).mono ?_); (next => exact hL0); rintro e w1 ⟨rfl, hb1⟩; have t0 : w1.cell? ⟨w.heap.size, 0, none⟩ = some (.int .i64 t.1) := (hb1.cell (p := ⟨w.heap.size, 0, none⟩) (by simp <;> omega)).trans (by simp [go_sem, World.cell?_alloc_past]); have t1 : w1.cell? ⟨w.heap.size, 1, none⟩ = some (.int .i64 t.2) := (hb1.cell (p := ⟨w.heap.size, 1, none⟩) (by simp <;> omega)).trans (by simp [go_sem, World.cell?_alloc_past]); have r0 : w1.cell? ⟨w.heap.size + 1, 0, none⟩ = some (.int .i64 0) := (hb1.cell (p := ⟨w.heap.size + 1, 0, none⟩) (by simp <;> omega)).trans (by simp [go_sem]); have r1 : w1.cell? ⟨w.heap.size + 1, 1, none⟩ = some (.int .i64 0) := (hb1.cell (p := ⟨w.heap.size + 1, 1, none⟩) (by simp <;> omega)).trans (by simp [go_sem]); have r2 : w1.frozen? ⟨w.heap.size + 1, 0, none⟩ = false := (hb1.frozen (p := ⟨w.heap.size + 1, 0, none⟩) (by simp <;> omega)).trans (by simp [go_sem]); have r3 : w1.frozen? ⟨w.heap.size + 1, 1, none⟩ = false := (hb1.frozen (p := ⟨w.heap.size + 1, 1, none⟩) (by simp <;> omega)).trans (by simp [go_sem]); have hB1 : Below w.heap.size w w1 := ((below_new w (.cells #[.int .i64 t.1, .int .i64 t.2] 39)).alloc (by simp) (.cells #[.int .i64 0, .int .i64 0] 39)).trans (hb1.mono (by simp <;> omega)); have z1 := World.block_lt_of_cell? _ _ r0; simp only at z1)
        | (go_at_call 57; (with_reducible refine (valid_any t.1 t.2 _).mono ?_); rintro e w2 ⟨rfl, hb2⟩; rw [HVT.out]; have hB2 := hB1.trans (hb2.mono hB1.size); have T0 := (hb2.cell (p := ⟨w.heap.size, 0, none⟩) (by simp; omega)).trans t0; have T1 := (hb2.cell (p := ⟨w.heap.size, 1, none⟩) (by simp; omega)).trans t1; have R0 := (hb2.cell (p := ⟨w.heap.size + 1, 0, none⟩) z1).trans r0; have R1 := (hb2.cell (p := ⟨w.heap.size + 1, 1, none⟩) z1).trans r1; have R2 := (hb2.frozen (p := ⟨w.heap.size + 1, 0, none⟩) z1).trans r2; have R3 := (hb2.frozen (p := ⟨w.heap.size + 1, 1, none⟩) z1).trans r3; have z2 := World.block_lt_of_cell? _ _ R0; simp only at z2; have zz : w.heap.size < w2.heap.size := (by omega); clear t0 t1 r0 r1 r2 r3 hb1 hb2)
        | (go_at_call 58; have W20 : Below w2.heap.size w2 (w2.alloc (.cells #[.int .i64 0] 83)) := below_new _ _; have hB3 := hB2.trans (W20.mono hB2.size); (with_reducible refine (piece_any L HOK.out t HTT.out (some ⟨b, off, none⟩) c _ (HL.out.grow hB3)).mono ?_); rw [HK.out]; rintro e w4 ⟨rfl, hb4⟩; have hB4 := hB3.trans (hb4.mono hB3.size); have hb5 := W20.trans (hb4.mono W20.size); have S0 : w4.cell? ⟨w2.heap.size, 0, none⟩ = some (.int .i64 0) := (hb4.cell (p := ⟨w2.heap.size, 0, none⟩) (by simp)).trans (by simp); have S1 : w4.frozen? ⟨w2.heap.size, 0, none⟩ = false := (hb4.frozen (p := ⟨w2.heap.size, 0, none⟩) (by simp)).trans (by simp); have t0 := (hb5.cell (p := ⟨w.heap.size, 0, none⟩) (by simp; omega)).trans T0; have t1 := (hb5.cell (p := ⟨w.heap.size, 1, none⟩) (by simp; omega)).trans T1; have r0 := (hb5.cell (p := ⟨w.heap.size + 1, 0, none⟩) z2).trans R0; have r1 := (hb5.cell (p := ⟨w.heap.size + 1, 1, none⟩) z2).trans R1; have r2 := (hb5.frozen (p := ⟨w.heap.size + 1, 0, none⟩) z2).trans R2; have r3 := (hb5.frozen (p := ⟨w.heap.size + 1, 1, none⟩) z2).trans R3; have hBs4 : w2.heap.size < w4.heap.size := World.block_lt_of_cell? _ _ S0; have d2 := (hB4.cell (p := ⟨b, off + 2, none⟩) hb).trans HC2.out; have d3 := (hB4.cell (p := ⟨b, off + 3, none⟩) hb).trans HC3.out; clear T0 T1 R0 R1 R2 R3 hb4 hb5 W20 hB3))
      have l0 := (two_cells (v0 := .int .i64 (pcg L 0).a0) (v1 := .int .i64 (pcg L 0).a1) r0 r1).1
      have l1 := (two_cells (v0 := .int .i64 (pcg L 0).a0) (v1 := .int .i64 (pcg L 0).a1) r0 r1).2
      refine bodyPost_ret (v := .tuple #[.agg #[.int .i64 (pcg L 0).a0, .int .i64 (pcg L 0).a1], .int .i64 0]) (by simp [results, Try.results31, go_sem, l0, l1]) rfl ⟨rfl, ?_⟩
      exact (hB4.setCell (p := ⟨w.heap.size + 1, 0, none⟩) (Nat.le_succ _) _).setCell (p := ⟨w.heap.size + 1, 1, none⟩) (Nat.le_succ _) _
    · have g : decide (kI < 0) = false := decide_eq_false neg
      rw [if_neg neg] at HZ2
      obtain ⟨i, rfl⟩ := Int.eq_ofNat_of_zero_le (show 0 ≤ kI by omega)
      rw [Int.toNat_natCast] at HZ2
      have hi : i < L.length := by omega
      have hi1 : (i : Int) < (L.length : Int) := by omega
      have hi0 : (0 : Int) ≤ (i : Int) := by omega
      have hok := HOK.out.val i hi
      have VF : vF ((pcg L i).f0, (pcg L i).f1) = true := hok.f
      have VA : vF ((pcg L i).a0, (pcg L i).a1) = true := hok.a
      have VB : vF ((pcg L i).b0, (pcg L i).b1) = true := hok.b
      have VC : vF ((pcg L i).c0, (pcg L i).c1) = true := hok.c
      obtain ⟨K1, hK1⟩ : ∃ K, kSub 0 t ((pcg L i).f0, (pcg L i).f1) = K := ⟨_, rfl⟩
      have V1 : vF K1.1 = true := by rw [← hK1]; exact kSub_valid HTT.out VF
      have HC1 : Hid (∀ (Bs : Nat) (w : World), w.cell? ⟨Bs, 0, none⟩ = some (.int .i64 0) → w.frozen? ⟨Bs, 0, none⟩ = false → Calls Try.prog 61 #[.pointer (some ⟨Bs, 0, none⟩), .agg #[.int .i64 t.1, .int .i64 t.2], .agg #[.int .i64 (pcg L i).f0, .int .i64 (pcg L i).f1]] w fun z w' => z = .returned (.agg #[.int .i64 K1.1.1, .int .i64 K1.1.2]) ∧ Sm Bs K1.2 w w') := Lib.hid fun Bs w h0 h1 => by
        have := ksub_any Bs 0 t ((pcg L i).f0, (pcg L i).f1) HTT.out VF w h0 h1
        rwa [hK1] at this
      obtain ⟨K2, hK2⟩ : ∃ K, kVal K1.2 ((pcg L i).a0, (pcg L i).a1) ((pcg L i).b0, (pcg L i).b1) ((pcg L i).c0, (pcg L i).c1) K1.1 = K := ⟨_, rfl⟩
      have HC2 : Hid (∀ (Bs : Nat) (w : World), w.cell? ⟨Bs, 0, none⟩ = some (.int .i64 K1.2) → w.frozen? ⟨Bs, 0, none⟩ = false → Calls Try.prog 60 #[.pointer (some ⟨Bs, 0, none⟩), .agg #[.int .i64 (pcg L i).f0, .int .i64 (pcg L i).f1, .int .i64 (pcg L i).a0, .int .i64 (pcg L i).a1, .int .i64 (pcg L i).b0, .int .i64 (pcg L i).b1, .int .i64 (pcg L i).c0, .int .i64 (pcg L i).c1], .agg #[.int .i64 K1.1.1, .int .i64 K1.1.2]] w fun z w' => z = .returned (.agg #[.int .i64 K2.1.1, .int .i64 K2.1.2]) ∧ Sm Bs K2.2 w w') := Lib.hid fun Bs w h0 h1 => by
        have := qvalue_any Bs K1.2 ((pcg L i).f0, (pcg L i).f1) ((pcg L i).a0, (pcg L i).a1) ((pcg L i).b0, (pcg L i).b1) ((pcg L i).c0, (pcg L i).c1) K1.1 VA VB VC V1 w h0 h1
        rwa [hK2] at this
      have HR : Hid (Z = (if K2.2 = 0 then K2.1.1 else 0, if K2.2 = 0 then K2.1.2 else 0, K2.2)) := Lib.hid (by rw [HZ2.out]; unfold valAt; simp only [hK1, hK2]; rfl)
      obtain ⟨q1, hq1⟩ : ∃ q, (if K2.2 = 0 then K2.1.1 else 0) = q := ⟨_, rfl⟩
      obtain ⟨q2, hq2⟩ : ∃ q, (if K2.2 = 0 then K2.1.2 else 0) = q := ⟨_, rfl⟩
      have HC3 : Hid (∀ (Bs : Nat) (w : World), w.cell? ⟨Bs, 0, none⟩ = some (.int .i64 K2.2) → Calls Try.prog 59 #[.pointer (some ⟨Bs, 0, none⟩), .agg #[.int .i64 K2.1.1, .int .i64 K2.1.2]] w fun z w' => z = .returned (.tuple #[.agg #[.int .i64 q1, .int .i64 q2], .int .i64 K2.2]) ∧ Below w.heap.size w w') := Lib.hid fun Bs w h0 => by
        have := qresult_any Bs K2.2 K2.1 w h0
        rwa [hq1, hq2] at this
      rw [hq1, hq2] at HR
      rw [HR.out]
      clear hq1 hq2 hK1 hK2 V1 VF VA VB VC hok HZ2 neg
      obtain ⟨b, off, rfl, hb, hc⟩ := HL.out (by omega)
      obtain ⟨c0, c1, c2, c3, c4, c5, c6, c7⟩ := hc i hi
      have HC := Lib.hid (hc i hi)
      clear hc c0 c1 c2 c3 c4 c5 c6 c7
      go_enter Try.func31, Try.ntmps31
      go_upto_region 7 with (first
        | (go_at_call 56; (with_reducible refine (HV.out _ _ ?_).mono ?_); (next => exact hL0); rintro e w1 ⟨rfl, hb1⟩; have t0 : w1.cell? ⟨w.heap.size, 0, none⟩ = some (.int .i64 t.1) := (hb1.cell (p := ⟨w.heap.size, 0, none⟩) (by simp <;> omega)).trans (by simp [go_sem, World.cell?_alloc_past]); have t1 : w1.cell? ⟨w.heap.size, 1, none⟩ = some (.int .i64 t.2) := (hb1.cell (p := ⟨w.heap.size, 1, none⟩) (by simp <;> omega)).trans (by simp [go_sem, World.cell?_alloc_past]); have r0 : w1.cell? ⟨w.heap.size + 1, 0, none⟩ = some (.int .i64 0) := (hb1.cell (p := ⟨w.heap.size + 1, 0, none⟩) (by simp <;> omega)).trans (by simp [go_sem]); have r1 : w1.cell? ⟨w.heap.size + 1, 1, none⟩ = some (.int .i64 0) := (hb1.cell (p := ⟨w.heap.size + 1, 1, none⟩) (by simp <;> omega)).trans (by simp [go_sem]); have r2 : w1.frozen? ⟨w.heap.size + 1, 0, none⟩ = false := (hb1.frozen (p := ⟨w.heap.size + 1, 0, none⟩) (by simp <;> omega)).trans (by simp [go_sem]); have r3 : w1.frozen? ⟨w.heap.size + 1, 1, none⟩ = false := (hb1.frozen (p := ⟨w.heap.size + 1, 1, none⟩) (by simp <;> omega)).trans (by simp [go_sem]); have hB1 : Below w.heap.size w w1 := ((below_new w (.cells #[.int .i64 t.1, .int .i64 t.2] 39)).alloc (by simp) (.cells #[.int .i64 0, .int .i64 0] 39)).trans (hb1.mono (by simp <;> omega)); have z1 := World.block_lt_of_cell? _ _ r0; simp only at z1)
        | (go_at_call 57; (with_reducible refine (valid_any t.1 t.2 _).mono ?_); rintro e w2 ⟨rfl, hb2⟩; rw [HVT.out]; have hB2 := hB1.trans (hb2.mono hB1.size); have T0 := (hb2.cell (p := ⟨w.heap.size, 0, none⟩) (by simp; omega)).trans t0; have T1 := (hb2.cell (p := ⟨w.heap.size, 1, none⟩) (by simp; omega)).trans t1; have R0 := (hb2.cell (p := ⟨w.heap.size + 1, 0, none⟩) z1).trans r0; have R1 := (hb2.cell (p := ⟨w.heap.size + 1, 1, none⟩) z1).trans r1; have R2 := (hb2.frozen (p := ⟨w.heap.size + 1, 0, none⟩) z1).trans r2; have R3 := (hb2.frozen (p := ⟨w.heap.size + 1, 1, none⟩) z1).trans r3; have z2 := World.block_lt_of_cell? _ _ R0; simp only at z2; have zz : w.heap.size < w2.heap.size := (by omega); clear t0 t1 r0 r1 r2 r3 hb1 hb2)
        | (go_at_call 58; have W20 : Below w2.heap.size w2 (w2.alloc (.cells #[.int .i64 0] 83)) := below_new _ _; have hB3 := hB2.trans (W20.mono hB2.size); (with_reducible refine (piece_any L HOK.out t HTT.out (some ⟨b, off, none⟩) c _ (HL.out.grow hB3)).mono ?_); rw [HK.out]; rintro e w4 ⟨rfl, hb4⟩; have hB4 := hB3.trans (hb4.mono hB3.size); have hb5 := W20.trans (hb4.mono W20.size); have S0 : w4.cell? ⟨w2.heap.size, 0, none⟩ = some (.int .i64 0) := (hb4.cell (p := ⟨w2.heap.size, 0, none⟩) (by simp)).trans (by simp); have S1 : w4.frozen? ⟨w2.heap.size, 0, none⟩ = false := (hb4.frozen (p := ⟨w2.heap.size, 0, none⟩) (by simp)).trans (by simp); have t0 := (hb5.cell (p := ⟨w.heap.size, 0, none⟩) (by simp; omega)).trans T0; have t1 := (hb5.cell (p := ⟨w.heap.size, 1, none⟩) (by simp; omega)).trans T1; have r0 := (hb5.cell (p := ⟨w.heap.size + 1, 0, none⟩) z2).trans R0; have r1 := (hb5.cell (p := ⟨w.heap.size + 1, 1, none⟩) z2).trans R1; have r2 := (hb5.frozen (p := ⟨w.heap.size + 1, 0, none⟩) z2).trans R2; have r3 := (hb5.frozen (p := ⟨w.heap.size + 1, 1, none⟩) z2).trans R3; have hBs4 : w2.heap.size < w4.heap.size := World.block_lt_of_cell? _ _ S0; clear T0 T1 R0 R1 R2 R3 hb4 hb5 W20 hB3))
      have T0 := t0
      have T1 := t1
      have R0 := r0
      have R1 := r1
      have R2 := r2
      have R3 := r3
      clear t0 t1 r0 r1 r2 r3
      obtain ⟨Bs, hBB⟩ : ∃ b, w2.heap.size = b := ⟨_, rfl⟩
      simp only [hBB] at S0 S1 hBs4 z2 ⊢
      clear hBB
      generalize w4 = W0 at *
      obtain ⟨c0, c1, c2, c3, c4, c5, c6, c7⟩ := HC.out
      have d0 := (hB4.cell (p := ⟨b, off + i * 8, none⟩) hb).trans c0
      have d1 := (hB4.cell (p := ⟨b, off + i * 8 + 1, none⟩) hb).trans c1
      have d2 := (hB4.cell (p := ⟨b, off + i * 8 + 2, none⟩) hb).trans c2
      have d3 := (hB4.cell (p := ⟨b, off + i * 8 + 3, none⟩) hb).trans c3
      have d4 := (hB4.cell (p := ⟨b, off + i * 8 + 4, none⟩) hb).trans c4
      have d5 := (hB4.cell (p := ⟨b, off + i * 8 + 5, none⟩) hb).trans c5
      have d6 := (hB4.cell (p := ⟨b, off + i * 8 + 6, none⟩) hb).trans c6
      have d7 := (hB4.cell (p := ⟨b, off + i * 8 + 7, none⟩) hb).trans c7
      clear c0 c1 c2 c3 c4 c5 c6 c7
      have HX : Hid (∀ x w', Sm Bs x W0 w' → W0.heap.size ≤ w'.heap.size ∧ w'.cell? ⟨b, off + i * 8, none⟩ = some (.int .i64 (pcg L i).f0) ∧ w'.cell? ⟨b, off + i * 8 + 1, none⟩ = some (.int .i64 (pcg L i).f1) ∧ w'.cell? ⟨b, off + i * 8 + 2, none⟩ = some (.int .i64 (pcg L i).a0) ∧ w'.cell? ⟨b, off + i * 8 + 3, none⟩ = some (.int .i64 (pcg L i).a1) ∧ w'.cell? ⟨b, off + i * 8 + 4, none⟩ = some (.int .i64 (pcg L i).b0) ∧ w'.cell? ⟨b, off + i * 8 + 5, none⟩ = some (.int .i64 (pcg L i).b1) ∧ w'.cell? ⟨b, off + i * 8 + 6, none⟩ = some (.int .i64 (pcg L i).c0) ∧ w'.cell? ⟨b, off + i * 8 + 7, none⟩ = some (.int .i64 (pcg L i).c1) ∧ w'.cell? ⟨w.heap.size, 0, none⟩ = some (.int .i64 t.1) ∧ w'.cell? ⟨w.heap.size, 1, none⟩ = some (.int .i64 t.2)) := Lib.hid fun x w' h =>
        ⟨h.size, (h.other (p := ⟨b, off + i * 8, none⟩) (by simp; omega) (by simp; omega)).trans d0, (h.other (p := ⟨b, off + i * 8 + 1, none⟩) (by simp; omega) (by simp; omega)).trans d1, (h.other (p := ⟨b, off + i * 8 + 2, none⟩) (by simp; omega) (by simp; omega)).trans d2, (h.other (p := ⟨b, off + i * 8 + 3, none⟩) (by simp; omega) (by simp; omega)).trans d3, (h.other (p := ⟨b, off + i * 8 + 4, none⟩) (by simp; omega) (by simp; omega)).trans d4, (h.other (p := ⟨b, off + i * 8 + 5, none⟩) (by simp; omega) (by simp; omega)).trans d5, (h.other (p := ⟨b, off + i * 8 + 6, none⟩) (by simp; omega) (by simp; omega)).trans d6, (h.other (p := ⟨b, off + i * 8 + 7, none⟩) (by simp; omega) (by simp; omega)).trans d7, (h.other (p := ⟨w.heap.size, 0, none⟩) (by simp; omega) (by simp; omega)).trans T0, (h.other (p := ⟨w.heap.size, 1, none⟩) (by simp; omega) (by simp; omega)).trans T1⟩
      have HY : Hid (∀ x w', Sm Bs x W0 w' → w'.cell? ⟨w.heap.size + 1, 0, none⟩ = some (.int .i64 0) ∧ w'.cell? ⟨w.heap.size + 1, 1, none⟩ = some (.int .i64 0) ∧ w'.frozen? ⟨w.heap.size + 1, 0, none⟩ = false ∧ w'.frozen? ⟨w.heap.size + 1, 1, none⟩ = false) := Lib.hid fun x w' h =>
        ⟨(h.other (p := ⟨w.heap.size + 1, 0, none⟩) (by simp; omega) (by simp; omega)).trans R0, (h.other (p := ⟨w.heap.size + 1, 1, none⟩) (by simp; omega) (by simp; omega)).trans R1, (h.otherF (p := ⟨w.heap.size + 1, 0, none⟩) (by simp; omega) (by simp; omega)).trans R2, (h.otherF (p := ⟨w.heap.size + 1, 1, none⟩) (by simp; omega) (by simp; omega)).trans R3⟩
      have HZs : Hid (∀ x w', Sm Bs x W0 w' → ∀ v0 v1, (fun w' => W0.heap.size ≤ w'.heap.size ∧ w'.cell? ⟨b, off + i * 8, none⟩ = some (.int .i64 (pcg L i).f0) ∧ w'.cell? ⟨b, off + i * 8 + 1, none⟩ = some (.int .i64 (pcg L i).f1) ∧ w'.cell? ⟨b, off + i * 8 + 2, none⟩ = some (.int .i64 (pcg L i).a0) ∧ w'.cell? ⟨b, off + i * 8 + 3, none⟩ = some (.int .i64 (pcg L i).a1) ∧ w'.cell? ⟨b, off + i * 8 + 4, none⟩ = some (.int .i64 (pcg L i).b0) ∧ w'.cell? ⟨b, off + i * 8 + 5, none⟩ = some (.int .i64 (pcg L i).b1) ∧ w'.cell? ⟨b, off + i * 8 + 6, none⟩ = some (.int .i64 (pcg L i).c0) ∧ w'.cell? ⟨b, off + i * 8 + 7, none⟩ = some (.int .i64 (pcg L i).c1) ∧ w'.cell? ⟨w.heap.size, 0, none⟩ = some (.int .i64 t.1) ∧ w'.cell? ⟨w.heap.size, 1, none⟩ = some (.int .i64 t.2)) ((w'.setCell ⟨w.heap.size + 1, 0, none⟩ v0).setCell ⟨w.heap.size + 1, 1, none⟩ v1)) := Lib.hid fun x w' h v0 v1 => by
        obtain ⟨h0, h1, h2, h3, h4, h5, h6, h7, h8, h9, h10⟩ := HX.out x w' h
        refine ⟨by simpa using h0, ?_, ?_, ?_, ?_, ?_, ?_, ?_, ?_, ?_, ?_⟩
        all_goals (refine (two_other (by omega) _ _ _).trans ?_; assumption)
      have hsd : Sm Bs 0 W0 W0.drew := (Sm.refl S0 S1).drew
      clear S0 S1 T0 T1 R0 R1 R2 R3 d0 d1 d2 d3 d4 d5 d6 d7
      refine wp_region_held_drew (S := (fun w' => W0.heap.size ≤ w'.heap.size ∧ w'.cell? ⟨b, off + i * 8, none⟩ = some (.int .i64 (pcg L i).f0) ∧ w'.cell? ⟨b, off + i * 8 + 1, none⟩ = some (.int .i64 (pcg L i).f1) ∧ w'.cell? ⟨b, off + i * 8 + 2, none⟩ = some (.int .i64 (pcg L i).a0) ∧ w'.cell? ⟨b, off + i * 8 + 3, none⟩ = some (.int .i64 (pcg L i).a1) ∧ w'.cell? ⟨b, off + i * 8 + 4, none⟩ = some (.int .i64 (pcg L i).b0) ∧ w'.cell? ⟨b, off + i * 8 + 5, none⟩ = some (.int .i64 (pcg L i).b1) ∧ w'.cell? ⟨b, off + i * 8 + 6, none⟩ = some (.int .i64 (pcg L i).c0) ∧ w'.cell? ⟨b, off + i * 8 + 7, none⟩ = some (.int .i64 (pcg L i).c1) ∧ w'.cell? ⟨w.heap.size, 0, none⟩ = some (.int .i64 t.1) ∧ w'.cell? ⟨w.heap.size, 1, none⟩ = some (.int .i64 t.2))) (by kernel_rfl) (HX.out _ _ hsd) (fun hHeld => ?_)
      refine wpAnyH_take (i := 0) (oi := _) (v := ?_) rfl (by kernel_rfl) (by kernel_rfl) (by kernel_rfl) (fun _ _ _ h => h) (Or.inl ⟨by rfl, ?_⟩) (by assumption) ?_
      rotate_left
      · (intro w hSw; (try dsimp only at hSw); (try simp only [List.getElem_toArray, List.getElem_cons_zero]); go_simp; try with_reducible rfl)
      simp only [Act.put, List.setIfInBounds_toArray, List.set_cons_zero, List.set_cons_succ, List.getElem_toArray, List.getElem_cons_zero]
      refine wpAnyH_take (i := 1) (oi := _) (v := ?_) rfl (by kernel_rfl) (by kernel_rfl) (by kernel_rfl) (fun _ _ _ h => h) (Or.inl ⟨by rfl, ?_⟩) (by assumption) ?_
      rotate_left
      · (intro w hSw; (try dsimp only at hSw); (try simp only [List.getElem_toArray, List.getElem_cons_succ, List.getElem_cons_zero]); go_simp; try with_reducible rfl)
      simp only [Act.put, List.setIfInBounds_toArray, List.set_cons_zero, List.set_cons_succ, List.getElem_toArray, List.getElem_cons_succ, List.getElem_cons_zero]
      refine wpAnyH_take (i := 2) (oi := _) (v := ?_) rfl (by kernel_rfl) (by kernel_rfl) (by kernel_rfl) (fun _ _ _ h => h) (Or.inl ⟨by rfl, ?_⟩) (by assumption) ?_
      rotate_left
      · (intro w hSw; (try dsimp only at hSw); (try simp only [List.getElem_toArray, List.getElem_cons_succ, List.getElem_cons_zero]); go_simp; try with_reducible rfl)
      simp only [Act.put, List.setIfInBounds_toArray, List.set_cons_zero, List.set_cons_succ, List.getElem_toArray, List.getElem_cons_succ, List.getElem_cons_zero]
      refine wpAnyH_take (i := 3) (oi := _) (v := ?_) rfl (by kernel_rfl) (by kernel_rfl) (by kernel_rfl) (fun _ _ _ h => h) (Or.inl ⟨by rfl, ?_⟩) (by assumption) ?_
      rotate_left
      · (intro w hSw; (try dsimp only at hSw); (try simp only [List.getElem_toArray, List.getElem_cons_succ, List.getElem_cons_zero]); go_simp; try with_reducible rfl)
      simp only [Act.put, List.setIfInBounds_toArray, List.set_cons_zero, List.set_cons_succ, List.getElem_toArray, List.getElem_cons_succ, List.getElem_cons_zero]
      refine wpAnyH_take (i := 4) (oi := _) (v := ?_) rfl (by kernel_rfl) (by kernel_rfl) (by kernel_rfl) (fun _ _ _ h => h) (Or.inl ⟨by rfl, ?_⟩) (by assumption) ?_
      rotate_left
      · (intro w hSw; (try dsimp only at hSw); (try simp only [List.getElem_toArray, List.getElem_cons_succ, List.getElem_cons_zero]); go_simp; try with_reducible rfl)
      simp only [Act.put, List.setIfInBounds_toArray, List.set_cons_zero, List.set_cons_succ, List.getElem_toArray, List.getElem_cons_succ, List.getElem_cons_zero]
      refine wpAnyH_take (i := 5) (oi := _) (v := ?_) rfl (by kernel_rfl) (by kernel_rfl) (by kernel_rfl) (fun _ _ _ h => h) (Or.inl ⟨by rfl, ?_⟩) (by assumption) ?_
      rotate_left
      · (intro w hSw; (try dsimp only at hSw); (try simp only [List.getElem_toArray, List.getElem_cons_succ, List.getElem_cons_zero]); go_simp; try with_reducible rfl)
      simp only [Act.put, List.setIfInBounds_toArray, List.set_cons_zero, List.set_cons_succ, List.getElem_toArray, List.getElem_cons_succ, List.getElem_cons_zero]
      refine wpAnyH_take (i := 6) (oi := _) (v := ?_) rfl (by kernel_rfl) (by kernel_rfl) (by kernel_rfl) (fun _ _ _ h => h) (Or.inl ⟨by rfl, ?_⟩) (by assumption) ?_
      rotate_left
      · (intro w hSw; (try dsimp only at hSw); (try simp only [List.getElem_toArray, List.getElem_cons_succ, List.getElem_cons_zero]); go_simp; try with_reducible rfl)
      simp only [Act.put, List.setIfInBounds_toArray, List.set_cons_zero, List.set_cons_succ, List.getElem_toArray, List.getElem_cons_succ, List.getElem_cons_zero]
      refine wpAnyH_take (i := 7) (oi := _) (v := ?_) rfl (by kernel_rfl) (by kernel_rfl) (by kernel_rfl) (fun _ _ _ h => h) (Or.inl ⟨by rfl, ?_⟩) (by assumption) ?_
      rotate_left
      · (intro w hSw; (try dsimp only at hSw); (try simp only [List.getElem_toArray, List.getElem_cons_succ, List.getElem_cons_zero]); go_simp; try with_reducible rfl)
      simp only [Act.put, List.setIfInBounds_toArray, List.set_cons_zero, List.set_cons_succ, List.getElem_toArray, List.getElem_cons_succ, List.getElem_cons_zero]
      refine wpAnyH_take (i := 8) (oi := _) (v := ?_) rfl (by kernel_rfl) (by kernel_rfl) (by kernel_rfl) (fun _ _ _ h => h) (Or.inl ⟨by rfl, ?_⟩) (by assumption) ?_
      rotate_left
      · (intro w hSw; (try dsimp only at hSw); (try simp only [List.getElem_toArray, List.getElem_cons_succ, List.getElem_cons_zero]); go_simp; try with_reducible rfl)
      simp only [Act.put, List.setIfInBounds_toArray, List.set_cons_zero, List.set_cons_succ, List.getElem_toArray, List.getElem_cons_succ, List.getElem_cons_zero]
      refine wpAnyH_take (i := 9) (oi := _) (v := ?_) rfl (by kernel_rfl) (by kernel_rfl) (by kernel_rfl) (fun _ _ _ h => h) (Or.inl ⟨by rfl, ?_⟩) (by assumption) ?_
      rotate_left
      · (intro w hSw; (try dsimp only at hSw); (try simp only [List.getElem_toArray, List.getElem_cons_succ, List.getElem_cons_zero]); go_simp; try with_reducible rfl)
      simp only [Act.put, List.setIfInBounds_toArray, List.set_cons_zero, List.set_cons_succ, List.getElem_toArray, List.getElem_cons_succ, List.getElem_cons_zero]
      refine wpAnyH_take (i := 10) (oi := _) (v := ?_) rfl (by kernel_rfl) (by kernel_rfl) (by kernel_rfl) (fun _ _ _ h => h) (Or.inl ⟨by rfl, ?_⟩) (by assumption) ?_
      rotate_left
      · (intro w hSw; (try dsimp only at hSw); (try simp only [List.getElem_toArray, List.getElem_cons_succ, List.getElem_cons_zero]); go_simp; try with_reducible rfl)
      simp only [Act.put, List.setIfInBounds_toArray, List.set_cons_zero, List.set_cons_succ, List.getElem_toArray, List.getElem_cons_succ, List.getElem_cons_zero]
      refine wpAnyH_take (i := 11) (oi := _) (v := ?_) rfl (by kernel_rfl) (by kernel_rfl) (by kernel_rfl) (fun _ _ _ h => h) (Or.inl ⟨by rfl, ?_⟩) (by assumption) ?_
      rotate_left
      · (intro w hSw; (try dsimp only at hSw); (try simp only [List.getElem_toArray, List.getElem_cons_succ, List.getElem_cons_zero]); go_simp; try with_reducible rfl)
      simp only [Act.put, List.setIfInBounds_toArray, List.set_cons_zero, List.set_cons_succ, List.getElem_toArray, List.getElem_cons_succ, List.getElem_cons_zero]
      refine wpAnyH_take (i := 12) (oi := _) (v := ?_) rfl (by kernel_rfl) (by kernel_rfl) (by kernel_rfl) (fun _ _ _ h => h) (Or.inl ⟨by rfl, ?_⟩) (by assumption) ?_
      rotate_left
      · (intro w hSw; (try dsimp only at hSw); (try simp only [List.getElem_toArray, List.getElem_cons_succ, List.getElem_cons_zero]); go_simp; try with_reducible rfl)
      simp only [Act.put, List.setIfInBounds_toArray, List.set_cons_zero, List.set_cons_succ, List.getElem_toArray, List.getElem_cons_succ, List.getElem_cons_zero]
      refine wpAnyH_ready (rs := [13]) (by kernel_rfl) (by simp) ?_
      refine AllReadyH.cons (o := _) rfl (fun K hK => ?_) AllReadyH.nil
      try simp only [List.getElem_toArray, List.getElem_cons_succ, List.getElem_cons_zero]
      go_simp
      (go_at_call 61; go_split_ands; (with_reducible refine (HC1.out _ _ hsd.cell hsd.free).mono ?_); rintro z w5 ⟨rfl, ht1⟩; have hs1 := hsd.trans ht1)
      go_wp2_with fail
      refine hK.out _ _ (HX.out _ _ hs1) (fun hHeld => ?_)
      clear hK K
      try simp only [Act.put, List.setIfInBounds_toArray, List.set_cons_zero, List.set_cons_succ, List.getElem_toArray, List.getElem_cons_succ, List.getElem_cons_zero]
      refine wpAnyH_ready (rs := [14]) (by kernel_rfl) (by simp) ?_
      refine AllReadyH.cons (o := _) rfl (fun K hK => ?_) AllReadyH.nil
      try simp only [List.getElem_toArray, List.getElem_cons_succ, List.getElem_cons_zero]
      go_simp
      (go_at_call 60; go_split_ands; (with_reducible refine (HC2.out _ _ hs1.cell hs1.free).mono ?_); rintro z w6 ⟨rfl, ht2⟩; have hs2 := hs1.trans ht2)
      go_wp2_with fail
      refine hK.out _ _ (HX.out _ _ hs2) (fun hHeld => ?_)
      clear hK K
      try simp only [Act.put, List.setIfInBounds_toArray, List.set_cons_zero, List.set_cons_succ, List.getElem_toArray, List.getElem_cons_succ, List.getElem_cons_zero]
      refine wpAnyH_ready (rs := [15]) (by kernel_rfl) (by simp) ?_
      refine AllReadyH.cons (o := _) rfl (fun K hK => ?_) AllReadyH.nil
      try simp only [List.getElem_toArray, List.getElem_cons_succ, List.getElem_cons_zero]
      go_simp
      (go_at_call 59; go_split_ands; (with_reducible refine (HC3.out _ _ hs2.cell).mono ?_); rintro z w7 ⟨rfl, hb7⟩; have hs3 := hs2.then hb7)
      go_wp2_with fail
      refine hK.out _ _ (HX.out _ _ hs3) (fun hHeld => ?_)
      clear hK K
      try simp only [Act.put, List.setIfInBounds_toArray, List.set_cons_zero, List.set_cons_succ, List.getElem_toArray, List.getElem_cons_succ, List.getElem_cons_zero]
      refine wpAnyH_take (i := 16) (oi := _) (v := ?_) rfl (by kernel_rfl) (by kernel_rfl) (by kernel_rfl) (fun _ _ _ h => h) (Or.inl ⟨by rfl, ?_⟩) (by assumption) ?_
      rotate_left
      · (intro w hSw; (try dsimp only at hSw); (try simp only [List.getElem_toArray, List.getElem_cons_succ, List.getElem_cons_zero]); go_simp; try with_reducible rfl)
      simp only [Act.put, List.setIfInBounds_toArray, List.set_cons_zero, List.set_cons_succ, List.getElem_toArray, List.getElem_cons_succ, List.getElem_cons_zero]
      refine wpAnyH_take (i := 17) (oi := _) (v := ?_) rfl (by kernel_rfl) (by kernel_rfl) (by kernel_rfl) (fun _ _ _ h => h) (Or.inl ⟨by rfl, ?_⟩) (by assumption) ?_
      rotate_left
      · (intro w hSw; (try dsimp only at hSw); (try simp only [List.getElem_toArray, List.getElem_cons_succ, List.getElem_cons_zero]); go_simp; try with_reducible rfl)
      simp only [Act.put, List.setIfInBounds_toArray, List.set_cons_zero, List.set_cons_succ, List.getElem_toArray, List.getElem_cons_succ, List.getElem_cons_zero]
      refine wpAnyH_ready (rs := [18]) (by kernel_rfl) (by simp) ?_
      refine AllReadyH.cons (o := _) rfl (fun K hK => ?_) AllReadyH.nil
      go_split_ands
      obtain ⟨g0, g1, g2, g3⟩ := HY.out _ _ hs3
      try simp only [List.getElem_toArray, List.getElem_cons_succ, List.getElem_cons_zero]
      go_wp2_with fail
      refine hK.out _ _ (HZs.out _ _ hs3 _ _) (fun hHeld => ?_)
      clear hK K
      try simp only [Act.put, List.setIfInBounds_toArray, List.set_cons_zero, List.set_cons_succ, List.getElem_toArray, List.getElem_cons_succ, List.getElem_cons_zero]
      refine wpAnyH_take (i := 19) (oi := _) (v := ?_) rfl (by kernel_rfl) (by kernel_rfl) (by kernel_rfl) (fun _ _ _ h => h) (Or.inl ⟨by rfl, ?_⟩) (by assumption) ?_
      rotate_left
      · (intro w hSw; (try dsimp only at hSw); (try simp only [List.getElem_toArray, List.getElem_cons_succ, List.getElem_cons_zero]); go_simp; try with_reducible rfl)
      simp only [Act.put, List.setIfInBounds_toArray, List.set_cons_zero, List.set_cons_succ, List.getElem_toArray, List.getElem_cons_succ, List.getElem_cons_zero]
      refine wpAnyH_done (by kernel_rfl) ?_ _
      go_wp2_with fail
      have l0 := (two_cells (v0 := .int .i64 q1) (v1 := .int .i64 q2) g0 g1).1
      have l1 := (two_cells (v0 := .int .i64 q1) (v1 := .int .i64 q2) g0 g1).2
      refine bodyPost_ret (v := .tuple #[.agg #[.int .i64 q1, .int .i64 q2], .int .i64 K2.2]) (by simp [results, Try.results31, go_sem, l0, l1]) rfl ⟨rfl, ?_⟩
      have hB5 := hB4.trans (hs3.below (n := w.heap.size) (by omega) (by omega))
      exact (hB5.setCell (p := ⟨w.heap.size + 1, 0, none⟩) (Nat.le_succ _) _).setCell (p := ⟨w.heap.size + 1, 1, none⟩) (Nat.le_succ _) _
set_option maxRecDepth 100000 in
set_option maxHeartbeats 8000000 in
theorem qslopeAt_any (L : List Pc) (ok : CurveOK L) (t : Int × Int) (a : Option Addr) (c : Nat) (w : World) (hL : Pcs w.heap.size w a L) :
    Calls Try.prog 37 #[.slice a L.length c, .agg #[.int .i64 t.1, .int .i64 t.2]] w fun e w' => e = .returned (.tuple #[.agg #[.int .i64 (slopeP L t).1, .int .i64 (slopeP L t).2.1], .int .i64 (slopeP L t).2.2]) ∧ Below w.heap.size w w' := by
  have hpos := ok.pos
  have hlen := ok.len
  have hL0 : Pcs ((w.alloc (.cells #[.int .i64 t.1, .int .i64 t.2] 39)).alloc (.cells #[.int .i64 0, .int .i64 0] 39)).heap.size ((w.alloc (.cells #[.int .i64 t.1, .int .i64 t.2] 39)).alloc (.cells #[.int .i64 0, .int .i64 0] 39)) a L := hL.grow ((below_new _ _).alloc (by simp) _)
  have HV := Lib.hid (fun c w h => qvalid_yes L ok a c w h)
  have HOK := Lib.hid ok
  have HL := Lib.hid hL
  obtain ⟨Z, hZ⟩ : ∃ Z, slopeP L t = Z := ⟨_, rfl⟩
  rw [hZ]
  have HZ := Lib.hid hZ
  clear ok hL hZ
  by_cases vt : vF t = true
  case neg =>
    have HVT : Hid (validF t.1 t.2 = false) := Lib.hid (by have := Bool.not_eq_true _ ▸ vt; exact this)
    have HR : Hid (Z = (0, 0, 1)) := Lib.hid (by rw [← HZ.out]; unfold slopeP; rw [if_neg vt])
    rw [HR.out]
    clear vt
    go_enter Try.func37, Try.ntmps37
    go_wp2_with (first
      | (go_at_call 56; (with_reducible refine (HV.out _ _ ?_).mono ?_); (next => exact hL0); rintro e w1 ⟨rfl, hb1⟩; have t0 : w1.cell? ⟨w.heap.size, 0, none⟩ = some (.int .i64 t.1) := (hb1.cell (p := ⟨w.heap.size, 0, none⟩) (by simp <;> omega)).trans (by simp [go_sem, World.cell?_alloc_past]); have t1 : w1.cell? ⟨w.heap.size, 1, none⟩ = some (.int .i64 t.2) := (hb1.cell (p := ⟨w.heap.size, 1, none⟩) (by simp <;> omega)).trans (by simp [go_sem, World.cell?_alloc_past]); have r0 : w1.cell? ⟨w.heap.size + 1, 0, none⟩ = some (.int .i64 0) := (hb1.cell (p := ⟨w.heap.size + 1, 0, none⟩) (by simp <;> omega)).trans (by simp [go_sem]); have r1 : w1.cell? ⟨w.heap.size + 1, 1, none⟩ = some (.int .i64 0) := (hb1.cell (p := ⟨w.heap.size + 1, 1, none⟩) (by simp <;> omega)).trans (by simp [go_sem]); have r2 : w1.frozen? ⟨w.heap.size + 1, 0, none⟩ = false := (hb1.frozen (p := ⟨w.heap.size + 1, 0, none⟩) (by simp <;> omega)).trans (by simp [go_sem]); have r3 : w1.frozen? ⟨w.heap.size + 1, 1, none⟩ = false := (hb1.frozen (p := ⟨w.heap.size + 1, 1, none⟩) (by simp <;> omega)).trans (by simp [go_sem]); have hB1 : Below w.heap.size w w1 := ((below_new w (.cells #[.int .i64 t.1, .int .i64 t.2] 39)).alloc (by simp) (.cells #[.int .i64 0, .int .i64 0] 39)).trans (hb1.mono (by simp <;> omega)); have z1 := World.block_lt_of_cell? _ _ r0; simp only at z1)
      | (go_at_call 57; (with_reducible refine (valid_any t.1 t.2 _).mono ?_); rintro e w2 ⟨rfl, hb2⟩; rw [HVT.out]; have hB2 := hB1.trans (hb2.mono hB1.size); have T0 := (hb2.cell (p := ⟨w.heap.size, 0, none⟩) (by simp; omega)).trans t0; have T1 := (hb2.cell (p := ⟨w.heap.size, 1, none⟩) (by simp; omega)).trans t1; have R0 := (hb2.cell (p := ⟨w.heap.size + 1, 0, none⟩) z1).trans r0; have R1 := (hb2.cell (p := ⟨w.heap.size + 1, 1, none⟩) z1).trans r1; have R2 := (hb2.frozen (p := ⟨w.heap.size + 1, 0, none⟩) z1).trans r2; have R3 := (hb2.frozen (p := ⟨w.heap.size + 1, 1, none⟩) z1).trans r3; have z2 := World.block_lt_of_cell? _ _ R0; simp only at z2; have zz : w.heap.size < w2.heap.size := (by omega); clear t0 t1 r0 r1 r2 r3 hb1 hb2))
    have l0 := (two_cells (v0 := .int .i64 0) (v1 := .int .i64 0) R0 R1).1
    have l1 := (two_cells (v0 := .int .i64 0) (v1 := .int .i64 0) R0 R1).2
    refine bodyPost_ret (v := .tuple #[.agg #[.int .i64 0, .int .i64 0], .int .i64 1]) (by simp [results, Try.results37, go_sem, l0, l1]) rfl ⟨rfl, ?_⟩
    exact (hB2.setCell (p := ⟨w.heap.size + 1, 0, none⟩) (Nat.le_succ _) _).setCell (p := ⟨w.heap.size + 1, 1, none⟩) (Nat.le_succ _) _
  case pos =>
    have HVT : Hid (validF t.1 t.2 = true) := Lib.hid vt
    have HTT := Lib.hid vt
    have HZ2 : Hid (Z = if pieceN L t L.length < 0 then (0, 1, 0) else slopeAt L t (pieceN L t L.length).toNat) := Lib.hid (by rw [← HZ.out]; unfold slopeP; rw [if_pos vt])
    clear vt HZ
    obtain ⟨kI, hk⟩ : ∃ k, pieceN L t L.length = k := ⟨_, rfl⟩
    have hkr := pieceN_range L t L.length
    rw [hk] at hkr
    have HK := Lib.hid hk
    rw [hk] at HZ2
    clear hk
    by_cases neg : kI < 0
    · have g : decide (kI < 0) = true := decide_eq_true neg
      rw [if_pos neg] at HZ2
      rw [HZ2.out]
      clear neg
      go_enter Try.func37, Try.ntmps37
      go_wp2_with (first
        | (go_at_call 56; (with_reducible refine (HV.out _ _ ?_).mono ?_); (next => exact hL0); rintro e w1 ⟨rfl, hb1⟩; have t0 : w1.cell? ⟨w.heap.size, 0, none⟩ = some (.int .i64 t.1) := (hb1.cell (p := ⟨w.heap.size, 0, none⟩) (by simp <;> omega)).trans (by simp [go_sem, World.cell?_alloc_past]); have t1 : w1.cell? ⟨w.heap.size, 1, none⟩ = some (.int .i64 t.2) := (hb1.cell (p := ⟨w.heap.size, 1, none⟩) (by simp <;> omega)).trans (by simp [go_sem, World.cell?_alloc_past]); have r0 : w1.cell? ⟨w.heap.size + 1, 0, none⟩ = some (.int .i64 0) := (hb1.cell (p := ⟨w.heap.size + 1, 0, none⟩) (by simp <;> omega)).trans (by simp [go_sem]); have r1 : w1.cell? ⟨w.heap.size + 1, 1, none⟩ = some (.int .i64 0) := (hb1.cell (p := ⟨w.heap.size + 1, 1, none⟩) (by simp <;> omega)).trans (by simp [go_sem]); have r2 : w1.frozen? ⟨w.heap.size + 1, 0, none⟩ = false := (hb1.frozen (p := ⟨w.heap.size + 1, 0, none⟩) (by simp <;> omega)).trans (by simp [go_sem]); have r3 : w1.frozen? ⟨w.heap.size + 1, 1, none⟩ = false := (hb1.frozen (p := ⟨w.heap.size + 1, 1, none⟩) (by simp <;> omega)).trans (by simp [go_sem]); have hB1 : Below w.heap.size w w1 := ((below_new w (.cells #[.int .i64 t.1, .int .i64 t.2] 39)).alloc (by simp) (.cells #[.int .i64 0, .int .i64 0] 39)).trans (hb1.mono (by simp <;> omega)); have z1 := World.block_lt_of_cell? _ _ r0; simp only at z1)
        | (go_at_call 57; (with_reducible refine (valid_any t.1 t.2 _).mono ?_); rintro e w2 ⟨rfl, hb2⟩; rw [HVT.out]; have hB2 := hB1.trans (hb2.mono hB1.size); have T0 := (hb2.cell (p := ⟨w.heap.size, 0, none⟩) (by simp; omega)).trans t0; have T1 := (hb2.cell (p := ⟨w.heap.size, 1, none⟩) (by simp; omega)).trans t1; have R0 := (hb2.cell (p := ⟨w.heap.size + 1, 0, none⟩) z1).trans r0; have R1 := (hb2.cell (p := ⟨w.heap.size + 1, 1, none⟩) z1).trans r1; have R2 := (hb2.frozen (p := ⟨w.heap.size + 1, 0, none⟩) z1).trans r2; have R3 := (hb2.frozen (p := ⟨w.heap.size + 1, 1, none⟩) z1).trans r3; have z2 := World.block_lt_of_cell? _ _ R0; simp only at z2; have zz : w.heap.size < w2.heap.size := (by omega); clear t0 t1 r0 r1 r2 r3 hb1 hb2)
        | (go_at_call 58; have W20 : Below w2.heap.size w2 (w2.alloc (.cells #[.int .i64 0] 83)) := below_new _ _; have hB3 := hB2.trans (W20.mono hB2.size); (with_reducible refine (piece_any L HOK.out t HTT.out a c _ (HL.out.grow hB3)).mono ?_); rw [HK.out]; rintro e w4 ⟨rfl, hb4⟩; have hB4 := hB3.trans (hb4.mono hB3.size); have hb5 := W20.trans (hb4.mono W20.size); have S0 : w4.cell? ⟨w2.heap.size, 0, none⟩ = some (.int .i64 0) := (hb4.cell (p := ⟨w2.heap.size, 0, none⟩) (by simp)).trans (by simp); have S1 : w4.frozen? ⟨w2.heap.size, 0, none⟩ = false := (hb4.frozen (p := ⟨w2.heap.size, 0, none⟩) (by simp)).trans (by simp); have t0 := (hb5.cell (p := ⟨w.heap.size, 0, none⟩) (by simp; omega)).trans T0; have t1 := (hb5.cell (p := ⟨w.heap.size, 1, none⟩) (by simp; omega)).trans T1; have r0 := (hb5.cell (p := ⟨w.heap.size + 1, 0, none⟩) z2).trans R0; have r1 := (hb5.cell (p := ⟨w.heap.size + 1, 1, none⟩) z2).trans R1; have r2 := (hb5.frozen (p := ⟨w.heap.size + 1, 0, none⟩) z2).trans R2; have r3 := (hb5.frozen (p := ⟨w.heap.size + 1, 1, none⟩) z2).trans R3; have hBs4 : w2.heap.size < w4.heap.size := World.block_lt_of_cell? _ _ S0; clear T0 T1 R0 R1 R2 R3 hb4 hb5 W20 hB3)
        | (go_at_call 70; (with_reducible refine (qzero_any _).mono ?_); rintro x w5 ⟨rfl, hb5⟩; have R0 := (hb5.cell (p := ⟨w.heap.size + 1, 0, none⟩) (by simp; omega)).trans r0; have R1 := (hb5.cell (p := ⟨w.heap.size + 1, 1, none⟩) (by simp; omega)).trans r1; have R2 := (hb5.frozen (p := ⟨w.heap.size + 1, 0, none⟩) (by simp; omega)).trans r2; have R3 := (hb5.frozen (p := ⟨w.heap.size + 1, 1, none⟩) (by simp; omega)).trans r3))
      have l0 := (two_cells (v0 := .int .i64 0) (v1 := .int .i64 1) R0 R1).1
      have l1 := (two_cells (v0 := .int .i64 0) (v1 := .int .i64 1) R0 R1).2
      refine bodyPost_ret (v := .tuple #[.agg #[.int .i64 0, .int .i64 1], .int .i64 0]) (by simp [results, Try.results37, go_sem, l0, l1]) rfl ⟨rfl, ?_⟩
      have hB5 := hB4.trans (hb5.mono hB4.size)
      exact (hB5.setCell (p := ⟨w.heap.size + 1, 0, none⟩) (Nat.le_succ _) _).setCell (p := ⟨w.heap.size + 1, 1, none⟩) (Nat.le_succ _) _
    · have g : decide (kI < 0) = false := decide_eq_false neg
      rw [if_neg neg] at HZ2
      obtain ⟨i, rfl⟩ := Int.eq_ofNat_of_zero_le (show 0 ≤ kI by omega)
      rw [Int.toNat_natCast] at HZ2
      have hi : i < L.length := by omega
      have hi1 : (i : Int) < (L.length : Int) := by omega
      have hi0 : (0 : Int) ≤ (i : Int) := by omega
      have hok := HOK.out.val i hi
      have VF : vF ((pcg L i).f0, (pcg L i).f1) = true := hok.f
      have VA : vF ((pcg L i).a0, (pcg L i).a1) = true := hok.a
      have VB : vF ((pcg L i).b0, (pcg L i).b1) = true := hok.b
      have VC : vF ((pcg L i).c0, (pcg L i).c1) = true := hok.c
      obtain ⟨K1, hK1⟩ : ∃ K, kSub 0 t ((pcg L i).f0, (pcg L i).f1) = K := ⟨_, rfl⟩
      have V1 : vF K1.1 = true := by rw [← hK1]; exact kSub_valid HTT.out VF
      have HC1 : Hid (∀ (Bs : Nat) (w : World), w.cell? ⟨Bs, 0, none⟩ = some (.int .i64 0) → w.frozen? ⟨Bs, 0, none⟩ = false → Calls Try.prog 61 #[.pointer (some ⟨Bs, 0, none⟩), .agg #[.int .i64 t.1, .int .i64 t.2], .agg #[.int .i64 (pcg L i).f0, .int .i64 (pcg L i).f1]] w fun z w' => z = .returned (.agg #[.int .i64 K1.1.1, .int .i64 K1.1.2]) ∧ Sm Bs K1.2 w w') := Lib.hid fun Bs w h0 h1 => by
        have := ksub_any Bs 0 t ((pcg L i).f0, (pcg L i).f1) HTT.out VF w h0 h1
        rwa [hK1] at this
      obtain ⟨K2, hK2⟩ : ∃ K, kSlope K1.2 ((pcg L i).b0, (pcg L i).b1) ((pcg L i).c0, (pcg L i).c1) K1.1 = K := ⟨_, rfl⟩
      have HC2 : Hid (∀ (Bs : Nat) (w : World), w.cell? ⟨Bs, 0, none⟩ = some (.int .i64 K1.2) → w.frozen? ⟨Bs, 0, none⟩ = false → Calls Try.prog 71 #[.pointer (some ⟨Bs, 0, none⟩), .agg #[.int .i64 (pcg L i).f0, .int .i64 (pcg L i).f1, .int .i64 (pcg L i).a0, .int .i64 (pcg L i).a1, .int .i64 (pcg L i).b0, .int .i64 (pcg L i).b1, .int .i64 (pcg L i).c0, .int .i64 (pcg L i).c1], .agg #[.int .i64 K1.1.1, .int .i64 K1.1.2]] w fun z w' => z = .returned (.agg #[.int .i64 K2.1.1, .int .i64 K2.1.2]) ∧ Sm Bs K2.2 w w') := Lib.hid fun Bs w h0 h1 => by
        have := qslope_any Bs K1.2 ((pcg L i).f0, (pcg L i).f1) ((pcg L i).a0, (pcg L i).a1) ((pcg L i).b0, (pcg L i).b1) ((pcg L i).c0, (pcg L i).c1) K1.1 VB VC V1 w h0 h1
        rwa [hK2] at this
      have HR : Hid (Z = (if K2.2 = 0 then K2.1.1 else 0, if K2.2 = 0 then K2.1.2 else 0, K2.2)) := Lib.hid (by rw [HZ2.out]; unfold slopeAt; simp only [hK1, hK2]; rfl)
      obtain ⟨q1, hq1⟩ : ∃ q, (if K2.2 = 0 then K2.1.1 else 0) = q := ⟨_, rfl⟩
      obtain ⟨q2, hq2⟩ : ∃ q, (if K2.2 = 0 then K2.1.2 else 0) = q := ⟨_, rfl⟩
      have HC3 : Hid (∀ (Bs : Nat) (w : World), w.cell? ⟨Bs, 0, none⟩ = some (.int .i64 K2.2) → Calls Try.prog 59 #[.pointer (some ⟨Bs, 0, none⟩), .agg #[.int .i64 K2.1.1, .int .i64 K2.1.2]] w fun z w' => z = .returned (.tuple #[.agg #[.int .i64 q1, .int .i64 q2], .int .i64 K2.2]) ∧ Below w.heap.size w w') := Lib.hid fun Bs w h0 => by
        have := qresult_any Bs K2.2 K2.1 w h0
        rwa [hq1, hq2] at this
      rw [hq1, hq2] at HR
      rw [HR.out]
      clear hq1 hq2 hK1 hK2 V1 VF VA VB VC hok HZ2 neg
      obtain ⟨b, off, rfl, hb, hc⟩ := HL.out (by omega)
      obtain ⟨c0, c1, c2, c3, c4, c5, c6, c7⟩ := hc i hi
      have HC := Lib.hid (hc i hi)
      clear hc c0 c1 c2 c3 c4 c5 c6 c7
      go_enter Try.func37, Try.ntmps37
      go_upto_region 7 with (first
        | (go_at_call 56; (with_reducible refine (HV.out _ _ ?_).mono ?_); (next => exact hL0); rintro e w1 ⟨rfl, hb1⟩; have t0 : w1.cell? ⟨w.heap.size, 0, none⟩ = some (.int .i64 t.1) := (hb1.cell (p := ⟨w.heap.size, 0, none⟩) (by simp <;> omega)).trans (by simp [go_sem, World.cell?_alloc_past]); have t1 : w1.cell? ⟨w.heap.size, 1, none⟩ = some (.int .i64 t.2) := (hb1.cell (p := ⟨w.heap.size, 1, none⟩) (by simp <;> omega)).trans (by simp [go_sem, World.cell?_alloc_past]); have r0 : w1.cell? ⟨w.heap.size + 1, 0, none⟩ = some (.int .i64 0) := (hb1.cell (p := ⟨w.heap.size + 1, 0, none⟩) (by simp <;> omega)).trans (by simp [go_sem]); have r1 : w1.cell? ⟨w.heap.size + 1, 1, none⟩ = some (.int .i64 0) := (hb1.cell (p := ⟨w.heap.size + 1, 1, none⟩) (by simp <;> omega)).trans (by simp [go_sem]); have r2 : w1.frozen? ⟨w.heap.size + 1, 0, none⟩ = false := (hb1.frozen (p := ⟨w.heap.size + 1, 0, none⟩) (by simp <;> omega)).trans (by simp [go_sem]); have r3 : w1.frozen? ⟨w.heap.size + 1, 1, none⟩ = false := (hb1.frozen (p := ⟨w.heap.size + 1, 1, none⟩) (by simp <;> omega)).trans (by simp [go_sem]); have hB1 : Below w.heap.size w w1 := ((below_new w (.cells #[.int .i64 t.1, .int .i64 t.2] 39)).alloc (by simp) (.cells #[.int .i64 0, .int .i64 0] 39)).trans (hb1.mono (by simp <;> omega)); have z1 := World.block_lt_of_cell? _ _ r0; simp only at z1)
        | (go_at_call 57; (with_reducible refine (valid_any t.1 t.2 _).mono ?_); rintro e w2 ⟨rfl, hb2⟩; rw [HVT.out]; have hB2 := hB1.trans (hb2.mono hB1.size); have T0 := (hb2.cell (p := ⟨w.heap.size, 0, none⟩) (by simp; omega)).trans t0; have T1 := (hb2.cell (p := ⟨w.heap.size, 1, none⟩) (by simp; omega)).trans t1; have R0 := (hb2.cell (p := ⟨w.heap.size + 1, 0, none⟩) z1).trans r0; have R1 := (hb2.cell (p := ⟨w.heap.size + 1, 1, none⟩) z1).trans r1; have R2 := (hb2.frozen (p := ⟨w.heap.size + 1, 0, none⟩) z1).trans r2; have R3 := (hb2.frozen (p := ⟨w.heap.size + 1, 1, none⟩) z1).trans r3; have z2 := World.block_lt_of_cell? _ _ R0; simp only at z2; have zz : w.heap.size < w2.heap.size := (by omega); clear t0 t1 r0 r1 r2 r3 hb1 hb2)
        | (go_at_call 58; have W20 : Below w2.heap.size w2 (w2.alloc (.cells #[.int .i64 0] 83)) := below_new _ _; have hB3 := hB2.trans (W20.mono hB2.size); (with_reducible refine (piece_any L HOK.out t HTT.out (some ⟨b, off, none⟩) c _ (HL.out.grow hB3)).mono ?_); rw [HK.out]; rintro e w4 ⟨rfl, hb4⟩; have hB4 := hB3.trans (hb4.mono hB3.size); have hb5 := W20.trans (hb4.mono W20.size); have S0 : w4.cell? ⟨w2.heap.size, 0, none⟩ = some (.int .i64 0) := (hb4.cell (p := ⟨w2.heap.size, 0, none⟩) (by simp)).trans (by simp); have S1 : w4.frozen? ⟨w2.heap.size, 0, none⟩ = false := (hb4.frozen (p := ⟨w2.heap.size, 0, none⟩) (by simp)).trans (by simp); have t0 := (hb5.cell (p := ⟨w.heap.size, 0, none⟩) (by simp; omega)).trans T0; have t1 := (hb5.cell (p := ⟨w.heap.size, 1, none⟩) (by simp; omega)).trans T1; have r0 := (hb5.cell (p := ⟨w.heap.size + 1, 0, none⟩) z2).trans R0; have r1 := (hb5.cell (p := ⟨w.heap.size + 1, 1, none⟩) z2).trans R1; have r2 := (hb5.frozen (p := ⟨w.heap.size + 1, 0, none⟩) z2).trans R2; have r3 := (hb5.frozen (p := ⟨w.heap.size + 1, 1, none⟩) z2).trans R3; have hBs4 : w2.heap.size < w4.heap.size := World.block_lt_of_cell? _ _ S0; clear T0 T1 R0 R1 R2 R3 hb4 hb5 W20 hB3))
      have T0 := t0
      have T1 := t1
      have R0 := r0
      have R1 := r1
      have R2 := r2
      have R3 := r3
      clear t0 t1 r0 r1 r2 r3
      obtain ⟨Bs, hBB⟩ : ∃ b, w2.heap.size = b := ⟨_, rfl⟩
      simp only [hBB] at S0 S1 hBs4 z2 ⊢
      clear hBB
      generalize w4 = W0 at *
      obtain ⟨c0, c1, c2, c3, c4, c5, c6, c7⟩ := HC.out
      have d0 := (hB4.cell (p := ⟨b, off + i * 8, none⟩) hb).trans c0
      have d1 := (hB4.cell (p := ⟨b, off + i * 8 + 1, none⟩) hb).trans c1
      have d2 := (hB4.cell (p := ⟨b, off + i * 8 + 2, none⟩) hb).trans c2
      have d3 := (hB4.cell (p := ⟨b, off + i * 8 + 3, none⟩) hb).trans c3
      have d4 := (hB4.cell (p := ⟨b, off + i * 8 + 4, none⟩) hb).trans c4
      have d5 := (hB4.cell (p := ⟨b, off + i * 8 + 5, none⟩) hb).trans c5
      have d6 := (hB4.cell (p := ⟨b, off + i * 8 + 6, none⟩) hb).trans c6
      have d7 := (hB4.cell (p := ⟨b, off + i * 8 + 7, none⟩) hb).trans c7
      clear c0 c1 c2 c3 c4 c5 c6 c7
      have HX : Hid (∀ x w', Sm Bs x W0 w' → W0.heap.size ≤ w'.heap.size ∧ w'.cell? ⟨b, off + i * 8, none⟩ = some (.int .i64 (pcg L i).f0) ∧ w'.cell? ⟨b, off + i * 8 + 1, none⟩ = some (.int .i64 (pcg L i).f1) ∧ w'.cell? ⟨b, off + i * 8 + 2, none⟩ = some (.int .i64 (pcg L i).a0) ∧ w'.cell? ⟨b, off + i * 8 + 3, none⟩ = some (.int .i64 (pcg L i).a1) ∧ w'.cell? ⟨b, off + i * 8 + 4, none⟩ = some (.int .i64 (pcg L i).b0) ∧ w'.cell? ⟨b, off + i * 8 + 5, none⟩ = some (.int .i64 (pcg L i).b1) ∧ w'.cell? ⟨b, off + i * 8 + 6, none⟩ = some (.int .i64 (pcg L i).c0) ∧ w'.cell? ⟨b, off + i * 8 + 7, none⟩ = some (.int .i64 (pcg L i).c1) ∧ w'.cell? ⟨w.heap.size, 0, none⟩ = some (.int .i64 t.1) ∧ w'.cell? ⟨w.heap.size, 1, none⟩ = some (.int .i64 t.2)) := Lib.hid fun x w' h =>
        ⟨h.size, (h.other (p := ⟨b, off + i * 8, none⟩) (by simp; omega) (by simp; omega)).trans d0, (h.other (p := ⟨b, off + i * 8 + 1, none⟩) (by simp; omega) (by simp; omega)).trans d1, (h.other (p := ⟨b, off + i * 8 + 2, none⟩) (by simp; omega) (by simp; omega)).trans d2, (h.other (p := ⟨b, off + i * 8 + 3, none⟩) (by simp; omega) (by simp; omega)).trans d3, (h.other (p := ⟨b, off + i * 8 + 4, none⟩) (by simp; omega) (by simp; omega)).trans d4, (h.other (p := ⟨b, off + i * 8 + 5, none⟩) (by simp; omega) (by simp; omega)).trans d5, (h.other (p := ⟨b, off + i * 8 + 6, none⟩) (by simp; omega) (by simp; omega)).trans d6, (h.other (p := ⟨b, off + i * 8 + 7, none⟩) (by simp; omega) (by simp; omega)).trans d7, (h.other (p := ⟨w.heap.size, 0, none⟩) (by simp; omega) (by simp; omega)).trans T0, (h.other (p := ⟨w.heap.size, 1, none⟩) (by simp; omega) (by simp; omega)).trans T1⟩
      have HY : Hid (∀ x w', Sm Bs x W0 w' → w'.cell? ⟨w.heap.size + 1, 0, none⟩ = some (.int .i64 0) ∧ w'.cell? ⟨w.heap.size + 1, 1, none⟩ = some (.int .i64 0) ∧ w'.frozen? ⟨w.heap.size + 1, 0, none⟩ = false ∧ w'.frozen? ⟨w.heap.size + 1, 1, none⟩ = false) := Lib.hid fun x w' h =>
        ⟨(h.other (p := ⟨w.heap.size + 1, 0, none⟩) (by simp; omega) (by simp; omega)).trans R0, (h.other (p := ⟨w.heap.size + 1, 1, none⟩) (by simp; omega) (by simp; omega)).trans R1, (h.otherF (p := ⟨w.heap.size + 1, 0, none⟩) (by simp; omega) (by simp; omega)).trans R2, (h.otherF (p := ⟨w.heap.size + 1, 1, none⟩) (by simp; omega) (by simp; omega)).trans R3⟩
      have HZs : Hid (∀ x w', Sm Bs x W0 w' → ∀ v0 v1, (fun w' => W0.heap.size ≤ w'.heap.size ∧ w'.cell? ⟨b, off + i * 8, none⟩ = some (.int .i64 (pcg L i).f0) ∧ w'.cell? ⟨b, off + i * 8 + 1, none⟩ = some (.int .i64 (pcg L i).f1) ∧ w'.cell? ⟨b, off + i * 8 + 2, none⟩ = some (.int .i64 (pcg L i).a0) ∧ w'.cell? ⟨b, off + i * 8 + 3, none⟩ = some (.int .i64 (pcg L i).a1) ∧ w'.cell? ⟨b, off + i * 8 + 4, none⟩ = some (.int .i64 (pcg L i).b0) ∧ w'.cell? ⟨b, off + i * 8 + 5, none⟩ = some (.int .i64 (pcg L i).b1) ∧ w'.cell? ⟨b, off + i * 8 + 6, none⟩ = some (.int .i64 (pcg L i).c0) ∧ w'.cell? ⟨b, off + i * 8 + 7, none⟩ = some (.int .i64 (pcg L i).c1) ∧ w'.cell? ⟨w.heap.size, 0, none⟩ = some (.int .i64 t.1) ∧ w'.cell? ⟨w.heap.size, 1, none⟩ = some (.int .i64 t.2)) ((w'.setCell ⟨w.heap.size + 1, 0, none⟩ v0).setCell ⟨w.heap.size + 1, 1, none⟩ v1)) := Lib.hid fun x w' h v0 v1 => by
        obtain ⟨h0, h1, h2, h3, h4, h5, h6, h7, h8, h9, h10⟩ := HX.out x w' h
        refine ⟨by simpa using h0, ?_, ?_, ?_, ?_, ?_, ?_, ?_, ?_, ?_, ?_⟩
        all_goals (refine (two_other (by omega) _ _ _).trans ?_; assumption)
      have hsd : Sm Bs 0 W0 W0.drew := (Sm.refl S0 S1).drew
      clear S0 S1 T0 T1 R0 R1 R2 R3 d0 d1 d2 d3 d4 d5 d6 d7
      refine wp_region_held_drew (S := (fun w' => W0.heap.size ≤ w'.heap.size ∧ w'.cell? ⟨b, off + i * 8, none⟩ = some (.int .i64 (pcg L i).f0) ∧ w'.cell? ⟨b, off + i * 8 + 1, none⟩ = some (.int .i64 (pcg L i).f1) ∧ w'.cell? ⟨b, off + i * 8 + 2, none⟩ = some (.int .i64 (pcg L i).a0) ∧ w'.cell? ⟨b, off + i * 8 + 3, none⟩ = some (.int .i64 (pcg L i).a1) ∧ w'.cell? ⟨b, off + i * 8 + 4, none⟩ = some (.int .i64 (pcg L i).b0) ∧ w'.cell? ⟨b, off + i * 8 + 5, none⟩ = some (.int .i64 (pcg L i).b1) ∧ w'.cell? ⟨b, off + i * 8 + 6, none⟩ = some (.int .i64 (pcg L i).c0) ∧ w'.cell? ⟨b, off + i * 8 + 7, none⟩ = some (.int .i64 (pcg L i).c1) ∧ w'.cell? ⟨w.heap.size, 0, none⟩ = some (.int .i64 t.1) ∧ w'.cell? ⟨w.heap.size, 1, none⟩ = some (.int .i64 t.2))) (by kernel_rfl) (HX.out _ _ hsd) (fun hHeld => ?_)
      refine wpAnyH_take (i := 0) (oi := _) (v := ?_) rfl (by kernel_rfl) (by kernel_rfl) (by kernel_rfl) (fun _ _ _ h => h) (Or.inl ⟨by rfl, ?_⟩) (by assumption) ?_
      rotate_left
      · (intro w hSw; (try dsimp only at hSw); (try simp only [List.getElem_toArray, List.getElem_cons_zero]); go_simp; try with_reducible rfl)
      simp only [Act.put, List.setIfInBounds_toArray, List.set_cons_zero, List.set_cons_succ, List.getElem_toArray, List.getElem_cons_zero]
      refine wpAnyH_take (i := 1) (oi := _) (v := ?_) rfl (by kernel_rfl) (by kernel_rfl) (by kernel_rfl) (fun _ _ _ h => h) (Or.inl ⟨by rfl, ?_⟩) (by assumption) ?_
      rotate_left
      · (intro w hSw; (try dsimp only at hSw); (try simp only [List.getElem_toArray, List.getElem_cons_succ, List.getElem_cons_zero]); go_simp; try with_reducible rfl)
      simp only [Act.put, List.setIfInBounds_toArray, List.set_cons_zero, List.set_cons_succ, List.getElem_toArray, List.getElem_cons_succ, List.getElem_cons_zero]
      refine wpAnyH_take (i := 2) (oi := _) (v := ?_) rfl (by kernel_rfl) (by kernel_rfl) (by kernel_rfl) (fun _ _ _ h => h) (Or.inl ⟨by rfl, ?_⟩) (by assumption) ?_
      rotate_left
      · (intro w hSw; (try dsimp only at hSw); (try simp only [List.getElem_toArray, List.getElem_cons_succ, List.getElem_cons_zero]); go_simp; try with_reducible rfl)
      simp only [Act.put, List.setIfInBounds_toArray, List.set_cons_zero, List.set_cons_succ, List.getElem_toArray, List.getElem_cons_succ, List.getElem_cons_zero]
      refine wpAnyH_take (i := 3) (oi := _) (v := ?_) rfl (by kernel_rfl) (by kernel_rfl) (by kernel_rfl) (fun _ _ _ h => h) (Or.inl ⟨by rfl, ?_⟩) (by assumption) ?_
      rotate_left
      · (intro w hSw; (try dsimp only at hSw); (try simp only [List.getElem_toArray, List.getElem_cons_succ, List.getElem_cons_zero]); go_simp; try with_reducible rfl)
      simp only [Act.put, List.setIfInBounds_toArray, List.set_cons_zero, List.set_cons_succ, List.getElem_toArray, List.getElem_cons_succ, List.getElem_cons_zero]
      refine wpAnyH_take (i := 4) (oi := _) (v := ?_) rfl (by kernel_rfl) (by kernel_rfl) (by kernel_rfl) (fun _ _ _ h => h) (Or.inl ⟨by rfl, ?_⟩) (by assumption) ?_
      rotate_left
      · (intro w hSw; (try dsimp only at hSw); (try simp only [List.getElem_toArray, List.getElem_cons_succ, List.getElem_cons_zero]); go_simp; try with_reducible rfl)
      simp only [Act.put, List.setIfInBounds_toArray, List.set_cons_zero, List.set_cons_succ, List.getElem_toArray, List.getElem_cons_succ, List.getElem_cons_zero]
      refine wpAnyH_take (i := 5) (oi := _) (v := ?_) rfl (by kernel_rfl) (by kernel_rfl) (by kernel_rfl) (fun _ _ _ h => h) (Or.inl ⟨by rfl, ?_⟩) (by assumption) ?_
      rotate_left
      · (intro w hSw; (try dsimp only at hSw); (try simp only [List.getElem_toArray, List.getElem_cons_succ, List.getElem_cons_zero]); go_simp; try with_reducible rfl)
      simp only [Act.put, List.setIfInBounds_toArray, List.set_cons_zero, List.set_cons_succ, List.getElem_toArray, List.getElem_cons_succ, List.getElem_cons_zero]
      refine wpAnyH_take (i := 6) (oi := _) (v := ?_) rfl (by kernel_rfl) (by kernel_rfl) (by kernel_rfl) (fun _ _ _ h => h) (Or.inl ⟨by rfl, ?_⟩) (by assumption) ?_
      rotate_left
      · (intro w hSw; (try dsimp only at hSw); (try simp only [List.getElem_toArray, List.getElem_cons_succ, List.getElem_cons_zero]); go_simp; try with_reducible rfl)
      simp only [Act.put, List.setIfInBounds_toArray, List.set_cons_zero, List.set_cons_succ, List.getElem_toArray, List.getElem_cons_succ, List.getElem_cons_zero]
      refine wpAnyH_take (i := 7) (oi := _) (v := ?_) rfl (by kernel_rfl) (by kernel_rfl) (by kernel_rfl) (fun _ _ _ h => h) (Or.inl ⟨by rfl, ?_⟩) (by assumption) ?_
      rotate_left
      · (intro w hSw; (try dsimp only at hSw); (try simp only [List.getElem_toArray, List.getElem_cons_succ, List.getElem_cons_zero]); go_simp; try with_reducible rfl)
      simp only [Act.put, List.setIfInBounds_toArray, List.set_cons_zero, List.set_cons_succ, List.getElem_toArray, List.getElem_cons_succ, List.getElem_cons_zero]
      refine wpAnyH_take (i := 8) (oi := _) (v := ?_) rfl (by kernel_rfl) (by kernel_rfl) (by kernel_rfl) (fun _ _ _ h => h) (Or.inl ⟨by rfl, ?_⟩) (by assumption) ?_
      rotate_left
      · (intro w hSw; (try dsimp only at hSw); (try simp only [List.getElem_toArray, List.getElem_cons_succ, List.getElem_cons_zero]); go_simp; try with_reducible rfl)
      simp only [Act.put, List.setIfInBounds_toArray, List.set_cons_zero, List.set_cons_succ, List.getElem_toArray, List.getElem_cons_succ, List.getElem_cons_zero]
      refine wpAnyH_take (i := 9) (oi := _) (v := ?_) rfl (by kernel_rfl) (by kernel_rfl) (by kernel_rfl) (fun _ _ _ h => h) (Or.inl ⟨by rfl, ?_⟩) (by assumption) ?_
      rotate_left
      · (intro w hSw; (try dsimp only at hSw); (try simp only [List.getElem_toArray, List.getElem_cons_succ, List.getElem_cons_zero]); go_simp; try with_reducible rfl)
      simp only [Act.put, List.setIfInBounds_toArray, List.set_cons_zero, List.set_cons_succ, List.getElem_toArray, List.getElem_cons_succ, List.getElem_cons_zero]
      refine wpAnyH_take (i := 10) (oi := _) (v := ?_) rfl (by kernel_rfl) (by kernel_rfl) (by kernel_rfl) (fun _ _ _ h => h) (Or.inl ⟨by rfl, ?_⟩) (by assumption) ?_
      rotate_left
      · (intro w hSw; (try dsimp only at hSw); (try simp only [List.getElem_toArray, List.getElem_cons_succ, List.getElem_cons_zero]); go_simp; try with_reducible rfl)
      simp only [Act.put, List.setIfInBounds_toArray, List.set_cons_zero, List.set_cons_succ, List.getElem_toArray, List.getElem_cons_succ, List.getElem_cons_zero]
      refine wpAnyH_take (i := 11) (oi := _) (v := ?_) rfl (by kernel_rfl) (by kernel_rfl) (by kernel_rfl) (fun _ _ _ h => h) (Or.inl ⟨by rfl, ?_⟩) (by assumption) ?_
      rotate_left
      · (intro w hSw; (try dsimp only at hSw); (try simp only [List.getElem_toArray, List.getElem_cons_succ, List.getElem_cons_zero]); go_simp; try with_reducible rfl)
      simp only [Act.put, List.setIfInBounds_toArray, List.set_cons_zero, List.set_cons_succ, List.getElem_toArray, List.getElem_cons_succ, List.getElem_cons_zero]
      refine wpAnyH_take (i := 12) (oi := _) (v := ?_) rfl (by kernel_rfl) (by kernel_rfl) (by kernel_rfl) (fun _ _ _ h => h) (Or.inl ⟨by rfl, ?_⟩) (by assumption) ?_
      rotate_left
      · (intro w hSw; (try dsimp only at hSw); (try simp only [List.getElem_toArray, List.getElem_cons_succ, List.getElem_cons_zero]); go_simp; try with_reducible rfl)
      simp only [Act.put, List.setIfInBounds_toArray, List.set_cons_zero, List.set_cons_succ, List.getElem_toArray, List.getElem_cons_succ, List.getElem_cons_zero]
      refine wpAnyH_ready (rs := [13]) (by kernel_rfl) (by simp) ?_
      refine AllReadyH.cons (o := _) rfl (fun K hK => ?_) AllReadyH.nil
      try simp only [List.getElem_toArray, List.getElem_cons_succ, List.getElem_cons_zero]
      go_simp
      (go_at_call 61; go_split_ands; (with_reducible refine (HC1.out _ _ hsd.cell hsd.free).mono ?_); rintro z w5 ⟨rfl, ht1⟩; have hs1 := hsd.trans ht1)
      go_wp2_with fail
      refine hK.out _ _ (HX.out _ _ hs1) (fun hHeld => ?_)
      clear hK K
      try simp only [Act.put, List.setIfInBounds_toArray, List.set_cons_zero, List.set_cons_succ, List.getElem_toArray, List.getElem_cons_succ, List.getElem_cons_zero]
      refine wpAnyH_ready (rs := [14]) (by kernel_rfl) (by simp) ?_
      refine AllReadyH.cons (o := _) rfl (fun K hK => ?_) AllReadyH.nil
      try simp only [List.getElem_toArray, List.getElem_cons_succ, List.getElem_cons_zero]
      go_simp
      (go_at_call 71; go_split_ands; (with_reducible refine (HC2.out _ _ hs1.cell hs1.free).mono ?_); rintro z w6 ⟨rfl, ht2⟩; have hs2 := hs1.trans ht2)
      go_wp2_with fail
      refine hK.out _ _ (HX.out _ _ hs2) (fun hHeld => ?_)
      clear hK K
      try simp only [Act.put, List.setIfInBounds_toArray, List.set_cons_zero, List.set_cons_succ, List.getElem_toArray, List.getElem_cons_succ, List.getElem_cons_zero]
      refine wpAnyH_ready (rs := [15]) (by kernel_rfl) (by simp) ?_
      refine AllReadyH.cons (o := _) rfl (fun K hK => ?_) AllReadyH.nil
      try simp only [List.getElem_toArray, List.getElem_cons_succ, List.getElem_cons_zero]
      go_simp
      (go_at_call 59; go_split_ands; (with_reducible refine (HC3.out _ _ hs2.cell).mono ?_); rintro z w7 ⟨rfl, hb7⟩; have hs3 := hs2.then hb7)
      go_wp2_with fail
      refine hK.out _ _ (HX.out _ _ hs3) (fun hHeld => ?_)
      clear hK K
      try simp only [Act.put, List.setIfInBounds_toArray, List.set_cons_zero, List.set_cons_succ, List.getElem_toArray, List.getElem_cons_succ, List.getElem_cons_zero]
      refine wpAnyH_take (i := 16) (oi := _) (v := ?_) rfl (by kernel_rfl) (by kernel_rfl) (by kernel_rfl) (fun _ _ _ h => h) (Or.inl ⟨by rfl, ?_⟩) (by assumption) ?_
      rotate_left
      · (intro w hSw; (try dsimp only at hSw); (try simp only [List.getElem_toArray, List.getElem_cons_succ, List.getElem_cons_zero]); go_simp; try with_reducible rfl)
      simp only [Act.put, List.setIfInBounds_toArray, List.set_cons_zero, List.set_cons_succ, List.getElem_toArray, List.getElem_cons_succ, List.getElem_cons_zero]
      refine wpAnyH_take (i := 17) (oi := _) (v := ?_) rfl (by kernel_rfl) (by kernel_rfl) (by kernel_rfl) (fun _ _ _ h => h) (Or.inl ⟨by rfl, ?_⟩) (by assumption) ?_
      rotate_left
      · (intro w hSw; (try dsimp only at hSw); (try simp only [List.getElem_toArray, List.getElem_cons_succ, List.getElem_cons_zero]); go_simp; try with_reducible rfl)
      simp only [Act.put, List.setIfInBounds_toArray, List.set_cons_zero, List.set_cons_succ, List.getElem_toArray, List.getElem_cons_succ, List.getElem_cons_zero]
      refine wpAnyH_ready (rs := [18]) (by kernel_rfl) (by simp) ?_
      refine AllReadyH.cons (o := _) rfl (fun K hK => ?_) AllReadyH.nil
      go_split_ands
      obtain ⟨g0, g1, g2, g3⟩ := HY.out _ _ hs3
      try simp only [List.getElem_toArray, List.getElem_cons_succ, List.getElem_cons_zero]
      go_wp2_with fail
      refine hK.out _ _ (HZs.out _ _ hs3 _ _) (fun hHeld => ?_)
      clear hK K
      try simp only [Act.put, List.setIfInBounds_toArray, List.set_cons_zero, List.set_cons_succ, List.getElem_toArray, List.getElem_cons_succ, List.getElem_cons_zero]
      refine wpAnyH_take (i := 19) (oi := _) (v := ?_) rfl (by kernel_rfl) (by kernel_rfl) (by kernel_rfl) (fun _ _ _ h => h) (Or.inl ⟨by rfl, ?_⟩) (by assumption) ?_
      rotate_left
      · (intro w hSw; (try dsimp only at hSw); (try simp only [List.getElem_toArray, List.getElem_cons_succ, List.getElem_cons_zero]); go_simp; try with_reducible rfl)
      simp only [Act.put, List.setIfInBounds_toArray, List.set_cons_zero, List.set_cons_succ, List.getElem_toArray, List.getElem_cons_succ, List.getElem_cons_zero]
      refine wpAnyH_done (by kernel_rfl) ?_ _
      go_wp2_with fail
      have l0 := (two_cells (v0 := .int .i64 q1) (v1 := .int .i64 q2) g0 g1).1
      have l1 := (two_cells (v0 := .int .i64 q1) (v1 := .int .i64 q2) g0 g1).2
      refine bodyPost_ret (v := .tuple #[.agg #[.int .i64 q1, .int .i64 q2], .int .i64 K2.2]) (by simp [results, Try.results37, go_sem, l0, l1]) rfl ⟨rfl, ?_⟩
      have hB5 := hB4.trans (hs3.below (n := w.heap.size) (by omega) (by omega))
      exact (hB5.setCell (p := ⟨w.heap.size + 1, 0, none⟩) (Nat.le_succ _) _).setCell (p := ⟨w.heap.size + 1, 1, none⟩) (Nat.le_succ _) _
end Go.Proofs.Ytlgpolfbilkmbaa
