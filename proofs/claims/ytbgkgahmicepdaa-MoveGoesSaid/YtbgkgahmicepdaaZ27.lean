/-
  THE WALKS of package quadratic: At and Slope, at a valid curve.
  PLAIN: the values and the slopes that package quadratic reckons are those of the curve over the rational numbers.
  PLAIN: the curve of a move over the rational numbers: it never falls, rests at last, and is nowhere steeper than its top speed.
  PLAIN: sums and products of fractions that fit: what package quadratic keeps of them; the value at the first knot, and behind the last one.
  PLAIN: the curve of a right move: it is a valid curve that never falls, from 0 up to the distance, no faster than the top speed.
-/
import Derived.Test.YtbgkgahmicepdaaZ1
import Derived.Test.YtbgkgahmicepdaaZ26
import Derived.Test.YtbgkgahmicepdaaZ25
namespace Go.Proofs.Ytbgkgahmicepdaa
open Go.RowKit Go.Shelf
theorem pieceN_range (L : List Pc) (t : Int × Int) (k : Nat) : -1 ≤ pieceN L t k ∧ pieceN L t k < (k : Int) := by
 induction k with
 | zero => exact ⟨Int.le_refl _, by unfold pieceN; omega⟩
 | succ k ih => unfold pieceN; split <;> omega
def resV (v : (Int × Int) × Int) : Int × Int × Int := (if v.2 = 0 then v.1.1 else 0, if v.2 = 0 then v.1.2 else 0, v.2)
def valAt (L : List Pc) (t : Int × Int) (i : Nat) : Int × Int × Int := resV (kVal (kSub 0 t ((pcg L i).f0, (pcg L i).f1)).2 ((pcg L i).a0, (pcg L i).a1) ((pcg L i).b0, (pcg L i).b1) ((pcg L i).c0, (pcg L i).c1) (kSub 0 t ((pcg L i).f0, (pcg L i).f1)).1)
def slopeAt (L : List Pc) (t : Int × Int) (i : Nat) : Int × Int × Int := resV (kSlope (kSub 0 t ((pcg L i).f0, (pcg L i).f1)).2 ((pcg L i).b0, (pcg L i).b1) ((pcg L i).c0, (pcg L i).c1) (kSub 0 t ((pcg L i).f0, (pcg L i).f1)).1)
def atP (L : List Pc) (t : Int × Int) : Int × Int × Int := if vF t = true then (if pieceN L t L.length < 0 then ((pcg L 0).a0, (pcg L 0).a1, 0) else valAt L t (pieceN L t L.length).toNat) else (0, 0, 1)
def slopeP (L : List Pc) (t : Int × Int) : Int × Int × Int := if vF t = true then (if pieceN L t L.length < 0 then (0, 1, 0) else slopeAt L t (pieceN L t L.length).toNat) else (0, 0, 1)
set_option maxRecDepth 100000 in
set_option maxHeartbeats 8000000 in
theorem qat_any (L : List Pc) (ok : CurveOK L) (t : Int × Int) (a : Option Addr) (c : Nat) (w : World) (hL : Pcs w.heap.size w a L) :
  Calls Try.prog 24 #[.slice a L.length c, .agg #[.int .i64 t.1, .int .i64 t.2]] w fun e w' => e = .returned (.tuple #[.agg #[.int .i64 (atP L t).1, .int .i64 (atP L t).2.1], .int .i64 (atP L t).2.2]) ∧ Below w.heap.size w w' := by
 have hpos := ok.pos
 have hlen := ok.len
 have hL0 : Pcs ((w.alloc (.cells #[.int .i64 t.1, .int .i64 t.2] 29)).alloc (.cells #[.int .i64 0, .int .i64 0] 29)).heap.size ((w.alloc (.cells #[.int .i64 t.1, .int .i64 t.2] 29)).alloc (.cells #[.int .i64 0, .int .i64 0] 29)) a L := hL.grow ((below_new _ _).alloc (by simp) _)
 have HV := Lib.hid (fun c w h => qvalid_yes L ok a c w h)
 have HOK := Lib.hid ok
 have HL := Lib.hid hL
 obtain ⟨Z, hZ⟩ : ∃ Z, atP L t = Z := ⟨_, rfl⟩
 rw [hZ]
 have HZ := Lib.hid hZ
 clear ok hL hZ
 by_cases vt : vF t = true
 case neg =>
  have HVT : Hid (validF t.1 t.2 = false) := Lib.hid (by have := Bool.not_eq_true _ ▸ vt; exact this)
  have HR : Hid (Z = (0, 0, 1)) := Lib.hid (by rw [← HZ.out]; unfold atP; rw [if_neg vt])
  rw [HR.out]
  clear vt
  go_enter Try.func24, Try.ntmps24
  go_wp2_with (first
   | (go_at_call 17; (with_reducible refine (HV.out _ _ ?_).mono ?_); (next => exact hL0); rintro e w1 ⟨rfl, hb1⟩; have t0 : w1.cell? ⟨w.heap.size, 0, none⟩ = some (.int .i64 t.1) := (hb1.cell (p := ⟨w.heap.size, 0, none⟩) (by simp <;> omega)).trans (by simp [go_sem, World.cell?_alloc_past]); have t1 : w1.cell? ⟨w.heap.size, 1, none⟩ = some (.int .i64 t.2) := (hb1.cell (p := ⟨w.heap.size, 1, none⟩) (by simp <;> omega)).trans (by simp [go_sem, World.cell?_alloc_past]); have r0 : w1.cell? ⟨w.heap.size + 1, 0, none⟩ = some (.int .i64 0) := (hb1.cell (p := ⟨w.heap.size + 1, 0, none⟩) (by simp <;> omega)).trans (by simp [go_sem]); have r1 : w1.cell? ⟨w.heap.size + 1, 1, none⟩ = some (.int .i64 0) := (hb1.cell (p := ⟨w.heap.size + 1, 1, none⟩) (by simp <;> omega)).trans (by simp [go_sem]); have r2 : w1.frozen? ⟨w.heap.size + 1, 0, none⟩ = false := (hb1.frozen (p := ⟨w.heap.size + 1, 0, none⟩) (by simp <;> omega)).trans (by simp [go_sem]); have r3 : w1.frozen? ⟨w.heap.size + 1, 1, none⟩ = false := (hb1.frozen (p := ⟨w.heap.size + 1, 1, none⟩) (by simp <;> omega)).trans (by simp [go_sem]); have hB1 : Below w.heap.size w w1 := ((below_new w (.cells #[.int .i64 t.1, .int .i64 t.2] 29)).alloc (by simp) (.cells #[.int .i64 0, .int .i64 0] 29)).trans (hb1.mono (by simp <;> omega)); have z1 := World.block_lt_of_cell? _ _ r0; simp only at z1)
   | (go_at_call 25; (with_reducible refine (valid_any t.1 t.2 _).mono ?_); rintro e w2 ⟨rfl, hb2⟩; rw [HVT.out]; have hB2 := hB1.trans (hb2.mono hB1.size); have T0 := (hb2.cell (p := ⟨w.heap.size, 0, none⟩) (by simp; omega)).trans t0; have T1 := (hb2.cell (p := ⟨w.heap.size, 1, none⟩) (by simp; omega)).trans t1; have R0 := (hb2.cell (p := ⟨w.heap.size + 1, 0, none⟩) z1).trans r0; have R1 := (hb2.cell (p := ⟨w.heap.size + 1, 1, none⟩) z1).trans r1; have R2 := (hb2.frozen (p := ⟨w.heap.size + 1, 0, none⟩) z1).trans r2; have R3 := (hb2.frozen (p := ⟨w.heap.size + 1, 1, none⟩) z1).trans r3; have z2 := World.block_lt_of_cell? _ _ R0; simp only at z2; have zz : w.heap.size < w2.heap.size := (by omega); clear t0 t1 r0 r1 r2 r3 hb1 hb2))
  have l0 := (two_cells (v0 := .int .i64 0) (v1 := .int .i64 0) R0 R1).1
  have l1 := (two_cells (v0 := .int .i64 0) (v1 := .int .i64 0) R0 R1).2
  refine bodyPost_ret (v := .tuple #[.agg #[.int .i64 0, .int .i64 0], .int .i64 1]) (by simp [results, Try.results24, go_sem, l0, l1]) rfl ⟨rfl, ?_⟩
  exact (hB2.setCell (p := ⟨w.heap.size + 1, 0, none⟩) (Nat.le_succ _) _).setCell (p := ⟨w.heap.size + 1, 1, none⟩) (Nat.le_succ _) _
 case pos =>
  have HVT : Hid (validF t.1 t.2 = true) := Lib.hid vt
  have HTT := Lib.hid vt
  have HZ2 : Hid (Z = if pieceN L t L.length < 0 then ((pcg L 0).a0, (pcg L 0).a1, 0) else valAt L t (pieceN L t L.length).toNat) := Lib.hid (by rw [← HZ.out]; unfold atP; rw [if_pos vt])
  clear vt HZ
  obtain ⟨kI, hk⟩ : ∃ k, pieceN L t L.length = k := ⟨_, rfl⟩
  have hkr := pieceN_range L t L.length
  rw [hk] at hkr
  have HK := Lib.hid hk
  rw [hk] at HZ2
  clear hk
  by_cases neg : kI < 0
  ·have g : decide (kI < 0) = true := decide_eq_true neg
   rw [if_pos neg] at HZ2
   rw [HZ2.out]
   clear neg
   obtain ⟨b, off, rfl, hb, hc⟩ := HL.out (by omega)
   obtain ⟨c0, c1, c2, c3, c4, c5, c6, c7⟩ := hc 0 (by omega)
   simp only [Nat.zero_mul, Nat.add_zero] at c2 c3
   have HC2 := Lib.hid c2
   have HC3 := Lib.hid c3
   clear c0 c1 c2 c3 c4 c5 c6 c7 hc
   go_enter Try.func24, Try.ntmps24
   go_wp2_with (first
    | (go_at_call 17; (with_reducible refine (HV.out _ _ ?_).mono ?_); (next => exact hL0); rintro e w1 ⟨rfl, hb1⟩; have t0 : w1.cell? ⟨w.heap.size, 0, none⟩ = some (.int .i64 t.1) := (hb1.cell (p := ⟨w.heap.size, 0, none⟩) (by simp <;> omega)).trans (by simp [go_sem, World.cell?_alloc_past]); have t1 : w1.cell? ⟨w.heap.size, 1, none⟩ = some (.int .i64 t.2) := (hb1.cell (p := ⟨w.heap.size, 1, none⟩) (by simp <;> omega)).trans (by simp [go_sem, World.cell?_alloc_past]); have r0 : w1.cell? ⟨w.heap.size + 1, 0, none⟩ = some (.int .i64 0) := (hb1.cell (p := ⟨w.heap.size + 1, 0, none⟩) (by simp <;> omega)).trans (by simp [go_sem]); have r1 : w1.cell? ⟨w.heap.size + 1, 1, none⟩ = some (.int .i64 0) := (hb1.cell (p := ⟨w.heap.size + 1, 1, none⟩) (by simp <;> omega)).trans (by simp [go_sem]); have r2 : w1.frozen? ⟨w.heap.size + 1, 0, none⟩ = false := (hb1.frozen (p := ⟨w.heap.size + 1, 0, none⟩) (by simp <;> omega)).trans (by simp [go_sem]); have r3 : w1.frozen? ⟨w.heap.size + 1, 1, none⟩ = false := (hb1.frozen (p := ⟨w.heap.size + 1, 1, none⟩) (by simp <;> omega)).trans (by simp [go_sem]); have hB1 : Below w.heap.size w w1 := ((below_new w (.cells #[.int .i64 t.1, .int .i64 t.2] 29)).alloc (by simp) (.cells #[.int .i64 0, .int .i64 0] 29)).trans (hb1.mono (by simp <;> omega)); have z1 := World.block_lt_of_cell? _ _ r0; simp only at z1)
    | (go_at_call 25; (with_reducible refine (valid_any t.1 t.2 _).mono ?_); rintro e w2 ⟨rfl, hb2⟩; rw [HVT.out]; have hB2 := hB1.trans (hb2.mono hB1.size); have T0 := (hb2.cell (p := ⟨w.heap.size, 0, none⟩) (by simp; omega)).trans t0; have T1 := (hb2.cell (p := ⟨w.heap.size, 1, none⟩) (by simp; omega)).trans t1; have R0 := (hb2.cell (p := ⟨w.heap.size + 1, 0, none⟩) z1).trans r0; have R1 := (hb2.cell (p := ⟨w.heap.size + 1, 1, none⟩) z1).trans r1; have R2 := (hb2.frozen (p := ⟨w.heap.size + 1, 0, none⟩) z1).trans r2; have R3 := (hb2.frozen (p := ⟨w.heap.size + 1, 1, none⟩) z1).trans r3; have z2 := World.block_lt_of_cell? _ _ R0; simp only at z2; have zz : w.heap.size < w2.heap.size := (by omega); clear t0 t1 r0 r1 r2 r3 hb1 hb2)
    | (go_at_call 42; have W20 : Below w2.heap.size w2 (w2.alloc (.cells #[.int .i64 0] 73)) := below_new _ _; have hB3 := hB2.trans (W20.mono hB2.size); (with_reducible refine (piece_any L HOK.out t HTT.out (some ⟨b, off, none⟩) c _ (HL.out.grow hB3)).mono ?_); rw [HK.out]; rintro e w4 ⟨rfl, hb4⟩; have hB4 := hB3.trans (hb4.mono hB3.size); have hb5 := W20.trans (hb4.mono W20.size); have S0 : w4.cell? ⟨w2.heap.size, 0, none⟩ = some (.int .i64 0) := (hb4.cell (p := ⟨w2.heap.size, 0, none⟩) (by simp)).trans (by simp); have S1 : w4.frozen? ⟨w2.heap.size, 0, none⟩ = false := (hb4.frozen (p := ⟨w2.heap.size, 0, none⟩) (by simp)).trans (by simp); have t0 := (hb5.cell (p := ⟨w.heap.size, 0, none⟩) (by simp; omega)).trans T0; have t1 := (hb5.cell (p := ⟨w.heap.size, 1, none⟩) (by simp; omega)).trans T1; have r0 := (hb5.cell (p := ⟨w.heap.size + 1, 0, none⟩) z2).trans R0; have r1 := (hb5.cell (p := ⟨w.heap.size + 1, 1, none⟩) z2).trans R1; have r2 := (hb5.frozen (p := ⟨w.heap.size + 1, 0, none⟩) z2).trans R2; have r3 := (hb5.frozen (p := ⟨w.heap.size + 1, 1, none⟩) z2).trans R3; have hBs4 : w2.heap.size < w4.heap.size := World.block_lt_of_cell? _ _ S0; have d2 := (hB4.cell (p := ⟨b, off + 2, none⟩) hb).trans HC2.out; have d3 := (hB4.cell (p := ⟨b, off + 3, none⟩) hb).trans HC3.out; clear T0 T1 R0 R1 R2 R3 hb4 hb5 W20 hB3))
   have l0 := (two_cells (v0 := .int .i64 (pcg L 0).a0) (v1 := .int .i64 (pcg L 0).a1) r0 r1).1
   have l1 := (two_cells (v0 := .int .i64 (pcg L 0).a0) (v1 := .int .i64 (pcg L 0).a1) r0 r1).2
   refine bodyPost_ret (v := .tuple #[.agg #[.int .i64 (pcg L 0).a0, .int .i64 (pcg L 0).a1], .int .i64 0]) (by simp [results, Try.results24, go_sem, l0, l1]) rfl ⟨rfl, ?_⟩
   exact (hB4.setCell (p := ⟨w.heap.size + 1, 0, none⟩) (Nat.le_succ _) _).setCell (p := ⟨w.heap.size + 1, 1, none⟩) (Nat.le_succ _) _
  ·have g : decide (kI < 0) = false := decide_eq_false neg
   rw [if_neg neg] at HZ2
   obtain ⟨i, rfl⟩ := Int.eq_ofNat_of_zero_le (show 0 ≤ kI by omega)
   rw [Int.toNat_natCast] at HZ2
   have hi : i < L.length := by omega
   have hi1 : (i : Int) < (L.length : Int) := by omega
   have hi0 : (0 : Int) ≤ (i : Int) := by omega
   have hok := HOK.out.val i hi
   have VF : vF ((pcg L i).f0, (pcg L i).f1) = true := hok.f
   have VA : vF ((pcg L i).a0, (pcg L i).a1) = true := hok.a
   have VB : vF ((pcg L i).b0, (pcg L i).b1) = true := hok.b
   have VC : vF ((pcg L i).c0, (pcg L i).c1) = true := hok.c
   obtain ⟨K1, hK1⟩ : ∃ K, kSub 0 t ((pcg L i).f0, (pcg L i).f1) = K := ⟨_, rfl⟩
   have V1 : vF K1.1 = true := by rw [← hK1]; exact kSub_valid HTT.out VF
   have HC1 : Hid (∀ (Bs : Nat) (w : World), w.cell? ⟨Bs, 0, none⟩ = some (.int .i64 0) → w.frozen? ⟨Bs, 0, none⟩ = false → Calls Try.prog 38 #[.pointer (some ⟨Bs, 0, none⟩), .agg #[.int .i64 t.1, .int .i64 t.2], .agg #[.int .i64 (pcg L i).f0, .int .i64 (pcg L i).f1]] w fun z w' => z = .returned (.agg #[.int .i64 K1.1.1, .int .i64 K1.1.2]) ∧ Sm Bs K1.2 w w') := Lib.hid fun Bs w h0 h1 => by
    have := ksub_any Bs 0 t ((pcg L i).f0, (pcg L i).f1) HTT.out VF w h0 h1
    rwa [hK1] at this
   obtain ⟨K2, hK2⟩ : ∃ K, kVal K1.2 ((pcg L i).a0, (pcg L i).a1) ((pcg L i).b0, (pcg L i).b1) ((pcg L i).c0, (pcg L i).c1) K1.1 = K := ⟨_, rfl⟩
   have HC2 : Hid (∀ (Bs : Nat) (w : World), w.cell? ⟨Bs, 0, none⟩ = some (.int .i64 K1.2) → w.frozen? ⟨Bs, 0, none⟩ = false → Calls Try.prog 39 #[.pointer (some ⟨Bs, 0, none⟩), .agg #[.int .i64 (pcg L i).f0, .int .i64 (pcg L i).f1, .int .i64 (pcg L i).a0, .int .i64 (pcg L i).a1, .int .i64 (pcg L i).b0, .int .i64 (pcg L i).b1, .int .i64 (pcg L i).c0, .int .i64 (pcg L i).c1], .agg #[.int .i64 K1.1.1, .int .i64 K1.1.2]] w fun z w' => z = .returned (.agg #[.int .i64 K2.1.1, .int .i64 K2.1.2]) ∧ Sm Bs K2.2 w w') := Lib.hid fun Bs w h0 h1 => by
    have := qvalue_any Bs K1.2 ((pcg L i).f0, (pcg L i).f1) ((pcg L i).a0, (pcg L i).a1) ((pcg L i).b0, (pcg L i).b1) ((pcg L i).c0, (pcg L i).c1) K1.1 VA VB VC V1 w h0 h1
    rwa [hK2] at this
   have HR : Hid (Z = (if K2.2 = 0 then K2.1.1 else 0, if K2.2 = 0 then K2.1.2 else 0, K2.2)) := Lib.hid (by rw [HZ2.out]; unfold valAt; simp only [hK1, hK2]; rfl)
   obtain ⟨q1, hq1⟩ : ∃ q, (if K2.2 = 0 then K2.1.1 else 0) = q := ⟨_, rfl⟩
   obtain ⟨q2, hq2⟩ : ∃ q, (if K2.2 = 0 then K2.1.2 else 0) = q := ⟨_, rfl⟩
   have HC3 : Hid (∀ (Bs : Nat) (w : World), w.cell? ⟨Bs, 0, none⟩ = some (.int .i64 K2.2) → Calls Try.prog 43 #[.pointer (some ⟨Bs, 0, none⟩), .agg #[.int .i64 K2.1.1, .int .i64 K2.1.2]] w fun z w' => z = .returned (.tuple #[.agg #[.int .i64 q1, .int .i64 q2], .int .i64 K2.2]) ∧ Below w.heap.size w w') := Lib.hid fun Bs w h0 => by
    have := qresult_any Bs K2.2 K2.1 w h0
    rwa [hq1, hq2] at this
   rw [hq1, hq2] at HR
   rw [HR.out]
   clear hq1 hq2 hK1 hK2 V1 VF VA VB VC hok HZ2 neg
   obtain ⟨b, off, rfl, hb, hc⟩ := HL.out (by omega)
   obtain ⟨c0, c1, c2, c3, c4, c5, c6, c7⟩ := hc i hi
   have HC := Lib.hid (hc i hi)
   clear hc c0 c1 c2 c3 c4 c5 c6 c7
   go_enter Try.func24, Try.ntmps24
   go_upto_region 7 with (first
    | (go_at_call 17; (with_reducible refine (HV.out _ _ ?_).mono ?_); (next => exact hL0); rintro e w1 ⟨rfl, hb1⟩; have t0 : w1.cell? ⟨w.heap.size, 0, none⟩ = some (.int .i64 t.1) := (hb1.cell (p := ⟨w.heap.size, 0, none⟩) (by simp <;> omega)).trans (by simp [go_sem, World.cell?_alloc_past]); have t1 : w1.cell? ⟨w.heap.size, 1, none⟩ = some (.int .i64 t.2) := (hb1.cell (p := ⟨w.heap.size, 1, none⟩) (by simp <;> omega)).trans (by simp [go_sem, World.cell?_alloc_past]); have r0 : w1.cell? ⟨w.heap.size + 1, 0, none⟩ = some (.int .i64 0) := (hb1.cell (p := ⟨w.heap.size + 1, 0, none⟩) (by simp <;> omega)).trans (by simp [go_sem]); have r1 : w1.cell? ⟨w.heap.size + 1, 1, none⟩ = some (.int .i64 0) := (hb1.cell (p := ⟨w.heap.size + 1, 1, none⟩) (by simp <;> omega)).trans (by simp [go_sem]); have r2 : w1.frozen? ⟨w.heap.size + 1, 0, none⟩ = false := (hb1.frozen (p := ⟨w.heap.size + 1, 0, none⟩) (by simp <;> omega)).trans (by simp [go_sem]); have r3 : w1.frozen? ⟨w.heap.size + 1, 1, none⟩ = false := (hb1.frozen (p := ⟨w.heap.size + 1, 1, none⟩) (by simp <;> omega)).trans (by simp [go_sem]); have hB1 : Below w.heap.size w w1 := ((below_new w (.cells #[.int .i64 t.1, .int .i64 t.2] 29)).alloc (by simp) (.cells #[.int .i64 0, .int .i64 0] 29)).trans (hb1.mono (by simp <;> omega)); have z1 := World.block_lt_of_cell? _ _ r0; simp only at z1)
    | (go_at_call 25; (with_reducible refine (valid_any t.1 t.2 _).mono ?_); rintro e w2 ⟨rfl, hb2⟩; rw [HVT.out]; have hB2 := hB1.trans (hb2.mono hB1.size); have T0 := (hb2.cell (p := ⟨w.heap.size, 0, none⟩) (by simp; omega)).trans t0; have T1 := (hb2.cell (p := ⟨w.heap.size, 1, none⟩) (by simp; omega)).trans t1; have R0 := (hb2.cell (p := ⟨w.heap.size + 1, 0, none⟩) z1).trans r0; have R1 := (hb2.cell (p := ⟨w.heap.size + 1, 1, none⟩) z1).trans r1; have R2 := (hb2.frozen (p := ⟨w.heap.size + 1, 0, none⟩) z1).trans r2; have R3 := (hb2.frozen (p := ⟨w.heap.size + 1, 1, none⟩) z1).trans r3; have z2 := World.block_lt_of_cell? _ _ R0; simp only at z2; have zz : w.heap.size < w2.heap.size := (by omega); clear t0 t1 r0 r1 r2 r3 hb1 hb2)
    | (go_at_call 42; have W20 : Below w2.heap.size w2 (w2.alloc (.cells #[.int .i64 0] 73)) := below_new _ _; have hB3 := hB2.trans (W20.mono hB2.size); (with_reducible refine (piece_any L HOK.out t HTT.out (some ⟨b, off, none⟩) c _ (HL.out.grow hB3)).mono ?_); rw [HK.out]; rintro e w4 ⟨rfl, hb4⟩; have hB4 := hB3.trans (hb4.mono hB3.size); have hb5 := W20.trans (hb4.mono W20.size); have S0 : w4.cell? ⟨w2.heap.size, 0, none⟩ = some (.int .i64 0) := (hb4.cell (p := ⟨w2.heap.size, 0, none⟩) (by simp)).trans (by simp); have S1 : w4.frozen? ⟨w2.heap.size, 0, none⟩ = false := (hb4.frozen (p := ⟨w2.heap.size, 0, none⟩) (by simp)).trans (by simp); have t0 := (hb5.cell (p := ⟨w.heap.size, 0, none⟩) (by simp; omega)).trans T0; have t1 := (hb5.cell (p := ⟨w.heap.size, 1, none⟩) (by simp; omega)).trans T1; have r0 := (hb5.cell (p := ⟨w.heap.size + 1, 0, none⟩) z2).trans R0; have r1 := (hb5.cell (p := ⟨w.heap.size + 1, 1, none⟩) z2).trans R1; have r2 := (hb5.frozen (p := ⟨w.heap.size + 1, 0, none⟩) z2).trans R2; have r3 := (hb5.frozen (p := ⟨w.heap.size + 1, 1, none⟩) z2).trans R3; have hBs4 : w2.heap.size < w4.heap.size := World.block_lt_of_cell? _ _ S0; clear T0 T1 R0 R1 R2 R3 hb4 hb5 W20 hB3))
   have T0 := t0
   have T1 := t1
   have R0 := r0
   have R1 := r1
   have R2 := r2
   have R3 := r3
   clear t0 t1 r0 r1 r2 r3
   obtain ⟨Bs, hBB⟩ : ∃ b, w2.heap.size = b := ⟨_, rfl⟩
   simp only [hBB] at S0 S1 hBs4 z2 ⊢
   clear hBB
   generalize w4 = W0 at *
   obtain ⟨c0, c1, c2, c3, c4, c5, c6, c7⟩ := HC.out
   have d0 := (hB4.cell (p := ⟨b, off + i * 8, none⟩) hb).trans c0
   have d1 := (hB4.cell (p := ⟨b, off + i * 8 + 1, none⟩) hb).trans c1
   have d2 := (hB4.cell (p := ⟨b, off + i * 8 + 2, none⟩) hb).trans c2
   have d3 := (hB4.cell (p := ⟨b, off + i * 8 + 3, none⟩) hb).trans c3
   have d4 := (hB4.cell (p := ⟨b, off + i * 8 + 4, none⟩) hb).trans c4
   have d5 := (hB4.cell (p := ⟨b, off + i * 8 + 5, none⟩) hb).trans c5
   have d6 := (hB4.cell (p := ⟨b, off + i * 8 + 6, none⟩) hb).trans c6
   have d7 := (hB4.cell (p := ⟨b, off + i * 8 + 7, none⟩) hb).trans c7
   clear c0 c1 c2 c3 c4 c5 c6 c7
   have HX : Hid (∀ x w', Sm Bs x W0 w' → W0.heap.size ≤ w'.heap.size ∧ w'.cell? ⟨b, off + i * 8, none⟩ = some (.int .i64 (pcg L i).f0) ∧ w'.cell? ⟨b, off + i * 8 + 1, none⟩ = some (.int .i64 (pcg L i).f1) ∧ w'.cell? ⟨b, off + i * 8 + 2, none⟩ = some (.int .i64 (pcg L i).a0) ∧ w'.cell? ⟨b, off + i * 8 + 3, none⟩ = some (.int .i64 (pcg L i).a1) ∧ w'.cell? ⟨b, off + i * 8 + 4, none⟩ = some (.int .i64 (pcg L i).b0) ∧ w'.cell? ⟨b, off + i * 8 + 5, none⟩ = some (.int .i64 (pcg L i).b1) ∧ w'.cell? ⟨b, off + i * 8 + 6, none⟩ = some (.int .i64 (pcg L i).c0) ∧ w'.cell? ⟨b, off + i * 8 + 7, none⟩ = some (.int .i64 (pcg L i).c1) ∧ w'.cell? ⟨w.heap.size, 0, none⟩ = some (.int .i64 t.1) ∧ w'.cell? ⟨w.heap.size, 1, none⟩ = some (.int .i64 t.2)) := Lib.hid fun x w' h =>
    ⟨h.size, (h.other (p := ⟨b, off + i * 8, none⟩) (by simp; omega) (by simp; omega)).trans d0, (h.other (p := ⟨b, off + i * 8 + 1, none⟩) (by simp; omega) (by simp; omega)).trans d1, (h.other (p := ⟨b, off + i * 8 + 2, none⟩) (by simp; omega) (by simp; omega)).trans d2, (h.other (p := ⟨b, off + i * 8 + 3, none⟩) (by simp; omega) (by simp; omega)).trans d3, (h.other (p := ⟨b, off + i * 8 + 4, none⟩) (by simp; omega) (by simp; omega)).trans d4, (h.other (p := ⟨b, off + i * 8 + 5, none⟩) (by simp; omega) (by simp; omega)).trans d5, (h.other (p := ⟨b, off + i * 8 + 6, none⟩) (by simp; omega) (by simp; omega)).trans d6, (h.other (p := ⟨b, off + i * 8 + 7, none⟩) (by simp; omega) (by simp; omega)).trans d7, (h.other (p := ⟨w.heap.size, 0, none⟩) (by simp; omega) (by simp; omega)).trans T0, (h.other (p := ⟨w.heap.size, 1, none⟩) (by simp; omega) (by simp; omega)).trans T1⟩
   have HY : Hid (∀ x w', Sm Bs x W0 w' → w'.cell? ⟨w.heap.size + 1, 0, none⟩ = some (.int .i64 0) ∧ w'.cell? ⟨w.heap.size + 1, 1, none⟩ = some (.int .i64 0) ∧ w'.frozen? ⟨w.heap.size + 1, 0, none⟩ = false ∧ w'.frozen? ⟨w.heap.size + 1, 1, none⟩ = false) := Lib.hid fun x w' h =>
    ⟨(h.other (p := ⟨w.heap.size + 1, 0, none⟩) (by simp; omega) (by simp; omega)).trans R0, (h.other (p := ⟨w.heap.size + 1, 1, none⟩) (by simp; omega) (by simp; omega)).trans R1, (h.otherF (p := ⟨w.heap.size + 1, 0, none⟩) (by simp; omega) (by simp; omega)).trans R2, (h.otherF (p := ⟨w.heap.size + 1, 1, none⟩) (by simp; omega) (by simp; omega)).trans R3⟩
   have HZs : Hid (∀ x w', Sm Bs x W0 w' → ∀ v0 v1, (fun w' => W0.heap.size ≤ w'.heap.size ∧ w'.cell? ⟨b, off + i * 8, none⟩ = some (.int .i64 (pcg L i).f0) ∧ w'.cell? ⟨b, off + i * 8 + 1, none⟩ = some (.int .i64 (pcg L i).f1) ∧ w'.cell? ⟨b, off + i * 8 + 2, none⟩ = some (.int .i64 (pcg L i).a0) ∧ w'.cell? ⟨b, off + i * 8 + 3, none⟩ = some (.int .i64 (pcg L i).a1) ∧ w'.cell? ⟨b, off + i * 8 + 4, none⟩ = some (.int .i64 (pcg L i).b0) ∧ w'.cell? ⟨b, off + i * 8 + 5, none⟩ = some (.int .i64 (pcg L i).b1) ∧ w'.cell? ⟨b, off + i * 8 + 6, none⟩ = some (.int .i64 (pcg L i).c0) ∧ w'.cell? ⟨b, off + i * 8 + 7, none⟩ = some (.int .i64 (pcg L i).c1) ∧ w'.cell? ⟨w.heap.size, 0, none⟩ = some (.int .i64 t.1) ∧ w'.cell? ⟨w.heap.size, 1, none⟩ = some (.int .i64 t.2)) ((w'.setCell ⟨w.heap.size + 1, 0, none⟩ v0).setCell ⟨w.heap.size + 1, 1, none⟩ v1)) := Lib.hid fun x w' h v0 v1 => by
    obtain ⟨h0, h1, h2, h3, h4, h5, h6, h7, h8, h9, h10⟩ := HX.out x w' h
    refine ⟨by simpa using h0, ?_, ?_, ?_, ?_, ?_, ?_, ?_, ?_, ?_, ?_⟩
    all_goals (refine (two_other (by omega) _ _ _).trans ?_; assumption)
   have hsd : Sm Bs 0 W0 W0.drew := (Sm.refl S0 S1).drew
   clear S0 S1 T0 T1 R0 R1 R2 R3 d0 d1 d2 d3 d4 d5 d6 d7
   refine wp_region_held_drew (S := (fun w' => W0.heap.size ≤ w'.heap.size ∧ w'.cell? ⟨b, off + i * 8, none⟩ = some (.int .i64 (pcg L i).f0) ∧ w'.cell? ⟨b, off + i * 8 + 1, none⟩ = some (.int .i64 (pcg L i).f1) ∧ w'.cell? ⟨b, off + i * 8 + 2, none⟩ = some (.int .i64 (pcg L i).a0) ∧ w'.cell? ⟨b, off + i * 8 + 3, none⟩ = some (.int .i64 (pcg L i).a1) ∧ w'.cell? ⟨b, off + i * 8 + 4, none⟩ = some (.int .i64 (pcg L i).b0) ∧ w'.cell? ⟨b, off + i * 8 + 5, none⟩ = some (.int .i64 (pcg L i).b1) ∧ w'.cell? ⟨b, off + i * 8 + 6, none⟩ = some (.int .i64 (pcg L i).c0) ∧ w'.cell? ⟨b, off + i * 8 + 7, none⟩ = some (.int .i64 (pcg L i).c1) ∧ w'.cell? ⟨w.heap.size, 0, none⟩ = some (.int .i64 t.1) ∧ w'.cell? ⟨w.heap.size, 1, none⟩ = some (.int .i64 t.2))) (by kernel_rfl) (HX.out _ _ hsd) (fun hHeld => ?_)
   refine tkB 0 ?_
   simp only [Act.put, List.setIfInBounds_toArray, List.set_cons_zero, List.set_cons_succ, List.getElem_toArray, List.getElem_cons_zero]
   refine tkB 1 ?_
   simp only [Act.put, List.setIfInBounds_toArray, List.set_cons_zero, List.set_cons_succ, List.getElem_toArray, List.getElem_cons_succ, List.getElem_cons_zero]
   refine tkB 2 ?_
   simp only [Act.put, List.setIfInBounds_toArray, List.set_cons_zero, List.set_cons_succ, List.getElem_toArray, List.getElem_cons_succ, List.getElem_cons_zero]
   refine tkB 3 ?_
   simp only [Act.put, List.setIfInBounds_toArray, List.set_cons_zero, List.set_cons_succ, List.getElem_toArray, List.getElem_cons_succ, List.getElem_cons_zero]
   refine tkB 4 ?_
   simp only [Act.put, List.setIfInBounds_toArray, List.set_cons_zero, List.set_cons_succ, List.getElem_toArray, List.getElem_cons_succ, List.getElem_cons_zero]
   refine tkB 5 ?_
   simp only [Act.put, List.setIfInBounds_toArray, List.set_cons_zero, List.set_cons_succ, List.getElem_toArray, List.getElem_cons_succ, List.getElem_cons_zero]
   refine tkB 6 ?_
   simp only [Act.put, List.setIfInBounds_toArray, List.set_cons_zero, List.set_cons_succ, List.getElem_toArray, List.getElem_cons_succ, List.getElem_cons_zero]
   refine tkB 7 ?_
   simp only [Act.put, List.setIfInBounds_toArray, List.set_cons_zero, List.set_cons_succ, List.getElem_toArray, List.getElem_cons_succ, List.getElem_cons_zero]
   refine tkB 8 ?_
   simp only [Act.put, List.setIfInBounds_toArray, List.set_cons_zero, List.set_cons_succ, List.getElem_toArray, List.getElem_cons_succ, List.getElem_cons_zero]
   refine tkB 9 ?_
   simp only [Act.put, List.setIfInBounds_toArray, List.set_cons_zero, List.set_cons_succ, List.getElem_toArray, List.getElem_cons_succ, List.getElem_cons_zero]
   refine tkB 10 ?_
   simp only [Act.put, List.setIfInBounds_toArray, List.set_cons_zero, List.set_cons_succ, List.getElem_toArray, List.getElem_cons_succ, List.getElem_cons_zero]
   refine tkB 11 ?_
   simp only [Act.put, List.setIfInBounds_toArray, List.set_cons_zero, List.set_cons_succ, List.getElem_toArray, List.getElem_cons_succ, List.getElem_cons_zero]
   refine tkB 12 ?_
   simp only [Act.put, List.setIfInBounds_toArray, List.set_cons_zero, List.set_cons_succ, List.getElem_toArray, List.getElem_cons_succ, List.getElem_cons_zero]
   refine wpAnyH_ready (rs := [13]) (by kernel_rfl) (by simp) ?_
   refine AllReadyH.cons (o := _) rfl (fun K hK => ?_) AllReadyH.nil
   try simp only [List.getElem_toArray, List.getElem_cons_succ, List.getElem_cons_zero]
   go_simp
   (go_at_call 38; go_split_ands; (with_reducible refine (HC1.out _ _ hsd.cell hsd.free).mono ?_); rintro z w5 ⟨rfl, ht1⟩; have hs1 := hsd.trans ht1)
   go_wp2_with fail
   refine hK.out _ _ (HX.out _ _ hs1) (fun hHeld => ?_)
   clear hK K
   try simp only [Act.put, List.setIfInBounds_toArray, List.set_cons_zero, List.set_cons_succ, List.getElem_toArray, List.getElem_cons_succ, List.getElem_cons_zero]
   refine wpAnyH_ready (rs := [14]) (by kernel_rfl) (by simp) ?_
   refine AllReadyH.cons (o := _) rfl (fun K hK => ?_) AllReadyH.nil
   try simp only [List.getElem_toArray, List.getElem_cons_succ, List.getElem_cons_zero]
   go_simp
   (go_at_call 39; go_split_ands; (with_reducible refine (HC2.out _ _ hs1.cell hs1.free).mono ?_); rintro z w6 ⟨rfl, ht2⟩; have hs2 := hs1.trans ht2)
   go_wp2_with fail
   refine hK.out _ _ (HX.out _ _ hs2) (fun hHeld => ?_)
   clear hK K
   try simp only [Act.put, List.setIfInBounds_toArray, List.set_cons_zero, List.set_cons_succ, List.getElem_toArray, List.getElem_cons_succ, List.getElem_cons_zero]
   refine wpAnyH_ready (rs := [15]) (by kernel_rfl) (by simp) ?_
   refine AllReadyH.cons (o := _) rfl (fun K hK => ?_) AllReadyH.nil
   try simp only [List.getElem_toArray, List.getElem_cons_succ, List.getElem_cons_zero]
   go_simp
   (go_at_call 43; go_split_ands; (with_reducible refine (HC3.out _ _ hs2.cell).mono ?_); rintro z w7 ⟨rfl, hb7⟩; have hs3 := hs2.then hb7)
   go_wp2_with fail
   refine hK.out _ _ (HX.out _ _ hs3) (fun hHeld => ?_)
   clear hK K
   try simp only [Act.put, List.setIfInBounds_toArray, List.set_cons_zero, List.set_cons_succ, List.getElem_toArray, List.getElem_cons_succ, List.getElem_cons_zero]
   refine tkB 16 ?_
   simp only [Act.put, List.setIfInBounds_toArray, List.set_cons_zero, List.set_cons_succ, List.getElem_toArray, List.getElem_cons_succ, List.getElem_cons_zero]
   refine tkB 17 ?_
   simp only [Act.put, List.setIfInBounds_toArray, List.set_cons_zero, List.set_cons_succ, List.getElem_toArray, List.getElem_cons_succ, List.getElem_cons_zero]
   refine wpAnyH_ready (rs := [18]) (by kernel_rfl) (by simp) ?_
   refine AllReadyH.cons (o := _) rfl (fun K hK => ?_) AllReadyH.nil
   go_split_ands
   obtain ⟨g0, g1, g2, g3⟩ := HY.out _ _ hs3
   try simp only [List.getElem_toArray, List.getElem_cons_succ, List.getElem_cons_zero]
   go_wp2_with fail
   refine hK.out _ _ (HZs.out _ _ hs3 _ _) (fun hHeld => ?_)
   clear hK K
   try simp only [Act.put, List.setIfInBounds_toArray, List.set_cons_zero, List.set_cons_succ, List.getElem_toArray, List.getElem_cons_succ, List.getElem_cons_zero]
   refine tkB 19 ?_
   simp only [Act.put, List.setIfInBounds_toArray, List.set_cons_zero, List.set_cons_succ, List.getElem_toArray, List.getElem_cons_succ, List.getElem_cons_zero]
   refine wpAnyH_done (by kernel_rfl) ?_ _
   go_wp2_with fail
   have l0 := (two_cells (v0 := .int .i64 q1) (v1 := .int .i64 q2) g0 g1).1
   have l1 := (two_cells (v0 := .int .i64 q1) (v1 := .int .i64 q2) g0 g1).2
   refine bodyPost_ret (v := .tuple #[.agg #[.int .i64 q1, .int .i64 q2], .int .i64 K2.2]) (by simp [results, Try.results24, go_sem, l0, l1]) rfl ⟨rfl, ?_⟩
   have hB5 := hB4.trans (hs3.below (n := w.heap.size) (by omega) (by omega))
   exact (hB5.setCell (p := ⟨w.heap.size + 1, 0, none⟩) (Nat.le_succ _) _).setCell (p := ⟨w.heap.size + 1, 1, none⟩) (Nat.le_succ _) _
set_option maxRecDepth 100000 in
set_option maxHeartbeats 8000000 in
theorem qslopeAt_any (L : List Pc) (ok : CurveOK L) (t : Int × Int) (a : Option Addr) (c : Nat) (w : World) (hL : Pcs w.heap.size w a L) :
  Calls Try.prog 18 #[.slice a L.length c, .agg #[.int .i64 t.1, .int .i64 t.2]] w fun e w' => e = .returned (.tuple #[.agg #[.int .i64 (slopeP L t).1, .int .i64 (slopeP L t).2.1], .int .i64 (slopeP L t).2.2]) ∧ Below w.heap.size w w' := by
 have hpos := ok.pos
 have hlen := ok.len
 have hL0 : Pcs ((w.alloc (.cells #[.int .i64 t.1, .int .i64 t.2] 29)).alloc (.cells #[.int .i64 0, .int .i64 0] 29)).heap.size ((w.alloc (.cells #[.int .i64 t.1, .int .i64 t.2] 29)).alloc (.cells #[.int .i64 0, .int .i64 0] 29)) a L := hL.grow ((below_new _ _).alloc (by simp) _)
 have HV := Lib.hid (fun c w h => qvalid_yes L ok a c w h)
 have HOK := Lib.hid ok
 have HL := Lib.hid hL
 obtain ⟨Z, hZ⟩ : ∃ Z, slopeP L t = Z := ⟨_, rfl⟩
 rw [hZ]
 have HZ := Lib.hid hZ
 clear ok hL hZ
 by_cases vt : vF t = true
 case neg =>
  have HVT : Hid (validF t.1 t.2 = false) := Lib.hid (by have := Bool.not_eq_true _ ▸ vt; exact this)
  have HR : Hid (Z = (0, 0, 1)) := Lib.hid (by rw [← HZ.out]; unfold slopeP; rw [if_neg vt])
  rw [HR.out]
  clear vt
  go_enter Try.func18, Try.ntmps18
  go_wp2_with (first
   | (go_at_call 17; (with_reducible refine (HV.out _ _ ?_).mono ?_); (next => exact hL0); rintro e w1 ⟨rfl, hb1⟩; have t0 : w1.cell? ⟨w.heap.size, 0, none⟩ = some (.int .i64 t.1) := (hb1.cell (p := ⟨w.heap.size, 0, none⟩) (by simp <;> omega)).trans (by simp [go_sem, World.cell?_alloc_past]); have t1 : w1.cell? ⟨w.heap.size, 1, none⟩ = some (.int .i64 t.2) := (hb1.cell (p := ⟨w.heap.size, 1, none⟩) (by simp <;> omega)).trans (by simp [go_sem, World.cell?_alloc_past]); have r0 : w1.cell? ⟨w.heap.size + 1, 0, none⟩ = some (.int .i64 0) := (hb1.cell (p := ⟨w.heap.size + 1, 0, none⟩) (by simp <;> omega)).trans (by simp [go_sem]); have r1 : w1.cell? ⟨w.heap.size + 1, 1, none⟩ = some (.int .i64 0) := (hb1.cell (p := ⟨w.heap.size + 1, 1, none⟩) (by simp <;> omega)).trans (by simp [go_sem]); have r2 : w1.frozen? ⟨w.heap.size + 1, 0, none⟩ = false := (hb1.frozen (p := ⟨w.heap.size + 1, 0, none⟩) (by simp <;> omega)).trans (by simp [go_sem]); have r3 : w1.frozen? ⟨w.heap.size + 1, 1, none⟩ = false := (hb1.frozen (p := ⟨w.heap.size + 1, 1, none⟩) (by simp <;> omega)).trans (by simp [go_sem]); have hB1 : Below w.heap.size w w1 := ((below_new w (.cells #[.int .i64 t.1, .int .i64 t.2] 29)).alloc (by simp) (.cells #[.int .i64 0, .int .i64 0] 29)).trans (hb1.mono (by simp <;> omega)); have z1 := World.block_lt_of_cell? _ _ r0; simp only at z1)
   | (go_at_call 25; (with_reducible refine (valid_any t.1 t.2 _).mono ?_); rintro e w2 ⟨rfl, hb2⟩; rw [HVT.out]; have hB2 := hB1.trans (hb2.mono hB1.size); have T0 := (hb2.cell (p := ⟨w.heap.size, 0, none⟩) (by simp; omega)).trans t0; have T1 := (hb2.cell (p := ⟨w.heap.size, 1, none⟩) (by simp; omega)).trans t1; have R0 := (hb2.cell (p := ⟨w.heap.size + 1, 0, none⟩) z1).trans r0; have R1 := (hb2.cell (p := ⟨w.heap.size + 1, 1, none⟩) z1).trans r1; have R2 := (hb2.frozen (p := ⟨w.heap.size + 1, 0, none⟩) z1).trans r2; have R3 := (hb2.frozen (p := ⟨w.heap.size + 1, 1, none⟩) z1).trans r3; have z2 := World.block_lt_of_cell? _ _ R0; simp only at z2; have zz : w.heap.size < w2.heap.size := (by omega); clear t0 t1 r0 r1 r2 r3 hb1 hb2))
  have l0 := (two_cells (v0 := .int .i64 0) (v1 := .int .i64 0) R0 R1).1
  have l1 := (two_cells (v0 := .int .i64 0) (v1 := .int .i64 0) R0 R1).2
  refine bodyPost_ret (v := .tuple #[.agg #[.int .i64 0, .int .i64 0], .int .i64 1]) (by simp [results, Try.results18, go_sem, l0, l1]) rfl ⟨rfl, ?_⟩
  exact (hB2.setCell (p := ⟨w.heap.size + 1, 0, none⟩) (Nat.le_succ _) _).setCell (p := ⟨w.heap.size + 1, 1, none⟩) (Nat.le_succ _) _
 case pos =>
  have HVT : Hid (validF t.1 t.2 = true) := Lib.hid vt
  have HTT := Lib.hid vt
  have HZ2 : Hid (Z = if pieceN L t L.length < 0 then (0, 1, 0) else slopeAt L t (pieceN L t L.length).toNat) := Lib.hid (by rw [← HZ.out]; unfold slopeP; rw [if_pos vt])
  clear vt HZ
  obtain ⟨kI, hk⟩ : ∃ k, pieceN L t L.length = k := ⟨_, rfl⟩
  have hkr := pieceN_range L t L.length
  rw [hk] at hkr
  have HK := Lib.hid hk
  rw [hk] at HZ2
  clear hk
  by_cases neg : kI < 0
  ·have g : decide (kI < 0) = true := decide_eq_true neg
   rw [if_pos neg] at HZ2
   rw [HZ2.out]
   clear neg
   go_enter Try.func18, Try.ntmps18
   go_wp2_with (first
    | (go_at_call 17; (with_reducible refine (HV.out _ _ ?_).mono ?_); (next => exact hL0); rintro e w1 ⟨rfl, hb1⟩; have t0 : w1.cell? ⟨w.heap.size, 0, none⟩ = some (.int .i64 t.1) := (hb1.cell (p := ⟨w.heap.size, 0, none⟩) (by simp <;> omega)).trans (by simp [go_sem, World.cell?_alloc_past]); have t1 : w1.cell? ⟨w.heap.size, 1, none⟩ = some (.int .i64 t.2) := (hb1.cell (p := ⟨w.heap.size, 1, none⟩) (by simp <;> omega)).trans (by simp [go_sem, World.cell?_alloc_past]); have r0 : w1.cell? ⟨w.heap.size + 1, 0, none⟩ = some (.int .i64 0) := (hb1.cell (p := ⟨w.heap.size + 1, 0, none⟩) (by simp <;> omega)).trans (by simp [go_sem]); have r1 : w1.cell? ⟨w.heap.size + 1, 1, none⟩ = some (.int .i64 0) := (hb1.cell (p := ⟨w.heap.size + 1, 1, none⟩) (by simp <;> omega)).trans (by simp [go_sem]); have r2 : w1.frozen? ⟨w.heap.size + 1, 0, none⟩ = false := (hb1.frozen (p := ⟨w.heap.size + 1, 0, none⟩) (by simp <;> omega)).trans (by simp [go_sem]); have r3 : w1.frozen? ⟨w.heap.size + 1, 1, none⟩ = false := (hb1.frozen (p := ⟨w.heap.size + 1, 1, none⟩) (by simp <;> omega)).trans (by simp [go_sem]); have hB1 : Below w.heap.size w w1 := ((below_new w (.cells #[.int .i64 t.1, .int .i64 t.2] 29)).alloc (by simp) (.cells #[.int .i64 0, .int .i64 0] 29)).trans (hb1.mono (by simp <;> omega)); have z1 := World.block_lt_of_cell? _ _ r0; simp only at z1)
    | (go_at_call 25; (with_reducible refine (valid_any t.1 t.2 _).mono ?_); rintro e w2 ⟨rfl, hb2⟩; rw [HVT.out]; have hB2 := hB1.trans (hb2.mono hB1.size); have T0 := (hb2.cell (p := ⟨w.heap.size, 0, none⟩) (by simp; omega)).trans t0; have T1 := (hb2.cell (p := ⟨w.heap.size, 1, none⟩) (by simp; omega)).trans t1; have R0 := (hb2.cell (p := ⟨w.heap.size + 1, 0, none⟩) z1).trans r0; have R1 := (hb2.cell (p := ⟨w.heap.size + 1, 1, none⟩) z1).trans r1; have R2 := (hb2.frozen (p := ⟨w.heap.size + 1, 0, none⟩) z1).trans r2; have R3 := (hb2.frozen (p := ⟨w.heap.size + 1, 1, none⟩) z1).trans r3; have z2 := World.block_lt_of_cell? _ _ R0; simp only at z2; have zz : w.heap.size < w2.heap.size := (by omega); clear t0 t1 r0 r1 r2 r3 hb1 hb2)
    | (go_at_call 42; have W20 : Below w2.heap.size w2 (w2.alloc (.cells #[.int .i64 0] 73)) := below_new _ _; have hB3 := hB2.trans (W20.mono hB2.size); (with_reducible refine (piece_any L HOK.out t HTT.out a c _ (HL.out.grow hB3)).mono ?_); rw [HK.out]; rintro e w4 ⟨rfl, hb4⟩; have hB4 := hB3.trans (hb4.mono hB3.size); have hb5 := W20.trans (hb4.mono W20.size); have S0 : w4.cell? ⟨w2.heap.size, 0, none⟩ = some (.int .i64 0) := (hb4.cell (p := ⟨w2.heap.size, 0, none⟩) (by simp)).trans (by simp); have S1 : w4.frozen? ⟨w2.heap.size, 0, none⟩ = false := (hb4.frozen (p := ⟨w2.heap.size, 0, none⟩) (by simp)).trans (by simp); have t0 := (hb5.cell (p := ⟨w.heap.size, 0, none⟩) (by simp; omega)).trans T0; have t1 := (hb5.cell (p := ⟨w.heap.size, 1, none⟩) (by simp; omega)).trans T1; have r0 := (hb5.cell (p := ⟨w.heap.size + 1, 0, none⟩) z2).trans R0; have r1 := (hb5.cell (p := ⟨w.heap.size + 1, 1, none⟩) z2).trans R1; have r2 := (hb5.frozen (p := ⟨w.heap.size + 1, 0, none⟩) z2).trans R2; have r3 := (hb5.frozen (p := ⟨w.heap.size + 1, 1, none⟩) z2).trans R3; have hBs4 : w2.heap.size < w4.heap.size := World.block_lt_of_cell? _ _ S0; clear T0 T1 R0 R1 R2 R3 hb4 hb5 W20 hB3)
    | (go_at_call 37; (with_reducible refine (qzero_any _).mono ?_); rintro x w5 ⟨rfl, hb5⟩; have R0 := (hb5.cell (p := ⟨w.heap.size + 1, 0, none⟩) (by simp; omega)).trans r0; have R1 := (hb5.cell (p := ⟨w.heap.size + 1, 1, none⟩) (by simp; omega)).trans r1; have R2 := (hb5.frozen (p := ⟨w.heap.size + 1, 0, none⟩) (by simp; omega)).trans r2; have R3 := (hb5.frozen (p := ⟨w.heap.size + 1, 1, none⟩) (by simp; omega)).trans r3))
   have l0 := (two_cells (v0 := .int .i64 0) (v1 := .int .i64 1) R0 R1).1
   have l1 := (two_cells (v0 := .int .i64 0) (v1 := .int .i64 1) R0 R1).2
   refine bodyPost_ret (v := .tuple #[.agg #[.int .i64 0, .int .i64 1], .int .i64 0]) (by simp [results, Try.results18, go_sem, l0, l1]) rfl ⟨rfl, ?_⟩
   have hB5 := hB4.trans (hb5.mono hB4.size)
   exact (hB5.setCell (p := ⟨w.heap.size + 1, 0, none⟩) (Nat.le_succ _) _).setCell (p := ⟨w.heap.size + 1, 1, none⟩) (Nat.le_succ _) _
  ·have g : decide (kI < 0) = false := decide_eq_false neg
   rw [if_neg neg] at HZ2
   obtain ⟨i, rfl⟩ := Int.eq_ofNat_of_zero_le (show 0 ≤ kI by omega)
   rw [Int.toNat_natCast] at HZ2
   have hi : i < L.length := by omega
   have hi1 : (i : Int) < (L.length : Int) := by omega
   have hi0 : (0 : Int) ≤ (i : Int) := by omega
   have hok := HOK.out.val i hi
   have VF : vF ((pcg L i).f0, (pcg L i).f1) = true := hok.f
   have VA : vF ((pcg L i).a0, (pcg L i).a1) = true := hok.a
   have VB : vF ((pcg L i).b0, (pcg L i).b1) = true := hok.b
   have VC : vF ((pcg L i).c0, (pcg L i).c1) = true := hok.c
   obtain ⟨K1, hK1⟩ : ∃ K, kSub 0 t ((pcg L i).f0, (pcg L i).f1) = K := ⟨_, rfl⟩
   have V1 : vF K1.1 = true := by rw [← hK1]; exact kSub_valid HTT.out VF
   have HC1 : Hid (∀ (Bs : Nat) (w : World), w.cell? ⟨Bs, 0, none⟩ = some (.int .i64 0) → w.frozen? ⟨Bs, 0, none⟩ = false → Calls Try.prog 38 #[.pointer (some ⟨Bs, 0, none⟩), .agg #[.int .i64 t.1, .int .i64 t.2], .agg #[.int .i64 (pcg L i).f0, .int .i64 (pcg L i).f1]] w fun z w' => z = .returned (.agg #[.int .i64 K1.1.1, .int .i64 K1.1.2]) ∧ Sm Bs K1.2 w w') := Lib.hid fun Bs w h0 h1 => by
    have := ksub_any Bs 0 t ((pcg L i).f0, (pcg L i).f1) HTT.out VF w h0 h1
    rwa [hK1] at this
   obtain ⟨K2, hK2⟩ : ∃ K, kSlope K1.2 ((pcg L i).b0, (pcg L i).b1) ((pcg L i).c0, (pcg L i).c1) K1.1 = K := ⟨_, rfl⟩
   have HC2 : Hid (∀ (Bs : Nat) (w : World), w.cell? ⟨Bs, 0, none⟩ = some (.int .i64 K1.2) → w.frozen? ⟨Bs, 0, none⟩ = false → Calls Try.prog 40 #[.pointer (some ⟨Bs, 0, none⟩), .agg #[.int .i64 (pcg L i).f0, .int .i64 (pcg L i).f1, .int .i64 (pcg L i).a0, .int .i64 (pcg L i).a1, .int .i64 (pcg L i).b0, .int .i64 (pcg L i).b1, .int .i64 (pcg L i).c0, .int .i64 (pcg L i).c1], .agg #[.int .i64 K1.1.1, .int .i64 K1.1.2]] w fun z w' => z = .returned (.agg #[.int .i64 K2.1.1, .int .i64 K2.1.2]) ∧ Sm Bs K2.2 w w') := Lib.hid fun Bs w h0 h1 => by
    have := qslope_any Bs K1.2 ((pcg L i).f0, (pcg L i).f1) ((pcg L i).a0, (pcg L i).a1) ((pcg L i).b0, (pcg L i).b1) ((pcg L i).c0, (pcg L i).c1) K1.1 VB VC V1 w h0 h1
    rwa [hK2] at this
   have HR : Hid (Z = (if K2.2 = 0 then K2.1.1 else 0, if K2.2 = 0 then K2.1.2 else 0, K2.2)) := Lib.hid (by rw [HZ2.out]; unfold slopeAt; simp only [hK1, hK2]; rfl)
   obtain ⟨q1, hq1⟩ : ∃ q, (if K2.2 = 0 then K2.1.1 else 0) = q := ⟨_, rfl⟩
   obtain ⟨q2, hq2⟩ : ∃ q, (if K2.2 = 0 then K2.1.2 else 0) = q := ⟨_, rfl⟩
   have HC3 : Hid (∀ (Bs : Nat) (w : World), w.cell? ⟨Bs, 0, none⟩ = some (.int .i64 K2.2) → Calls Try.prog 43 #[.pointer (some ⟨Bs, 0, none⟩), .agg #[.int .i64 K2.1.1, .int .i64 K2.1.2]] w fun z w' => z = .returned (.tuple #[.agg #[.int .i64 q1, .int .i64 q2], .int .i64 K2.2]) ∧ Below w.heap.size w w') := Lib.hid fun Bs w h0 => by
    have := qresult_any Bs K2.2 K2.1 w h0
    rwa [hq1, hq2] at this
   rw [hq1, hq2] at HR
   rw [HR.out]
   clear hq1 hq2 hK1 hK2 V1 VF VA VB VC hok HZ2 neg
   obtain ⟨b, off, rfl, hb, hc⟩ := HL.out (by omega)
   obtain ⟨c0, c1, c2, c3, c4, c5, c6, c7⟩ := hc i hi
   have HC := Lib.hid (hc i hi)
   clear hc c0 c1 c2 c3 c4 c5 c6 c7
   go_enter Try.func18, Try.ntmps18
   go_upto_region 7 with (first
    | (go_at_call 17; (with_reducible refine (HV.out _ _ ?_).mono ?_); (next => exact hL0); rintro e w1 ⟨rfl, hb1⟩; have t0 : w1.cell? ⟨w.heap.size, 0, none⟩ = some (.int .i64 t.1) := (hb1.cell (p := ⟨w.heap.size, 0, none⟩) (by simp <;> omega)).trans (by simp [go_sem, World.cell?_alloc_past]); have t1 : w1.cell? ⟨w.heap.size, 1, none⟩ = some (.int .i64 t.2) := (hb1.cell (p := ⟨w.heap.size, 1, none⟩) (by simp <;> omega)).trans (by simp [go_sem, World.cell?_alloc_past]); have r0 : w1.cell? ⟨w.heap.size + 1, 0, none⟩ = some (.int .i64 0) := (hb1.cell (p := ⟨w.heap.size + 1, 0, none⟩) (by simp <;> omega)).trans (by simp [go_sem]); have r1 : w1.cell? ⟨w.heap.size + 1, 1, none⟩ = some (.int .i64 0) := (hb1.cell (p := ⟨w.heap.size + 1, 1, none⟩) (by simp <;> omega)).trans (by simp [go_sem]); have r2 : w1.frozen? ⟨w.heap.size + 1, 0, none⟩ = false := (hb1.frozen (p := ⟨w.heap.size + 1, 0, none⟩) (by simp <;> omega)).trans (by simp [go_sem]); have r3 : w1.frozen? ⟨w.heap.size + 1, 1, none⟩ = false := (hb1.frozen (p := ⟨w.heap.size + 1, 1, none⟩) (by simp <;> omega)).trans (by simp [go_sem]); have hB1 : Below w.heap.size w w1 := ((below_new w (.cells #[.int .i64 t.1, .int .i64 t.2] 29)).alloc (by simp) (.cells #[.int .i64 0, .int .i64 0] 29)).trans (hb1.mono (by simp <;> omega)); have z1 := World.block_lt_of_cell? _ _ r0; simp only at z1)
    | (go_at_call 25; (with_reducible refine (valid_any t.1 t.2 _).mono ?_); rintro e w2 ⟨rfl, hb2⟩; rw [HVT.out]; have hB2 := hB1.trans (hb2.mono hB1.size); have T0 := (hb2.cell (p := ⟨w.heap.size, 0, none⟩) (by simp; omega)).trans t0; have T1 := (hb2.cell (p := ⟨w.heap.size, 1, none⟩) (by simp; omega)).trans t1; have R0 := (hb2.cell (p := ⟨w.heap.size + 1, 0, none⟩) z1).trans r0; have R1 := (hb2.cell (p := ⟨w.heap.size + 1, 1, none⟩) z1).trans r1; have R2 := (hb2.frozen (p := ⟨w.heap.size + 1, 0, none⟩) z1).trans r2; have R3 := (hb2.frozen (p := ⟨w.heap.size + 1, 1, none⟩) z1).trans r3; have z2 := World.block_lt_of_cell? _ _ R0; simp only at z2; have zz : w.heap.size < w2.heap.size := (by omega); clear t0 t1 r0 r1 r2 r3 hb1 hb2)
    | (go_at_call 42; have W20 : Below w2.heap.size w2 (w2.alloc (.cells #[.int .i64 0] 73)) := below_new _ _; have hB3 := hB2.trans (W20.mono hB2.size); (with_reducible refine (piece_any L HOK.out t HTT.out (some ⟨b, off, none⟩) c _ (HL.out.grow hB3)).mono ?_); rw [HK.out]; rintro e w4 ⟨rfl, hb4⟩; have hB4 := hB3.trans (hb4.mono hB3.size); have hb5 := W20.trans (hb4.mono W20.size); have S0 : w4.cell? ⟨w2.heap.size, 0, none⟩ = some (.int .i64 0) := (hb4.cell (p := ⟨w2.heap.size, 0, none⟩) (by simp)).trans (by simp); have S1 : w4.frozen? ⟨w2.heap.size, 0, none⟩ = false := (hb4.frozen (p := ⟨w2.heap.size, 0, none⟩) (by simp)).trans (by simp); have t0 := (hb5.cell (p := ⟨w.heap.size, 0, none⟩) (by simp; omega)).trans T0; have t1 := (hb5.cell (p := ⟨w.heap.size, 1, none⟩) (by simp; omega)).trans T1; have r0 := (hb5.cell (p := ⟨w.heap.size + 1, 0, none⟩) z2).trans R0; have r1 := (hb5.cell (p := ⟨w.heap.size + 1, 1, none⟩) z2).trans R1; have r2 := (hb5.frozen (p := ⟨w.heap.size + 1, 0, none⟩) z2).trans R2; have r3 := (hb5.frozen (p := ⟨w.heap.size + 1, 1, none⟩) z2).trans R3; have hBs4 : w2.heap.size < w4.heap.size := World.block_lt_of_cell? _ _ S0; clear T0 T1 R0 R1 R2 R3 hb4 hb5 W20 hB3))
   have T0 := t0
   have T1 := t1
   have R0 := r0
   have R1 := r1
   have R2 := r2
   have R3 := r3
   clear t0 t1 r0 r1 r2 r3
   obtain ⟨Bs, hBB⟩ : ∃ b, w2.heap.size = b := ⟨_, rfl⟩
   simp only [hBB] at S0 S1 hBs4 z2 ⊢
   clear hBB
   generalize w4 = W0 at *
   obtain ⟨c0, c1, c2, c3, c4, c5, c6, c7⟩ := HC.out
   have d0 := (hB4.cell (p := ⟨b, off + i * 8, none⟩) hb).trans c0
   have d1 := (hB4.cell (p := ⟨b, off + i * 8 + 1, none⟩) hb).trans c1
   have d2 := (hB4.cell (p := ⟨b, off + i * 8 + 2, none⟩) hb).trans c2
   have d3 := (hB4.cell (p := ⟨b, off + i * 8 + 3, none⟩) hb).trans c3
   have d4 := (hB4.cell (p := ⟨b, off + i * 8 + 4, none⟩) hb).trans c4
   have d5 := (hB4.cell (p := ⟨b, off + i * 8 + 5, none⟩) hb).trans c5
   have d6 := (hB4.cell (p := ⟨b, off + i * 8 + 6, none⟩) hb).trans c6
   have d7 := (hB4.cell (p := ⟨b, off + i * 8 + 7, none⟩) hb).trans c7
   clear c0 c1 c2 c3 c4 c5 c6 c7
   have HX : Hid (∀ x w', Sm Bs x W0 w' → W0.heap.size ≤ w'.heap.size ∧ w'.cell? ⟨b, off + i * 8, none⟩ = some (.int .i64 (pcg L i).f0) ∧ w'.cell? ⟨b, off + i * 8 + 1, none⟩ = some (.int .i64 (pcg L i).f1) ∧ w'.cell? ⟨b, off + i * 8 + 2, none⟩ = some (.int .i64 (pcg L i).a0) ∧ w'.cell? ⟨b, off + i * 8 + 3, none⟩ = some (.int .i64 (pcg L i).a1) ∧ w'.cell? ⟨b, off + i * 8 + 4, none⟩ = some (.int .i64 (pcg L i).b0) ∧ w'.cell? ⟨b, off + i * 8 + 5, none⟩ = some (.int .i64 (pcg L i).b1) ∧ w'.cell? ⟨b, off + i * 8 + 6, none⟩ = some (.int .i64 (pcg L i).c0) ∧ w'.cell? ⟨b, off + i * 8 + 7, none⟩ = some (.int .i64 (pcg L i).c1) ∧ w'.cell? ⟨w.heap.size, 0, none⟩ = some (.int .i64 t.1) ∧ w'.cell? ⟨w.heap.size, 1, none⟩ = some (.int .i64 t.2)) := Lib.hid fun x w' h =>
    ⟨h.size, (h.other (p := ⟨b, off + i * 8, none⟩) (by simp; omega) (by simp; omega)).trans d0, (h.other (p := ⟨b, off + i * 8 + 1, none⟩) (by simp; omega) (by simp; omega)).trans d1, (h.other (p := ⟨b, off + i * 8 + 2, none⟩) (by simp; omega) (by simp; omega)).trans d2, (h.other (p := ⟨b, off + i * 8 + 3, none⟩) (by simp; omega) (by simp; omega)).trans d3, (h.other (p := ⟨b, off + i * 8 + 4, none⟩) (by simp; omega) (by simp; omega)).trans d4, (h.other (p := ⟨b, off + i * 8 + 5, none⟩) (by simp; omega) (by simp; omega)).trans d5, (h.other (p := ⟨b, off + i * 8 + 6, none⟩) (by simp; omega) (by simp; omega)).trans d6, (h.other (p := ⟨b, off + i * 8 + 7, none⟩) (by simp; omega) (by simp; omega)).trans d7, (h.other (p := ⟨w.heap.size, 0, none⟩) (by simp; omega) (by simp; omega)).trans T0, (h.other (p := ⟨w.heap.size, 1, none⟩) (by simp; omega) (by simp; omega)).trans T1⟩
   have HY : Hid (∀ x w', Sm Bs x W0 w' → w'.cell? ⟨w.heap.size + 1, 0, none⟩ = some (.int .i64 0) ∧ w'.cell? ⟨w.heap.size + 1, 1, none⟩ = some (.int .i64 0) ∧ w'.frozen? ⟨w.heap.size + 1, 0, none⟩ = false ∧ w'.frozen? ⟨w.heap.size + 1, 1, none⟩ = false) := Lib.hid fun x w' h =>
    ⟨(h.other (p := ⟨w.heap.size + 1, 0, none⟩) (by simp; omega) (by simp; omega)).trans R0, (h.other (p := ⟨w.heap.size + 1, 1, none⟩) (by simp; omega) (by simp; omega)).trans R1, (h.otherF (p := ⟨w.heap.size + 1, 0, none⟩) (by simp; omega) (by simp; omega)).trans R2, (h.otherF (p := ⟨w.heap.size + 1, 1, none⟩) (by simp; omega) (by simp; omega)).trans R3⟩
   have HZs : Hid (∀ x w', Sm Bs x W0 w' → ∀ v0 v1, (fun w' => W0.heap.size ≤ w'.heap.size ∧ w'.cell? ⟨b, off + i * 8, none⟩ = some (.int .i64 (pcg L i).f0) ∧ w'.cell? ⟨b, off + i * 8 + 1, none⟩ = some (.int .i64 (pcg L i).f1) ∧ w'.cell? ⟨b, off + i * 8 + 2, none⟩ = some (.int .i64 (pcg L i).a0) ∧ w'.cell? ⟨b, off + i * 8 + 3, none⟩ = some (.int .i64 (pcg L i).a1) ∧ w'.cell? ⟨b, off + i * 8 + 4, none⟩ = some (.int .i64 (pcg L i).b0) ∧ w'.cell? ⟨b, off + i * 8 + 5, none⟩ = some (.int .i64 (pcg L i).b1) ∧ w'.cell? ⟨b, off + i * 8 + 6, none⟩ = some (.int .i64 (pcg L i).c0) ∧ w'.cell? ⟨b, off + i * 8 + 7, none⟩ = some (.int .i64 (pcg L i).c1) ∧ w'.cell? ⟨w.heap.size, 0, none⟩ = some (.int .i64 t.1) ∧ w'.cell? ⟨w.heap.size, 1, none⟩ = some (.int .i64 t.2)) ((w'.setCell ⟨w.heap.size + 1, 0, none⟩ v0).setCell ⟨w.heap.size + 1, 1, none⟩ v1)) := Lib.hid fun x w' h v0 v1 => by
    obtain ⟨h0, h1, h2, h3, h4, h5, h6, h7, h8, h9, h10⟩ := HX.out x w' h
    refine ⟨by simpa using h0, ?_, ?_, ?_, ?_, ?_, ?_, ?_, ?_, ?_, ?_⟩
    all_goals (refine (two_other (by omega) _ _ _).trans ?_; assumption)
   have hsd : Sm Bs 0 W0 W0.drew := (Sm.refl S0 S1).drew
   clear S0 S1 T0 T1 R0 R1 R2 R3 d0 d1 d2 d3 d4 d5 d6 d7
   refine wp_region_held_drew (S := (fun w' => W0.heap.size ≤ w'.heap.size ∧ w'.cell? ⟨b, off + i * 8, none⟩ = some (.int .i64 (pcg L i).f0) ∧ w'.cell? ⟨b, off + i * 8 + 1, none⟩ = some (.int .i64 (pcg L i).f1) ∧ w'.cell? ⟨b, off + i * 8 + 2, none⟩ = some (.int .i64 (pcg L i).a0) ∧ w'.cell? ⟨b, off + i * 8 + 3, none⟩ = some (.int .i64 (pcg L i).a1) ∧ w'.cell? ⟨b, off + i * 8 + 4, none⟩ = some (.int .i64 (pcg L i).b0) ∧ w'.cell? ⟨b, off + i * 8 + 5, none⟩ = some (.int .i64 (pcg L i).b1) ∧ w'.cell? ⟨b, off + i * 8 + 6, none⟩ = some (.int .i64 (pcg L i).c0) ∧ w'.cell? ⟨b, off + i * 8 + 7, none⟩ = some (.int .i64 (pcg L i).c1) ∧ w'.cell? ⟨w.heap.size, 0, none⟩ = some (.int .i64 t.1) ∧ w'.cell? ⟨w.heap.size, 1, none⟩ = some (.int .i64 t.2))) (by kernel_rfl) (HX.out _ _ hsd) (fun hHeld => ?_)
   refine tkB 0 ?_
   simp only [Act.put, List.setIfInBounds_toArray, List.set_cons_zero, List.set_cons_succ, List.getElem_toArray, List.getElem_cons_zero]
   refine tkB 1 ?_
   simp only [Act.put, List.setIfInBounds_toArray, List.set_cons_zero, List.set_cons_succ, List.getElem_toArray, List.getElem_cons_succ, List.getElem_cons_zero]
   refine tkB 2 ?_
   simp only [Act.put, List.setIfInBounds_toArray, List.set_cons_zero, List.set_cons_succ, List.getElem_toArray, List.getElem_cons_succ, List.getElem_cons_zero]
   refine tkB 3 ?_
   simp only [Act.put, List.setIfInBounds_toArray, List.set_cons_zero, List.set_cons_succ, List.getElem_toArray, List.getElem_cons_succ, List.getElem_cons_zero]
   refine tkB 4 ?_
   simp only [Act.put, List.setIfInBounds_toArray, List.set_cons_zero, List.set_cons_succ, List.getElem_toArray, List.getElem_cons_succ, List.getElem_cons_zero]
   refine tkB 5 ?_
   simp only [Act.put, List.setIfInBounds_toArray, List.set_cons_zero, List.set_cons_succ, List.getElem_toArray, List.getElem_cons_succ, List.getElem_cons_zero]
   refine tkB 6 ?_
   simp only [Act.put, List.setIfInBounds_toArray, List.set_cons_zero, List.set_cons_succ, List.getElem_toArray, List.getElem_cons_succ, List.getElem_cons_zero]
   refine tkB 7 ?_
   simp only [Act.put, List.setIfInBounds_toArray, List.set_cons_zero, List.set_cons_succ, List.getElem_toArray, List.getElem_cons_succ, List.getElem_cons_zero]
   refine tkB 8 ?_
   simp only [Act.put, List.setIfInBounds_toArray, List.set_cons_zero, List.set_cons_succ, List.getElem_toArray, List.getElem_cons_succ, List.getElem_cons_zero]
   refine tkB 9 ?_
   simp only [Act.put, List.setIfInBounds_toArray, List.set_cons_zero, List.set_cons_succ, List.getElem_toArray, List.getElem_cons_succ, List.getElem_cons_zero]
   refine tkB 10 ?_
   simp only [Act.put, List.setIfInBounds_toArray, List.set_cons_zero, List.set_cons_succ, List.getElem_toArray, List.getElem_cons_succ, List.getElem_cons_zero]
   refine tkB 11 ?_
   simp only [Act.put, List.setIfInBounds_toArray, List.set_cons_zero, List.set_cons_succ, List.getElem_toArray, List.getElem_cons_succ, List.getElem_cons_zero]
   refine tkB 12 ?_
   simp only [Act.put, List.setIfInBounds_toArray, List.set_cons_zero, List.set_cons_succ, List.getElem_toArray, List.getElem_cons_succ, List.getElem_cons_zero]
   refine wpAnyH_ready (rs := [13]) (by kernel_rfl) (by simp) ?_
   refine AllReadyH.cons (o := _) rfl (fun K hK => ?_) AllReadyH.nil
   try simp only [List.getElem_toArray, List.getElem_cons_succ, List.getElem_cons_zero]
   go_simp
   (go_at_call 38; go_split_ands; (with_reducible refine (HC1.out _ _ hsd.cell hsd.free).mono ?_); rintro z w5 ⟨rfl, ht1⟩; have hs1 := hsd.trans ht1)
   go_wp2_with fail
   refine hK.out _ _ (HX.out _ _ hs1) (fun hHeld => ?_)
   clear hK K
   try simp only [Act.put, List.setIfInBounds_toArray, List.set_cons_zero, List.set_cons_succ, List.getElem_toArray, List.getElem_cons_succ, List.getElem_cons_zero]
   refine wpAnyH_ready (rs := [14]) (by kernel_rfl) (by simp) ?_
   refine AllReadyH.cons (o := _) rfl (fun K hK => ?_) AllReadyH.nil
   try simp only [List.getElem_toArray, List.getElem_cons_succ, List.getElem_cons_zero]
   go_simp
   (go_at_call 40; go_split_ands; (with_reducible refine (HC2.out _ _ hs1.cell hs1.free).mono ?_); rintro z w6 ⟨rfl, ht2⟩; have hs2 := hs1.trans ht2)
   go_wp2_with fail
   refine hK.out _ _ (HX.out _ _ hs2) (fun hHeld => ?_)
   clear hK K
   try simp only [Act.put, List.setIfInBounds_toArray, List.set_cons_zero, List.set_cons_succ, List.getElem_toArray, List.getElem_cons_succ, List.getElem_cons_zero]
   refine wpAnyH_ready (rs := [15]) (by kernel_rfl) (by simp) ?_
   refine AllReadyH.cons (o := _) rfl (fun K hK => ?_) AllReadyH.nil
   try simp only [List.getElem_toArray, List.getElem_cons_succ, List.getElem_cons_zero]
   go_simp
   (go_at_call 43; go_split_ands; (with_reducible refine (HC3.out _ _ hs2.cell).mono ?_); rintro z w7 ⟨rfl, hb7⟩; have hs3 := hs2.then hb7)
   go_wp2_with fail
   refine hK.out _ _ (HX.out _ _ hs3) (fun hHeld => ?_)
   clear hK K
   try simp only [Act.put, List.setIfInBounds_toArray, List.set_cons_zero, List.set_cons_succ, List.getElem_toArray, List.getElem_cons_succ, List.getElem_cons_zero]
   refine tkB 16 ?_
   simp only [Act.put, List.setIfInBounds_toArray, List.set_cons_zero, List.set_cons_succ, List.getElem_toArray, List.getElem_cons_succ, List.getElem_cons_zero]
   refine tkB 17 ?_
   simp only [Act.put, List.setIfInBounds_toArray, List.set_cons_zero, List.set_cons_succ, List.getElem_toArray, List.getElem_cons_succ, List.getElem_cons_zero]
   refine wpAnyH_ready (rs := [18]) (by kernel_rfl) (by simp) ?_
   refine AllReadyH.cons (o := _) rfl (fun K hK => ?_) AllReadyH.nil
   go_split_ands
   obtain ⟨g0, g1, g2, g3⟩ := HY.out _ _ hs3
   try simp only [List.getElem_toArray, List.getElem_cons_succ, List.getElem_cons_zero]
   go_wp2_with fail
   refine hK.out _ _ (HZs.out _ _ hs3 _ _) (fun hHeld => ?_)
   clear hK K
   try simp only [Act.put, List.setIfInBounds_toArray, List.set_cons_zero, List.set_cons_succ, List.getElem_toArray, List.getElem_cons_succ, List.getElem_cons_zero]
   refine tkB 19 ?_
   simp only [Act.put, List.setIfInBounds_toArray, List.set_cons_zero, List.set_cons_succ, List.getElem_toArray, List.getElem_cons_succ, List.getElem_cons_zero]
   refine wpAnyH_done (by kernel_rfl) ?_ _
   go_wp2_with fail
   have l0 := (two_cells (v0 := .int .i64 q1) (v1 := .int .i64 q2) g0 g1).1
   have l1 := (two_cells (v0 := .int .i64 q1) (v1 := .int .i64 q2) g0 g1).2
   refine bodyPost_ret (v := .tuple #[.agg #[.int .i64 q1, .int .i64 q2], .int .i64 K2.2]) (by simp [results, Try.results18, go_sem, l0, l1]) rfl ⟨rfl, ?_⟩
   have hB5 := hB4.trans (hs3.below (n := w.heap.size) (by omega) (by omega))
   exact (hB5.setCell (p := ⟨w.heap.size + 1, 0, none⟩) (Nat.le_succ _) _).setCell (p := ⟨w.heap.size + 1, 1, none⟩) (Nat.le_succ _) _
end Go.Proofs.Ytbgkgahmicepdaa
namespace Go.Proofs.Ytbgkgahmicepdaa
def qp (p : Pc) : QP := ⟨fr (p.f0, p.f1), fr (p.a0, p.a1), fr (p.b0, p.b1), fr (p.c0, p.c1)⟩
def qL (L : List Pc) : List QP := L.map qp
theorem qL_len (L : List Pc) : (qL L).length = L.length := by simp [qL]
theorem qL_get (L : List Pc) (i : Nat) (h : i < (qL L).length) : (qL L)[i] = qp (pcg L i) := by
 have h' : i < L.length := by rwa [qL_len] at h
 have e : pcg L i = L[i] := by unfold pcg; simp [h']
 rw [e]
 simp [qL]
theorem PcOK.vf {p : Pc} (h : PcOK p) : vF (p.f0, p.f1) = true := h.f
theorem PcOK.va {p : Pc} (h : PcOK p) : vF (p.a0, p.a1) = true := h.a
theorem PcOK.vb {p : Pc} (h : PcOK p) : vF (p.b0, p.b1) = true := h.b
theorem PcOK.vc {p : Pc} (h : PcOK p) : vF (p.c0, p.c1) = true := h.c
def Asc (L : List QP) : Prop := ∀ i (h : i + 1 < L.length), L[i].f < L[i + 1].f
theorem Asc.tail {p : QP} {L : List QP} (h : Asc (p :: L)) : Asc L := fun i hi => h (i + 1) (by simp only [List.length_cons]; omega)
theorem Asc.head {p : QP} {L : List QP} (h : Asc (p :: L)) : ∀ k (hk : k < L.length), p.f < L[k].f := by
 intro k
 induction k with
 | zero => intro hk; exact h 0 (by simp only [List.length_cons]; omega)
 | succ k ih =>
  intro hk
  have a := ih (by omega)
  have b := h.tail k hk
  grind
theorem atL_at : ∀ (L : List QP) (k : Nat) (hk : k < L.length) (t : Rat), Asc L → L[k].f ≤ t → (∀ j (hj : j < L.length), k < j → t < L[j].f) → atL L t = qv L[k] t ∧ slL L t = qs L[k] t
 | [p], 0, _, t, _, h, _ => by
  simp only [List.getElem_cons_zero] at h ⊢
  rw [atL, if_pos h, slL, if_pos h]
  exact ⟨rfl, rfl⟩
 | p :: q :: r, 0, _, t, _, h, g => by
  have g1 := g 1 (by simp) (by omega)
  simp only [List.getElem_cons_zero, List.getElem_cons_succ] at h g1 ⊢
  have n : ¬ q.f ≤ t := Rat.not_le.2 g1
  rw [atL, if_neg n, if_pos h, slL, if_neg n, if_pos h]
  exact ⟨rfl, rfl⟩
 | p :: q :: r, k + 1, hk, t, a, h, g => by
  have hk' : k < (q :: r).length := by simp only [List.length_cons] at hk ⊢; omega
  have h' : (q :: r)[k].f ≤ t := h
  have c : q.f ≤ t := by
   rcases Nat.eq_zero_or_pos k with z | z
   ·subst z; exact h'
   ·obtain ⟨k, rfl⟩ : ∃ m, k = m + 1 := ⟨k - 1, by omega⟩
    have kr : k < r.length := by simp only [List.length_cons] at hk'; omega
    have := a.tail.head k kr
    have e : (q :: r)[k + 1].f = (r[k]'kr).f := rfl
    grind
  rw [atL, if_pos c, slL, if_pos c]
  exact atL_at (q :: r) k hk' t a.tail h' (fun j hj kj => g (j + 1) (by simp only [List.length_cons] at hj ⊢; omega) (by omega))
theorem atL_before (L : List QP) (t : Rat) (h0 : 0 < L.length) (a : Asc L) (h : t < L[0].f) : atL L t = headA L ∧ slL L t = 0 := by
 match L, h0, a, h with
 | [p], _, _, h =>
  simp only [List.getElem_cons_zero] at h
  have n := Rat.not_le.2 h
  simp only [atL, slL, headA, if_neg n]
  exact ⟨trivial, trivial⟩
 | p :: q :: r, _, a, h =>
  simp only [List.getElem_cons_zero] at h
  have b := a 0 (by simp)
  simp only [List.getElem_cons_zero, List.getElem_cons_succ] at b
  have n := Rat.not_le.2 h
  have n2 := Rat.not_le.2 (show t < q.f by grind)
  simp only [atL, slL, headA, if_neg n, if_neg n2]
  exact ⟨trivial, trivial⟩
theorem CurveOK.asc' {L : List Pc} (ok : CurveOK L) : Asc (qL L) := fun i h => by
 have h' : i + 1 < L.length := by rwa [qL_len] at h
 rw [qL_get, qL_get]
 exact (frq_lt (a := ((pcg L i).f0, (pcg L i).f1)) (b := ((pcg L (i + 1)).f0, (pcg L (i + 1)).f1)) (den_pos (ok.val i (by omega)).vf) (den_pos (ok.val (i + 1) h').vf)).2 (ok.asc i h')
theorem pieceN_spec (L : List Pc) (t : Int × Int) (k : Nat) : (∀ j, j < k → pieceN L t k < (j : Int) → ¬ (pcg L j).f0 * t.2 ≤ t.1 * (pcg L j).f1) ∧ (0 ≤ pieceN L t k → (pcg L (pieceN L t k).toNat).f0 * t.2 ≤ t.1 * (pcg L (pieceN L t k).toNat).f1) := by
 induction k with
 | zero => exact ⟨fun j h => absurd h (by omega), fun h => by unfold pieceN at h; omega⟩
 | succ k ih =>
  unfold pieceN
  split
  next h => exact ⟨fun j h1 h2 => absurd h1 (by omega), fun _ => by simpa using h⟩
  next h =>
   refine ⟨fun j h1 h2 => ?_, ih.2⟩
   rcases Nat.lt_or_eq_of_le (Nat.le_of_lt_succ h1) with l | l
   ·exact ih.1 j l h2
   ·subst l; exact h
theorem resV_ok {v : (Int × Int) × Int} (h : (resV v).2.2 = 0) : v.2 = 0 ∧ ((resV v).1, (resV v).2.1) = v.1 := by
 have z : v.2 = 0 := h
 refine ⟨z, ?_⟩
 unfold resV
 rw [if_pos z, if_pos z]
theorem valAt_ok {L : List Pc} (ok : CurveOK L) {t : Int × Int} (vt : vF t = true) {i : Nat} (hi : i < L.length) (h : (valAt L t i).2.2 = 0) : fr ((valAt L t i).1, (valAt L t i).2.1) = qv (qp (pcg L i)) (fr t) := by
 obtain ⟨z, e⟩ := resV_ok h
 have v := ok.val i hi
 unfold valAt
 rw [e]
 obtain ⟨z1, e1⟩ := kVal_ok v.va v.vb v.vc (kSub_valid vt v.vf) z
 obtain ⟨_, e2⟩ := kSub_ok (den_pos vt) (den_pos v.vf) z1
 rw [e1, e2]
 rfl
theorem slopeAt_ok {L : List Pc} (ok : CurveOK L) {t : Int × Int} (vt : vF t = true) {i : Nat} (hi : i < L.length) (h : (slopeAt L t i).2.2 = 0) : fr ((slopeAt L t i).1, (slopeAt L t i).2.1) = qs (qp (pcg L i)) (fr t) := by
 obtain ⟨z, e⟩ := resV_ok h
 have v := ok.val i hi
 unfold slopeAt
 rw [e]
 obtain ⟨z1, e1⟩ := kSlope_ok v.vb v.vc (kSub_valid vt v.vf) z
 obtain ⟨_, e2⟩ := kSub_ok (den_pos vt) (den_pos v.vf) z1
 rw [e1, e2]
 rfl
theorem headA_qL {L : List Pc} (h : 1 ≤ L.length) : headA (qL L) = fr ((pcg L 0).a0, (pcg L 0).a1) := by
 cases L with
 | nil => simp at h
 | cons p r => rfl
theorem piece_cases {L : List Pc} (ok : CurveOK L) {t : Int × Int} (vt : vF t = true) :
  (pieceN L t L.length < 0 ∧ atL (qL L) (fr t) = fr ((pcg L 0).a0, (pcg L 0).a1) ∧ slL (qL L) (fr t) = 0) ∨
  (¬ pieceN L t L.length < 0 ∧ (pieceN L t L.length).toNat < L.length ∧ atL (qL L) (fr t) = qv (qp (pcg L (pieceN L t L.length).toNat)) (fr t) ∧ slL (qL L) (fr t) = qs (qp (pcg L (pieceN L t L.length).toNat)) (fr t)) := by
 obtain ⟨s1, s2⟩ := pieceN_spec L t L.length
 obtain ⟨r1, r2⟩ := pieceN_range L t L.length
 have hp := ok.pos
 by_cases c : pieceN L t L.length < 0
 ·left
  have h0 := s1 0 (by omega) (by simpa using c)
  have h1 : fr t < ((qL L)[0]'(by rw [qL_len]; omega)).f := by
   rw [qL_get]
   exact (frq_lt (a := t) (b := ((pcg L 0).f0, (pcg L 0).f1)) (den_pos vt) (den_pos (ok.val 0 (by omega)).vf)).2 (by show t.1 * (pcg L 0).f1 < (pcg L 0).f0 * t.2; omega)
  obtain ⟨a, b⟩ := atL_before (qL L) (fr t) (by rw [qL_len]; omega) ok.asc' h1
  exact ⟨c, by rw [a, headA_qL hp], b⟩
 ·right
  obtain ⟨k, hk⟩ : ∃ k : Nat, (pieceN L t L.length).toNat = k := ⟨_, rfl⟩
  have hkl : k < L.length := by omega
  have s2' := s2 (by omega)
  rw [hk] at s2' ⊢
  have vk := (ok.val k hkl).vf
  have a1 : ((qL L)[k]'(by rw [qL_len]; exact hkl)).f ≤ fr t := by
   rw [qL_get]
   exact (frq_le (a := ((pcg L k).f0, (pcg L k).f1)) (b := t) (den_pos vk) (den_pos vt)).2 s2'
  have a2 : ∀ j (hj : j < (qL L).length), k < j → fr t < (qL L)[j].f := fun j hj kj => by
   rw [qL_get]
   have hj' : j < L.length := by rwa [qL_len] at hj
   have := s1 j hj' (by omega)
   exact (frq_lt (a := t) (b := ((pcg L j).f0, (pcg L j).f1)) (den_pos vt) (den_pos (ok.val j hj').vf)).2 (by show t.1 * (pcg L j).f1 < (pcg L j).f0 * t.2; omega)
  obtain ⟨x, y⟩ := atL_at (qL L) k (by rw [qL_len]; exact hkl) (fr t) ok.asc' a1 a2
  rw [qL_get] at x y
  exact ⟨c, hkl, x, y⟩
theorem atP_ok {L : List Pc} (ok : CurveOK L) {t : Int × Int} (vt : vF t = true) (h : (atP L t).2.2 = 0) : fr ((atP L t).1, (atP L t).2.1) = atL (qL L) (fr t) := by
 unfold atP at h ⊢
 rw [if_pos vt] at h ⊢
 rcases piece_cases ok vt with ⟨c, e, _⟩ | ⟨c, hk, e, _⟩
 ·rw [if_pos c, e]
 ·rw [if_neg c] at h ⊢
  rw [e]
  exact valAt_ok ok vt hk h
theorem slopeP_ok {L : List Pc} (ok : CurveOK L) {t : Int × Int} (vt : vF t = true) (h : (slopeP L t).2.2 = 0) : fr ((slopeP L t).1, (slopeP L t).2.1) = slL (qL L) (fr t) := by
 unfold slopeP at h ⊢
 rw [if_pos vt] at h ⊢
 rcases piece_cases ok vt with ⟨c, _, e⟩ | ⟨c, hk, _, e⟩
 ·rw [if_pos c, e, ← frq_zero]
 ·rw [if_neg c] at h ⊢
  rw [e]
  exact slopeAt_ok ok vt hk h
theorem kp_err {e p q : Int} (h : e = 0 ∨ e = 5) : (kp e (fitP p q)).2 = 0 ∨ (kp e (fitP p q)).2 = 5 := by
 have f := fit_valid (p := p) (q := q)
 unfold kp
 split
 ·exact h
 ·simp only
  split <;> omega
theorem kAdd_err {e : Int} {a b : Int × Int} (h : e = 0 ∨ e = 5) : (kAdd e a b).2 = 0 ∨ (kAdd e a b).2 = 5 := kp_err h
theorem kSub_err {e : Int} {a b : Int × Int} (h : e = 0 ∨ e = 5) : (kSub e a b).2 = 0 ∨ (kSub e a b).2 = 5 := kp_err h
theorem kMul_err {e : Int} {a b : Int × Int} (h : e = 0 ∨ e = 5) : (kMul e a b).2 = 0 ∨ (kMul e a b).2 = 5 := kp_err h
theorem kVal_err {e : Int} {A B C u : Int × Int} (h : e = 0 ∨ e = 5) : (kVal e A B C u).2 = 0 ∨ (kVal e A B C u).2 = 5 := kAdd_err (kMul_err (kAdd_err (kMul_err h)))
theorem kSlope_err {e : Int} {B C u : Int × Int} (h : e = 0 ∨ e = 5) : (kSlope e B C u).2 = 0 ∨ (kSlope e B C u).2 = 5 := kAdd_err (kMul_err (kMul_err h))
theorem atP_err {L : List Pc} {t : Int × Int} (vt : vF t = true) : (atP L t).2.2 = 0 ∨ (atP L t).2.2 = 5 := by
 unfold atP
 rw [if_pos vt]
 split
 ·exact .inl rfl
 ·exact kVal_err (kSub_err (.inl rfl))
theorem slopeP_err {L : List Pc} {t : Int × Int} (vt : vF t = true) : (slopeP L t).2.2 = 0 ∨ (slopeP L t).2.2 = 5 := by
 unfold slopeP
 rw [if_pos vt]
 split
 ·exact .inl rfl
 ·exact kSlope_err (kSub_err (.inl rfl))
theorem resV_valid {v : (Int × Int) × Int} (h : (resV v).2.2 = 0) (hv : vF v.1 = true) : vF ((resV v).1, (resV v).2.1) = true := by
 rw [(resV_ok h).2]; exact hv
theorem atP_valid {L : List Pc} (ok : CurveOK L) {t : Int × Int} (vt : vF t = true) (h : (atP L t).2.2 = 0) : vF ((atP L t).1, (atP L t).2.1) = true := by
 unfold atP at h ⊢
 rw [if_pos vt] at h ⊢
 rcases piece_cases ok vt with ⟨c, _, _⟩ | ⟨c, hk, _, _⟩
 ·rw [if_pos c]; exact (ok.val 0 (by have := ok.pos; omega)).va
 ·rw [if_neg c] at h ⊢
  have v := ok.val _ hk
  exact resV_valid h (kVal_valid v.va v.vb v.vc (kSub_valid vt v.vf))
theorem slopeP_valid {L : List Pc} (ok : CurveOK L) {t : Int × Int} (vt : vF t = true) (h : (slopeP L t).2.2 = 0) : vF ((slopeP L t).1, (slopeP L t).2.1) = true := by
 unfold slopeP at h ⊢
 rw [if_pos vt] at h ⊢
 rcases piece_cases ok vt with ⟨c, _, _⟩ | ⟨c, hk, _, _⟩
 ·rw [if_pos c]; exact vF_zero
 ·rw [if_neg c] at h ⊢
  have v := ok.val _ hk
  exact resV_valid h (kSlope_valid v.vb v.vc (kSub_valid vt v.vf))
end Go.Proofs.Ytbgkgahmicepdaa
namespace Go.Proofs.Ytbgkgahmicepdaa
theorem rat_nz {a b c : Rat} (ha : a ≠ 0) (hb : b ≠ 0) (hc : c ≠ 0) : a * b * c ≠ 0 := by
 intro h
 rcases Rat.mul_eq_zero.1 h with h | h
 ·rcases Rat.mul_eq_zero.1 h with h | h
  ·exact ha h
  ·exact hb h
 ·exact hc h
theorem rat_div_pos {a b : Rat} (ha : 0 < a) (hb : 0 < b) : 0 < a / b := by
 rw [Rat.div_def]; exact Rat.mul_pos ha (Rat.inv_pos.2 hb)
def moveQ (d R F t k : Rat) : List QP :=
 [⟨0, 0, 0, R / 2⟩, ⟨t / R, t * t / (2 * R), t, 0⟩, ⟨(2 * F * (t * t) + k) / (2 * R * F * t), (2 * F * d - t * t) / (2 * F), t, -F / 2⟩, ⟨(2 * F * (t * t) + k + 2 * R * (t * t)) / (2 * R * F * t), d, 0, 0⟩]
def moveS (d R F t k : Rat) : List QP :=
 [⟨0, 0, 0, R / 2⟩, ⟨(2 * F * (t * t) + k) / (2 * R * F * t), (2 * F * d - t * t) / (2 * F), t, -F / 2⟩, ⟨(2 * F * (t * t) + k + 2 * R * (t * t)) / (2 * R * F * t), d, 0, 0⟩]
theorem mv_a {R F t k : Rat} (hR : 0 < R) (hF : 0 < F) (ht : 0 < t) : (2 * F * (t * t) + k) / (2 * R * F * t) = t / R + k / (2 * R * F * t) := by
 have h1 : R ≠ 0 := by grind
 have h2 : F ≠ 0 := by grind
 have h3 : t ≠ 0 := by grind
 have h4 : 2 * R ≠ 0 := by grind
 have h6 : 2 * R * F * t ≠ 0 := rat_nz h4 h2 h3
 grind
theorem mv_b {R F t k : Rat} (hR : 0 < R) (hF : 0 < F) (ht : 0 < t) : (2 * F * (t * t) + k + 2 * R * (t * t)) / (2 * R * F * t) = (2 * F * (t * t) + k) / (2 * R * F * t) + t / F := by
 have h1 : R ≠ 0 := by grind
 have h2 : F ≠ 0 := by grind
 have h3 : t ≠ 0 := by grind
 have h4 : 2 * R ≠ 0 := by grind
 have h6 : 2 * R * F * t ≠ 0 := rat_nz h4 h2 h3
 grind
theorem mv_c {R F t d k : Rat} (hR : 0 < R) (hF : 0 < F) (ht : 0 < t) (hk : k = 2 * R * F * d - t * t * (R + F)) : t * t / (2 * R) + t * (k / (2 * R * F * t)) = (2 * F * d - t * t) / (2 * F) := by
 have h1 : R ≠ 0 := by grind
 have h2 : F ≠ 0 := by grind
 have h3 : t ≠ 0 := by grind
 have h4 : 2 * R ≠ 0 := by grind
 have h5 : 2 * F ≠ 0 := by grind
 have h6 : 2 * R * F * t ≠ 0 := rat_nz h4 h2 h3
 grind
theorem mv_d {F t d : Rat} (hF : 0 < F) : (2 * F * d - t * t) / (2 * F) + (t + (-F / 2) * (t / F)) * (t / F) = d ∧ t + 2 * (-F / 2 * (t / F)) = 0 := by
 have h1 : F ≠ 0 := by grind
 grind
theorem mv_e {R t : Rat} (hR : 0 < R) : 0 + (0 + R / 2 * (t / R - 0)) * (t / R - 0) = t * t / (2 * R) ∧ 0 + 2 * (R / 2 * (t / R - 0)) = t := by
 have h1 : R ≠ 0 := by grind
 grind
theorem up_last {R F t d k : Rat} (hR : 0 < R) (hF : 0 < F) (ht : 0 < t) : Up t [⟨(2 * F * (t * t) + k) / (2 * R * F * t), (2 * F * d - t * t) / (2 * F), t, -F / 2⟩, ⟨(2 * F * (t * t) + k + 2 * R * (t * t)) / (2 * R * F * t), d, 0, 0⟩] := by
 have h1 := mv_b (k := k) hR hF ht
 have h2 := rat_div_pos ht hF
 obtain ⟨d1, d2⟩ := mv_d (t := t) (d := d) hF
 have e : (2 * F * (t * t) + k + 2 * R * (t * t)) / (2 * R * F * t) - (2 * F * (t * t) + k) / (2 * R * F * t) = t / F := by grind
 refine Up.go _ _ _ ?_ (Rat.le_of_lt ht) Rat.le_refl ?_ ?_ ?_ ?_ (Up.rest _ rfl rfl (Rat.le_of_lt ht))
 ·show (2 * F * (t * t) + k) / (2 * R * F * t) < (2 * F * (t * t) + k + 2 * R * (t * t)) / (2 * R * F * t)
  grind
 ·show 0 ≤ t + 2 * (-F / 2 * ((2 * F * (t * t) + k + 2 * R * (t * t)) / (2 * R * F * t) - (2 * F * (t * t) + k) / (2 * R * F * t)))
  rw [e, d2]; exact Rat.le_refl
 ·show t + 2 * (-F / 2 * ((2 * F * (t * t) + k + 2 * R * (t * t)) / (2 * R * F * t) - (2 * F * (t * t) + k) / (2 * R * F * t))) ≤ t
  rw [e, d2]; exact Rat.le_of_lt ht
 ·show (2 * F * d - t * t) / (2 * F) + (t + -F / 2 * ((2 * F * (t * t) + k + 2 * R * (t * t)) / (2 * R * F * t) - (2 * F * (t * t) + k) / (2 * R * F * t))) * ((2 * F * (t * t) + k + 2 * R * (t * t)) / (2 * R * F * t) - (2 * F * (t * t) + k) / (2 * R * F * t)) = d
  rw [e, d1]
 ·show t + 2 * (-F / 2 * ((2 * F * (t * t) + k + 2 * R * (t * t)) / (2 * R * F * t) - (2 * F * (t * t) + k) / (2 * R * F * t))) = 0
  rw [e, d2]
theorem moveQ_up {R F t d k : Rat} (hR : 0 < R) (hF : 0 < F) (ht : 0 < t) (hk : k = 2 * R * F * d - t * t * (R + F)) (k0 : 0 < k) : Up t (moveQ d R F t k) := by
 have h2 := rat_div_pos ht hR
 have tle := Rat.le_of_lt ht
 obtain ⟨e1, e2⟩ := mv_e (R := R) (t := t) hR
 have ha := mv_a (k := k) hR hF ht
 have hc := mv_c hR hF ht hk
 have hw : 0 < 2 * R * F * t := Rat.mul_pos (Rat.mul_pos (by grind) hF) ht
 have h3 := rat_div_pos k0 hw
 have e : (2 * F * (t * t) + k) / (2 * R * F * t) - t / R = k / (2 * R * F * t) := by grind
 refine Up.go _ _ _ h2 Rat.le_refl tle ?_ ?_ e1 e2 (Up.go _ _ _ ?_ tle Rat.le_refl ?_ ?_ ?_ ?_ (up_last hR hF ht))
 ·show 0 ≤ 0 + 2 * (R / 2 * (t / R - 0))
  rw [e2]; exact tle
 ·show 0 + 2 * (R / 2 * (t / R - 0)) ≤ t
  rw [e2]; exact Rat.le_refl
 ·show t / R < (2 * F * (t * t) + k) / (2 * R * F * t)
  grind
 ·show 0 ≤ t + 2 * (0 * ((2 * F * (t * t) + k) / (2 * R * F * t) - t / R))
  grind
 ·show t + 2 * (0 * ((2 * F * (t * t) + k) / (2 * R * F * t) - t / R)) ≤ t
  grind
 ·show t * t / (2 * R) + (t + 0 * ((2 * F * (t * t) + k) / (2 * R * F * t) - t / R)) * ((2 * F * (t * t) + k) / (2 * R * F * t) - t / R) = (2 * F * d - t * t) / (2 * F)
  rw [e, ← hc]; grind
 ·show t + 2 * (0 * ((2 * F * (t * t) + k) / (2 * R * F * t) - t / R)) = t
  grind
theorem moveS_up {R F t d k : Rat} (hR : 0 < R) (hF : 0 < F) (ht : 0 < t) (hk : k = 2 * R * F * d - t * t * (R + F)) (k0 : k = 0) : Up t (moveS d R F t k) := by
 have h2 := rat_div_pos ht hR
 have tle := Rat.le_of_lt ht
 obtain ⟨e1, e2⟩ := mv_e (R := R) (t := t) hR
 have ha := mv_a (k := k) hR hF ht
 have hc := mv_c hR hF ht hk
 have z : k / (2 * R * F * t) = 0 := by rw [k0, Rat.div_def, Rat.zero_mul]
 rw [z] at ha hc
 have e : (2 * F * (t * t) + k) / (2 * R * F * t) = t / R := by grind
 refine Up.go _ _ _ ?_ Rat.le_refl tle ?_ ?_ ?_ ?_ (up_last hR hF ht)
 ·show 0 < (2 * F * (t * t) + k) / (2 * R * F * t)
  rw [e]; exact h2
 ·show 0 ≤ 0 + 2 * (R / 2 * ((2 * F * (t * t) + k) / (2 * R * F * t) - 0))
  rw [e, e2]; exact tle
 ·show 0 + 2 * (R / 2 * ((2 * F * (t * t) + k) / (2 * R * F * t) - 0)) ≤ t
  rw [e, e2]; exact Rat.le_refl
 ·show 0 + (0 + R / 2 * ((2 * F * (t * t) + k) / (2 * R * F * t) - 0)) * ((2 * F * (t * t) + k) / (2 * R * F * t) - 0) = (2 * F * d - t * t) / (2 * F)
  rw [e, e1, ← hc]; grind
 ·show 0 + 2 * (R / 2 * ((2 * F * (t * t) + k) / (2 * R * F * t) - 0)) = t
  rw [e, e2]
theorem qL_curve {d R F t : Int} (hd : ¬ d = 0) (hR : 1 ≤ R) (hF : 1 ≤ F) (ht : 1 ≤ t) : qL (curveL d R F t) = if kP d R F t = 0 then moveS d R F t (kP d R F t : Int) else moveQ d R F t (kP d R F t : Int) := by
 have w0 : 0 < 2 * R * F * t := Int.mul_pos (Int.mul_pos (by omega) (by omega)) (by omega)
 unfold curveL
 rw [if_neg hd]
 split
 ·simp [qL, qp, moveS, frq_one, frq_low _ 2 (by decide), frq_low _ (2 * R * F * t) w0, frq_low _ (2 * F) (by omega)]
 ·simp [qL, qp, moveQ, frq_one, frq_low _ 2 (by decide), frq_low _ (2 * R * F * t) w0, frq_low _ (2 * F) (by omega), frq_low _ (2 * R) (by omega), frq_low _ R (by omega)]
end Go.Proofs.Ytbgkgahmicepdaa
namespace Go.Proofs.Ytbgkgahmicepdaa
theorem kp_fit {p q : Int} {x : Int × Int} (hq : 0 < q) (c : Int.gcd p q = 1) (vx : vF x = true) (h : fr (p, q) = fr x) : kp 0 (fitP p q) = (x, 0) := by
 obtain ⟨x1, x2, x3, x4, x5⟩ := (validF_iff _ _).1 vx
 have e := (frq_eq (a := (p, q)) (b := x) hq (by omega)).1 h
 obtain ⟨e1, e2⟩ := low_unique hq (by omega) c x5 e
 subst e1 e2
 have n : ¬ (1152921504606846976 < x.1.natAbs ∨ 1152921504606846976 < x.2) := by omega
 unfold fitP
 rw [if_neg n]
 rfl
theorem kAdd_eq {a b x : Int × Int} (ha : 0 < a.2) (hb : 0 < b.2) (vx : vF x = true) (h : fr a + fr b = fr x) : kAdd 0 a b = (x, 0) :=
 kp_fit (lowD_pos (Int.mul_pos ha hb)) (low_cop (Int.mul_pos ha hb)) vx ((frq_add ha hb).trans h)
theorem kSub_eq {a b x : Int × Int} (ha : 0 < a.2) (hb : 0 < b.2) (vx : vF x = true) (h : fr a - fr b = fr x) : kSub 0 a b = (x, 0) :=
 kAdd_eq (a := a) (b := (-b.1, b.2)) ha hb vx (by rw [frq_neg, ← Rat.sub_eq_add_neg]; exact h)
theorem kMul_eq {a b x : Int × Int} (ha : 0 < a.2) (hb : 0 < b.2) (vx : vF x = true) (h : fr a * fr b = fr x) : kMul 0 a b = (x, 0) :=
 kp_fit (lowD_pos (Int.mul_pos ha hb)) (low_cop (Int.mul_pos ha hb)) vx ((frq_times ha hb).trans h)
theorem kVal_zero {A B C : Int × Int} (vA : vF A = true) (vB : vF B = true) (vC : vF C = true) : kVal 0 A B C (0, 1) = (A, 0) := by
 have z : (0 : Int) < ((0, 1) : Int × Int).2 := by decide
 have e1 : kMul 0 C (0, 1) = ((0, 1), 0) := kMul_eq (den_pos vC) z vF_zero (by rw [frq_zero, Rat.mul_zero])
 have e2 : kAdd 0 B (0, 1) = (B, 0) := kAdd_eq (den_pos vB) z vB (by rw [frq_zero, Rat.add_zero])
 have e3 : kMul 0 B (0, 1) = ((0, 1), 0) := kMul_eq (den_pos vB) z vF_zero (by rw [frq_zero, Rat.mul_zero])
 have e4 : kAdd 0 A (0, 1) = (A, 0) := kAdd_eq (den_pos vA) z vA (by rw [frq_zero, Rat.add_zero])
 unfold kVal
 simp only [e1, e2, e3, e4]
theorem kVal_rest {A u : Int × Int} (vA : vF A = true) (vu : vF u = true) : kVal 0 A (0, 1) (0, 1) u = (A, 0) := by
 have z : (0 : Int) < ((0, 1) : Int × Int).2 := by decide
 have e1 : kMul 0 (0, 1) u = ((0, 1), 0) := kMul_eq z (den_pos vu) vF_zero (by rw [frq_zero, Rat.zero_mul])
 have e2 : kAdd 0 (0, 1) (0, 1) = ((0, 1), 0) := kAdd_eq z z vF_zero (by rw [frq_zero, Rat.add_zero])
 have e4 : kAdd 0 A (0, 1) = (A, 0) := kAdd_eq (den_pos vA) z vA (by rw [frq_zero, Rat.add_zero])
 unfold kVal
 simp only [e1, e2, e4]
theorem piece_is {L : List Pc} {t : Int × Int} {k : Nat} (ok : CurveOK L) (vt : vF t = true) (hk : k < L.length) (h1 : fr ((pcg L k).f0, (pcg L k).f1) ≤ fr t) (h2 : ∀ j, j < L.length → k < j → fr t < fr ((pcg L j).f0, (pcg L j).f1)) : pieceN L t L.length = (k : Int) := by
 obtain ⟨s1, s2⟩ := pieceN_spec L t L.length
 obtain ⟨r1, r2⟩ := pieceN_range L t L.length
 have g1 := (frq_le (a := ((pcg L k).f0, (pcg L k).f1)) (b := t) (den_pos (ok.val k hk).vf) (den_pos vt)).1 h1
 have a1 : ¬ pieceN L t L.length < (k : Int) := fun h => s1 k hk h g1
 rcases Int.lt_or_le (k : Int) (pieceN L t L.length) with l | l
 ·obtain ⟨j, hj⟩ : ∃ j : Nat, (pieceN L t L.length).toNat = j := ⟨_, rfl⟩
  have hjl : j < L.length := by omega
  have s2' := s2 (by omega)
  rw [hj] at s2'
  have := (frq_lt (a := t) (b := ((pcg L j).f0, (pcg L j).f1)) (den_pos vt) (den_pos (ok.val j hjl).vf)).1 (h2 j hjl (by omega))
  have e1 : t.1 * (pcg L j).f1 < (pcg L j).f0 * t.2 := this
  omega
 ·omega
theorem atP_at {L : List Pc} {t : Int × Int} {k : Nat} (vt : vF t = true) (h : pieceN L t L.length = (k : Int)) : atP L t = valAt L t k := by
 unfold atP
 rw [if_pos vt, h, if_neg (by omega)]
 rfl
theorem qL_f (L : List Pc) (i : Nat) (h : i < (qL L).length) : ((qL L)[i]).f = fr ((pcg L i).f0, (pcg L i).f1) := by rw [qL_get]; rfl
theorem at_first {L : List Pc} (ok : CurveOK L) : atP L ((pcg L 0).f0, (pcg L 0).f1) = ((pcg L 0).a0, (pcg L 0).a1, 0) := by
 have hp := ok.pos
 have v := ok.val 0 (by omega)
 have e : pieceN L ((pcg L 0).f0, (pcg L 0).f1) L.length = ((0 : Nat) : Int) := by
  refine piece_is ok v.vf (by omega) Rat.le_refl fun j hj kj => ?_
  have hj' : j < (qL L).length := by rw [qL_len]; exact hj
  obtain ⟨i, rfl⟩ : ∃ i, j = i + 1 := ⟨j - 1, by omega⟩
  have a := ok.asc'
  have g : ∀ i (h : i + 1 < (qL L).length), ((qL L)[0]'(by omega)).f < ((qL L)[i + 1]).f := fun i => by
   induction i with
   | zero => exact fun h => a 0 h
   | succ i ih => exact fun h => by have x := ih (by omega); have y := a (i + 1) h; grind
  have := g i hj'
  rw [qL_f, qL_f] at this
  exact this
 rw [atP_at v.vf e]
 unfold valAt
 have z : kSub 0 ((pcg L 0).f0, (pcg L 0).f1) ((pcg L 0).f0, (pcg L 0).f1) = ((0, 1), 0) := kSub_eq (den_pos v.vf) (den_pos v.vf) vF_zero (by rw [frq_zero]; grind)
 simp only [z, kVal_zero v.va v.vb v.vc]
 rfl
theorem at_last {L : List Pc} (ok : CurveOK L) {t u : Int × Int} (vt : vF t = true) (vu : vF u = true) (hb : ((pcg L (L.length - 1)).b0, (pcg L (L.length - 1)).b1) = (0, 1)) (hc : ((pcg L (L.length - 1)).c0, (pcg L (L.length - 1)).c1) = (0, 1))
  (h : fr t = fr ((pcg L (L.length - 1)).f0, (pcg L (L.length - 1)).f1) + fr u) (u0 : 0 ≤ fr u) : atP L t = ((pcg L (L.length - 1)).a0, (pcg L (L.length - 1)).a1, 0) := by
 have hp := ok.pos
 have v := ok.val (L.length - 1) (by omega)
 have e : pieceN L t L.length = ((L.length - 1 : Nat) : Int) := piece_is ok vt (by omega) (by grind) fun j hj kj => absurd kj (by omega)
 rw [atP_at vt e]
 unfold valAt
 have z : kSub 0 t ((pcg L (L.length - 1)).f0, (pcg L (L.length - 1)).f1) = (u, 0) := kSub_eq (den_pos vt) (den_pos v.vf) vu (by rw [h]; grind)
 simp only [z, hb, hc, kVal_rest v.va vu]
 rfl
end Go.Proofs.Ytbgkgahmicepdaa
namespace Go.Proofs.Ytbgkgahmicepdaa
theorem Up.asc {m : Rat} {L : List QP} (h : Up m L) : Asc L := by
 induction h with
 | rest p _ _ _ => exact fun i h => absurd h (by simp)
 | go p q r hf _ _ _ _ _ _ h ih =>
  intro i hi
  cases i with
  | zero => exact hf
  | succ i => exact ih i (by simp only [List.length_cons] at hi ⊢; omega)
theorem ok_of_up {L : List Pc} {m : Rat} (h1 : 1 ≤ L.length) (h2 : L.length ≤ 200) (hv : ∀ i, i < L.length → PcOK (pcg L i)) (up : Up m (qL L)) : CurveOK L :=
 ⟨h1, h2, hv, fun i hi => by
  have hi' : i + 1 < (qL L).length := by rw [qL_len]; exact hi
  have a := up.asc i hi'
  rw [qL_f, qL_f] at a
  exact (frq_lt (a := ((pcg L i).f0, (pcg L i).f1)) (b := ((pcg L (i + 1)).f0, (pcg L (i + 1)).f1)) (den_pos (hv i (by omega)).vf) (den_pos (hv (i + 1) hi).vf)).1 a⟩
structure MoveC (L : List Pc) (d t : Int) : Prop where
 ok : CurveOK L
 up : Up (t : Rat) (qL L)
 f0 : ((pcg L 0).f0, (pcg L 0).f1) = (0, 1)
 a0 : ((pcg L 0).a0, (pcg L 0).a1) = (0, 1)
 b0 : ((pcg L 0).b0, (pcg L 0).b1) = (0, 1)
 an : ((pcg L (L.length - 1)).a0, (pcg L (L.length - 1)).a1) = (d, 1)
 bn : ((pcg L (L.length - 1)).b0, (pcg L (L.length - 1)).b1) = (0, 1)
 cn : ((pcg L (L.length - 1)).c0, (pcg L (L.length - 1)).c1) = (0, 1)
 len : L.length ≤ 4
 t0 : 0 ≤ t
theorem valid_one {n : Int} (h1 : -1152921504606846976 ≤ n) (h2 : n ≤ 1152921504606846976) : validF n 1 = true := (validF_iff _ _).2 ⟨by decide, by decide, h1, h2, by simp⟩
theorem move_c {d : Int} {m : Mv} {t : Int} (hg : givenP d m = 0) (ht : IsTop d m.spd m.rise m.fall t) : MoveC (curveL d m.rise m.fall t) d t := by
 obtain ⟨hv, hd⟩ := given_ok hg
 obtain ⟨V0, V1, R0, R1, F0, F1⟩ := valid_bds hv
 obtain ⟨d1, d2⟩ := inB_iff.1 hd
 have tz := ht.1
 have o := valid_one (n := 0) (by decide) (by decide)
 by_cases hz : d = 0
 ·have e : curveL d m.rise m.fall t = [⟨0, 1, 0, 1, 0, 1, 0, 1⟩] := by unfold curveL; rw [if_pos hz]
  rw [e]
  have up : Up (t : Rat) (qL [⟨0, 1, 0, 1, 0, 1, 0, 1⟩]) := Up.rest _ frq_zero frq_zero (Rat.intCast_nonneg.2 tz)
  have hvv : ∀ i, i < [(⟨0, 1, 0, 1, 0, 1, 0, 1⟩ : Pc)].length → PcOK (pcg [⟨0, 1, 0, 1, 0, 1, 0, 1⟩] i) := fun i hi => by
   obtain rfl : i = 0 := by simpa using hi
   exact ⟨o, o, o, o⟩
  exact ⟨ok_of_up (by simp) (by simp) hvv up, up, rfl, rfl, rfl, by rw [hz]; rfl, rfl, rfl, by simp, tz⟩
 ·have t0 := top_pos (by omega) R0 F0 V0 ht
  have t1 : t ≤ 8192 := by have := ht.2.1; omega
  obtain ⟨T0, T1, k0, k1, rf0, rf1, w0, w1, a0, a1, b0, b1, c0, c1, e0, e1⟩ := curve_b (by omega) d2 R0 R1 F0 F1 V0 V1 ht
  have hQ := qL_curve (d := d) (R := m.rise) (F := m.fall) (t := t) hz R0 F0 t0
  have cR := cast_pos (d := m.rise) (by omega)
  have cF := cast_pos (d := m.fall) (by omega)
  have ct := cast_pos (d := t) (by omega)
  have hk : ((kP d m.rise m.fall t : Int) : Rat) = 2 * (m.rise : Rat) * (m.fall : Rat) * (d : Rat) - (t : Rat) * (t : Rat) * ((m.rise : Rat) + (m.fall : Rat)) := by
   unfold kP; simp
  have vd := valid_one (n := d) (by omega) (by omega)
  have vt := valid_one (n := t) (by omega) (by omega)
  have p0 : PcOK ⟨0, 1, 0, 1, 0, 1, lowN m.rise 2, lowD m.rise 2⟩ := ⟨o, o, o, valid_low (by decide) (by omega) (by omega) (by decide)⟩
  have p1 : PcOK ⟨lowN t m.rise, lowD t m.rise, lowN (t * t) (2 * m.rise), lowD (t * t) (2 * m.rise), t, 1, 0, 1⟩ := ⟨valid_low (by omega) (by omega) (by omega) (by omega), valid_low (by omega) (by omega) (by omega) (by omega), vt, o⟩
  have p2 : PcOK ⟨lowN (2 * m.fall * (t * t) + kP d m.rise m.fall t) (2 * m.rise * m.fall * t), lowD (2 * m.fall * (t * t) + kP d m.rise m.fall t) (2 * m.rise * m.fall * t), lowN (2 * m.fall * d - t * t) (2 * m.fall), lowD (2 * m.fall * d - t * t) (2 * m.fall), t, 1, lowN (-m.fall) 2, lowD (-m.fall) 2⟩ := ⟨valid_low (by omega) (by omega) (by omega) (by omega), valid_low (by omega) (by omega) (by omega) (by omega), vt, valid_low (by decide) (by omega) (by omega) (by decide)⟩
  have p3 : PcOK ⟨lowN (2 * m.fall * (t * t) + kP d m.rise m.fall t + 2 * m.rise * (t * t)) (2 * m.rise * m.fall * t), lowD (2 * m.fall * (t * t) + kP d m.rise m.fall t + 2 * m.rise * (t * t)) (2 * m.rise * m.fall * t), d, 1, 0, 1, 0, 1⟩ := ⟨valid_low (by omega) (by omega) (by omega) (by omega), vd, o, o⟩
  by_cases kz : kP d m.rise m.fall t = 0
  ·rw [if_pos kz] at hQ
   have up : Up (t : Rat) (qL (curveL d m.rise m.fall t)) := by rw [hQ]; exact moveS_up cR cF ct hk (by rw [kz]; rfl)
   unfold curveL at up ⊢
   rw [if_neg hz, if_pos kz] at up ⊢
   refine ⟨ok_of_up (by simp) (by simp) (fun i hi => ?_) up, up, rfl, rfl, rfl, rfl, rfl, rfl, by simp, tz⟩
   have hi' : i < 3 := by simpa using hi
   obtain rfl | rfl | rfl : i = 0 ∨ i = 1 ∨ i = 2 := by omega
   ·exact p0
   ·exact p2
   ·exact p3
  ·rw [if_neg kz] at hQ
   have up : Up (t : Rat) (qL (curveL d m.rise m.fall t)) := by rw [hQ]; exact moveQ_up cR cF ct hk (Rat.intCast_pos.2 (by omega))
   unfold curveL at up ⊢
   rw [if_neg hz, if_neg kz] at up ⊢
   refine ⟨ok_of_up (by simp) (by simp) (fun i hi => ?_) up, up, rfl, rfl, rfl, rfl, rfl, rfl, by simp, tz⟩
   have hi' : i < 4 := by simpa using hi
   obtain rfl | rfl | rfl | rfl : i = 0 ∨ i = 1 ∨ i = 2 ∨ i = 3 := by omega
   ·exact p0
   ·exact p1
   ·exact p2
   ·exact p3
theorem MoveC.last {L : List Pc} {d t : Int} (h : MoveC L d t) : lastA (qL L) = (d : Rat) ∧ lastF (qL L) = fr ((pcg L (L.length - 1)).f0, (pcg L (L.length - 1)).f1) := by
 have g : ∀ (Q : List QP) (h : 0 < Q.length), lastA Q = (Q[Q.length - 1]'(by omega)).a ∧ lastF Q = (Q[Q.length - 1]'(by omega)).f := by
  intro Q
  induction Q with
  | nil => intro h; simp at h
  | cons p r ih =>
   intro _
   cases r with
   | nil => exact ⟨rfl, rfl⟩
   | cons q r =>
    obtain ⟨a, b⟩ := ih (by simp)
    have e1 : lastA (p :: q :: r) = lastA (q :: r) := rfl
    have e2 : lastF (p :: q :: r) = lastF (q :: r) := rfl
    rw [e1, e2, a, b]
    exact ⟨rfl, rfl⟩
 have hp := h.ok.pos
 obtain ⟨a, b⟩ := g (qL L) (by rw [qL_len]; omega)
 rw [a, b]
 have hl := qL_len L
 constructor
 ·rw [qL_get]
  have e : (qL L).length - 1 = L.length - 1 := by omega
  rw [e, ← frq_one d, ← h.an]
  rfl
 ·rw [qL_f]
  have e : (qL L).length - 1 = L.length - 1 := by omega
  rw [e]
theorem MoveC.first {L : List Pc} {d t : Int} (h : MoveC L d t) : headA (qL L) = 0 := by
 rw [headA_qL h.ok.pos, h.a0, frq_zero]
theorem MoveC.slope {L : List Pc} {d t : Int} (h : MoveC L d t) {x : Int × Int} (vx : vF x = true) (hx : (slopeP L x).2.2 = 0) : 0 ≤ (slopeP L x).1 ∧ (slopeP L x).1 * 1 ≤ t * (slopeP L x).2.1 := by
 have ex := slopeP_ok h.ok vx hx
 have wx := slopeP_valid h.ok vx hx
 obtain ⟨r1, r2⟩ := h.up.slope (fr x)
 rw [← ex] at r1 r2
 constructor
 ·rw [← frq_zero] at r1
  have := (frq_le (a := (0, 1)) (by decide) (den_pos wx)).1 r1
  have e : 0 * (slopeP L x).2.1 ≤ (slopeP L x).1 * 1 := this
  omega
 ·rw [← frq_one] at r2
  exact (frq_le (b := (t, 1)) (den_pos wx) (by show (0 : Int) < 1; decide)).1 r2
end Go.Proofs.Ytbgkgahmicepdaa
