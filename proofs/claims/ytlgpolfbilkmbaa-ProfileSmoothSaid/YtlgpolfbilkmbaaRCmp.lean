/-
  THE WALK of the reference's comparison of two fractions (02) that are not negative: its first region.
-/
import Derived.Test.YtlgpolfbilkmbaaRMul
import Derived.Deep.RegionHeld3
import Derived.Deep.DeepCutAuto
namespace Go.Proofs.Ytlgpolfbilkmbaa
open Go.RowKit Go.Shelf

def NewU (w : World) (b : Nat) : Prop := w.cell? ⟨b, 0, none⟩ = some (.int .u64 0) ∧ w.cell? ⟨b, 1, none⟩ = some (.int .u64 0) ∧ w.frozen? ⟨b, 0, none⟩ = false ∧ w.frozen? ⟨b, 1, none⟩ = false ∧ b < w.heap.size
theorem ucarry {W w : World} {b : Nat} (h : Below W.heap.size W w) (f : NewU W b) : NewU w b :=
  ⟨(h.cell (p := ⟨b, 0, none⟩) f.2.2.2.2).trans f.1, (h.cell (p := ⟨b, 1, none⟩) f.2.2.2.2).trans f.2.1, (h.frozen (p := ⟨b, 0, none⟩) f.2.2.2.2).trans f.2.2.1, (h.frozen (p := ⟨b, 1, none⟩) f.2.2.2.2).trans f.2.2.2.1, Nat.lt_of_lt_of_le f.2.2.2.2 h.size⟩
theorem unew (W : World) (ty : TypeId) : NewU (W.alloc (.cells #[.int .u64 0, .int .u64 0] ty)) W.heap.size := ⟨by simp, by simp, by simp, by simp, by simp⟩
theorem unew1 {W w : World} {ty : TypeId} (h : Below (W.alloc (.cells #[.int .u64 0, .int .u64 0] ty)).heap.size (W.alloc (.cells #[.int .u64 0, .int .u64 0] ty)) w) : NewU w W.heap.size := ucarry h (unew W ty)
theorem unew2 {W w : World} {ty : TypeId} (h : Below ((W.alloc (.cells #[.int .u64 0, .int .u64 0] ty)).alloc (.cells #[.int .u64 0, .int .u64 0] ty)).heap.size ((W.alloc (.cells #[.int .u64 0, .int .u64 0] ty)).alloc (.cells #[.int .u64 0, .int .u64 0] ty)) w) : NewU w W.heap.size ∧ NewU w (W.heap.size + 1) :=
  ⟨ucarry h (ucarry (below_new _ _) (unew W ty)), by have := ucarry h (unew (W.alloc (.cells #[.int .u64 0, .int .u64 0] ty)) ty); rwa [World.size_alloc] at this⟩
theorem unew1D {W w : World} {ty : TypeId} (h : Below (W.alloc (.cells #[.int .u64 0, .int .u64 0] ty)).drew.heap.size (W.alloc (.cells #[.int .u64 0, .int .u64 0] ty)).drew w) : NewU w W.heap.size := unew1 (ty := ty) ⟨h.os, h.tape, h.output, h.size, h.block⟩
theorem unew2D {W w : World} {ty : TypeId} (h : Below ((W.alloc (.cells #[.int .u64 0, .int .u64 0] ty)).alloc (.cells #[.int .u64 0, .int .u64 0] ty)).drew.heap.size ((W.alloc (.cells #[.int .u64 0, .int .u64 0] ty)).alloc (.cells #[.int .u64 0, .int .u64 0] ty)).drew w) : NewU w W.heap.size ∧ NewU w (W.heap.size + 1) := unew2 (ty := ty) ⟨h.os, h.tape, h.output, h.size, h.block⟩
def FU (w : World) (B : Nat) (n d : Int) : Prop := w.cell? ⟨B, 0, none⟩ = some (.int .u64 n) ∧ w.cell? ⟨B, 1, none⟩ = some (.int .u64 d)
def RelU (W0 : World) (B C : Nat) (x' x y' y : Int) (wx : World) : Prop := Below W0.heap.size W0 wx ∧ FU wx B x' x ∧ FU wx C y' y
theorem RelU.swap {W0 : World} {B C : Nat} {x' x y' y : Int} {wx : World} (h : RelU W0 B C x' x y' y wx) : RelU W0 C B y' y x' x wx := ⟨h.1, h.2.2, h.2.1⟩
theorem relU1 {W0 w : World} (x' x y' y : Int) (t : TypeId) (h : Below W0.heap.size W0 w) : RelU W0 w.heap.size (w.heap.size + 1) x' x y' y ((w.alloc (.cells #[.int .u64 x', .int .u64 x] t)).alloc (.cells #[.int .u64 y', .int .u64 y] t)) :=
  ⟨below_a _ (below_a _ h), ⟨by simp, by simp⟩, ⟨by simp, by simp⟩⟩
theorem relU2 {W0 w : World} (B : Nat) (x' x y' y : Int) (t : TypeId) (h : Below W0.heap.size W0 w) (f : NewU w B) (hB : W0.heap.size ≤ B) : RelU W0 B w.heap.size x' x y' y (((w.setCell ⟨B, 0, none⟩ (.int .u64 x')).setCell ⟨B, 1, none⟩ (.int .u64 x)).alloc (.cells #[.int .u64 y', .int .u64 y] t)) := by
  obtain ⟨c0, c1⟩ := two_cells (v0 := .int .u64 x') (v1 := .int .u64 x) f.1 f.2.1
  have hl : B < ((w.setCell ⟨B, 0, none⟩ (.int .u64 x')).setCell ⟨B, 1, none⟩ (.int .u64 x)).heap.size := by simpa using f.2.2.2.2
  have hs : ((w.setCell ⟨B, 0, none⟩ (.int .u64 x')).setCell ⟨B, 1, none⟩ (.int .u64 x)).heap.size = w.heap.size := by simp
  refine ⟨below_a _ (below_s ⟨B, 1, none⟩ _ (below_s ⟨B, 0, none⟩ _ h hB) hB), ⟨(World.cell?_alloc_lt _ _ _ hl).trans c0, (World.cell?_alloc_lt _ _ _ hl).trans c1⟩, ?_⟩
  have := new_cells ((w.setCell ⟨B, 0, none⟩ (.int .u64 x')).setCell ⟨B, 1, none⟩ (.int .u64 x)) (.int .u64 y') (.int .u64 y) t
  rwa [hs] at this
theorem relU3 {W0 w : World} (B C : Nat) (x' x y' y : Int) (h : Below W0.heap.size W0 w) (f : NewU w B) (f' : NewU w C) (hB : W0.heap.size ≤ B) (hC : W0.heap.size ≤ C) (hne : B ≠ C) : RelU W0 B C x' x y' y ((((w.setCell ⟨B, 0, none⟩ (.int .u64 x')).setCell ⟨B, 1, none⟩ (.int .u64 x)).setCell ⟨C, 0, none⟩ (.int .u64 y')).setCell ⟨C, 1, none⟩ (.int .u64 y)) := by
  obtain ⟨c0, c1⟩ := two_cells (v0 := .int .u64 x') (v1 := .int .u64 x) f.1 f.2.1
  obtain ⟨d0, d1⟩ := two_cells (w := (w.setCell ⟨B, 0, none⟩ (.int .u64 x')).setCell ⟨B, 1, none⟩ (.int .u64 x)) (B := C) (v0 := .int .u64 y') (v1 := .int .u64 y) ((two_other (Ne.symm hne) _ _ _).trans f'.1) ((two_other (Ne.symm hne) _ _ _).trans f'.2.1)
  exact ⟨below_s ⟨C, 1, none⟩ _ (below_s ⟨C, 0, none⟩ _ (below_s ⟨B, 1, none⟩ _ (below_s ⟨B, 0, none⟩ _ h hB) hB) hC) hC, ⟨(two_other hne _ _ _).trans c0, (two_other hne _ _ _).trans c1⟩, ⟨d0, d1⟩⟩

def lessU (ah al bh bl : Int) : Bool := decide (ah < bh) || (ah == bh && decide (al < bl))
set_option maxHeartbeats 1000000 in
theorem rlessU_any (ah al bh bl : Int) (w : World) :
    Calls Try.prog 54 #[.agg #[.int .u64 ah, .int .u64 al], .agg #[.int .u64 bh, .int .u64 bl]] w fun e w' => e = .returned (.bool (lessU ah al bh bl)) ∧ Below w.heap.size w w' := by
  by_cases h1 : ah < bh
  · have h1' : decide (ah < bh) = true := decide_eq_true h1
    have HR : Hid (lessU ah al bh bl = true) := Lib.hid (by unfold lessU; rw [h1']; rfl)
    rw [HR.out]
    clear h1
    go_enter Try.func54, Try.ntmps54
    go_wp2
    go_ret
    exact ⟨by simp, (below_new _ _).alloc (by simp) _⟩
  · have h1' : decide (ah < bh) = false := decide_eq_false h1
    by_cases h2 : ah = bh
    · have h2' : (ah == bh) = true := by simpa using h2
      have HR : Hid (lessU ah al bh bl = decide (al < bl)) := Lib.hid (by unfold lessU; rw [h1', h2']; rfl)
      rw [HR.out]
      clear h1 h2
      go_enter Try.func54, Try.ntmps54
      go_wp2
      go_ret
      exact ⟨by simp, (below_new _ _).alloc (by simp) _⟩
    · have h2' : (ah == bh) = false := by simpa using h2
      have HR : Hid (lessU ah al bh bl = false) := Lib.hid (by unfold lessU; rw [h1', h2']; rfl)
      rw [HR.out]
      clear h1 h2
      go_enter Try.func54, Try.ntmps54
      go_wp2
      go_ret
      exact ⟨by simp, (below_new _ _).alloc (by simp) _⟩
theorem lessU_of (x y : Int) : lessU (x / 18446744073709551616) (x % 18446744073709551616) (y / 18446744073709551616) (y % 18446744073709551616) = decide (x < y) := by
  unfold lessU
  rw [Bool.eq_iff_iff]
  simp
  omega

/-- What the comparison of two products answers. -/
def cmpP (x y : Int) : Int := if x = y then 0 else if x < y then -1 else 1

/-- The region of a text with a number. -/
def regionIn (n : Nat) : Code → Option Code
  | .region k xs b => bif Nat.beq k n then some (.region k xs b) else none
  | .seq a b => match regionIn n a with
    | some c => some c
    | none => regionIn n b
  | .loop c => regionIn n c
  | .block _ c => regionIn n c
  | .scope c => regionIn n c
  | .cond _ a b => match regionIn n a with
    | some c => some c
    | none => regionIn n b
  | _ => none
noncomputable def cmpCode (n : Nat) : Code := ((Try.f21.body.bind (regionIn n)).getD .skip)

set_option maxRecDepth 1000000 in
set_option maxHeartbeats 80000000 in
theorem rcmp1 {an ad bn bd xh xl yh yl : Int} {w : World} {Bb : Nat} {W0 : World} {u4 u5 u6 u7 u8 u9 u10 u11 u12 u13 u14 u15 u16 u17 u18 u19 u20 u21 u22 u23 u24 u25 u26 u27 u28 u29 u30 u31 u32 u33 u34 u35 u36 u37 u38 u39 u40 u41 u42 u43 u44 u45 u46 : Value} {K : Act → World → Prop} {Q0 : Exit → Act → World → Prop}
    (HS : Hid (∀ w', Below W0.heap.size W0 w' → Below W0.heap.size W0 w' ∧ w'.cell? ⟨w.heap.size, 0, none⟩ = some (.int .i64 an) ∧ w'.cell? ⟨w.heap.size, 1, none⟩ = some (.int .i64 ad) ∧ w'.cell? ⟨Bb, 0, none⟩ = some (.int .i64 bn) ∧ w'.cell? ⟨Bb, 1, none⟩ = some (.int .i64 bd))) (Z1 : Hid (∀ w : World, Calls Try.prog 53 #[.int .i64 an] w fun e w' => e = .returned (.int .u64 an) ∧ w = w')) (Z2 : Hid (∀ w : World, Calls Try.prog 53 #[.int .i64 ad] w fun e w' => e = .returned (.int .u64 ad) ∧ w = w')) (Z3 : Hid (∀ w : World, Calls Try.prog 53 #[.int .i64 bn] w fun e w' => e = .returned (.int .u64 bn) ∧ w = w')) (Z4 : Hid (∀ w : World, Calls Try.prog 53 #[.int .i64 bd] w fun e w' => e = .returned (.int .u64 bd) ∧ w = w')) (X1 : Hid (∀ w : World, Calls Try.prog 52 #[.int .u64 an, .int .u64 bd] w fun e w' => e = .returned (.agg #[.int .u64 xh, .int .u64 xl]) ∧ Below w.heap.size w w')) (X2 : Hid (∀ w : World, Calls Try.prog 52 #[.int .u64 bn, .int .u64 ad] w fun e w' => e = .returned (.agg #[.int .u64 yh, .int .u64 yl]) ∧ Below w.heap.size w w'))
    (hK : ∀ (u5 u6 u7 u8 u9 u10 u11 u12 u13 u14 u15 u16 u17 u18 u19 u20 u21 u22 u23 u24 u25 u26 u27 u28 u29 u30 u31 u32 u33 u34 u35 u36 u37 u38 u39 u40 u41 u42 u43 u44 u45 u46 : Value) (wx : World), ((fun v5 v6 wx => ∃ B C : Nat, v5 = .pointer (some ⟨B, 0, none⟩) ∧ v6 = .pointer (some ⟨C, 0, none⟩) ∧ RelU W0 B C xh xl yh yl wx) u5 u6 wx) → K ⟨List.toArray (.agg #[.int .i64 an, .int .i64 ad] :: .agg #[.int .i64 bn, .int .i64 bd] :: .pointer (some ⟨w.heap.size, 0, none⟩) :: .pointer (some ⟨Bb, 0, none⟩) :: u4 :: u5 :: u6 :: u7 :: u8 :: u9 :: u10 :: u11 :: u12 :: u13 :: u14 :: u15 :: u16 :: u17 :: u18 :: u19 :: u20 :: u21 :: u22 :: u23 :: u24 :: u25 :: u26 :: u27 :: u28 :: u29 :: u30 :: u31 :: u32 :: u33 :: u34 :: u35 :: u36 :: u37 :: u38 :: u39 :: u40 :: u41 :: u42 :: u43 :: u44 :: u45 :: u46 :: []), []⟩ wx) :
    Code.wp Try.prog (cmpCode 1) (Exit.then K Q0) ⟨List.toArray (.agg #[.int .i64 an, .int .i64 ad] :: .agg #[.int .i64 bn, .int .i64 bd] :: .pointer (some ⟨w.heap.size, 0, none⟩) :: .pointer (some ⟨Bb, 0, none⟩) :: u4 :: u5 :: u6 :: u7 :: u8 :: u9 :: u10 :: u11 :: u12 :: u13 :: u14 :: u15 :: u16 :: u17 :: u18 :: u19 :: u20 :: u21 :: u22 :: u23 :: u24 :: u25 :: u26 :: u27 :: u28 :: u29 :: u30 :: u31 :: u32 :: u33 :: u34 :: u35 :: u36 :: u37 :: u38 :: u39 :: u40 :: u41 :: u42 :: u43 :: u44 :: u45 :: u46 :: []), []⟩ W0 := by
  conv => arg 2; whnf
  have hbr := Below.refl W0.heap.size W0
  have hbd := hbr.drew
  go_cut [5, 6] from 7 (fun v5 v6 wx => ∃ B C : Nat, v5 = .pointer (some ⟨B, 0, none⟩) ∧ v6 = .pointer (some ⟨C, 0, none⟩) ∧ RelU W0 B C xh xl yh yl wx)
  case first =>
    go_region_held3 (fun w' => Below W0.heap.size W0 w' ∧ w'.cell? ⟨w.heap.size, 0, none⟩ = some (.int .i64 an) ∧ w'.cell? ⟨w.heap.size, 1, none⟩ = some (.int .i64 ad) ∧ w'.cell? ⟨Bb, 0, none⟩ = some (.int .i64 bn) ∧ w'.cell? ⟨Bb, 1, none⟩ = some (.int .i64 bd))
      (first | exact HS.out _ hbd | (go_split_ands; refine HS.out _ ?_; repeat' (first | assumption | apply below_a | apply Below.drew | (refine below_s _ _ ?_ (Nat.le_refl _)) | (refine below_s _ _ ?_ (Nat.le_succ _)) | (refine below_s _ _ ?_ (Below.size (by assumption))) | (refine below_s _ _ ?_ (Nat.le_succ_of_le (Below.size (by assumption)))))))
      (first
        | (go_at_call 53; go_split_ands; (with_reducible refine (Z1.out _).mono ?_); rintro e y0 ⟨rfl, rfl⟩)
        | (go_at_call 53; go_split_ands; (with_reducible refine (Z2.out _).mono ?_); rintro e y0 ⟨rfl, rfl⟩)
        | (go_at_call 53; go_split_ands; (with_reducible refine (Z3.out _).mono ?_); rintro e y0 ⟨rfl, rfl⟩)
        | (go_at_call 53; go_split_ands; (with_reducible refine (Z4.out _).mono ?_); rintro e y0 ⟨rfl, rfl⟩)
        | (go_at_call 52; go_split_ands; (with_reducible refine (X1.out _).mono ?_); rintro e w4 ⟨rfl, hb4⟩; have hb5 := held_next (wr := W0) (by assumption) hb4; (first | (have hq := unew2D hb4; obtain ⟨⟨c0, c1, c2, c3, c4⟩, ⟨d0, d1, d2, d3, d4⟩⟩ := hq) | (have hq := unew1D hb4; obtain ⟨c0, c1, c2, c3, c4⟩ := hq) | skip))
        | (go_at_call 52; go_split_ands; (with_reducible refine (X2.out _).mono ?_); rintro e w5 ⟨rfl, hb6⟩; have hb7 := held_next (wr := W0) (by assumption) hb6; have hv : Below w4.heap.size w4 w5 := (by first | exact hb6 | exact (below_new _ _).trans (hb6.mono (by simp)) | exact ((below_new _ _).alloc (by simp) _).trans (hb6.mono (by simp <;> omega))); (first | (have hq := unew2 hb6; obtain ⟨⟨e0, e1, e2, e3, e4⟩, ⟨f0, f1, f2, f3, f4⟩⟩ := hq) | (have hq := unew1 hb6; obtain ⟨e0, e1, e2, e3, e4⟩ := hq) | skip); (first | (have hq := ucarry hv ⟨c0, c1, c2, c3, c4⟩; obtain ⟨g0, g1, g2, g3, g4⟩ := hq) | skip); (first | (have hq := ucarry hv ⟨d0, d1, d2, d3, d4⟩; obtain ⟨h0, h1, h2, h3, h4⟩ := hq) | skip)))
    all_goals go_wp2_with fail
    all_goals go_meet
    all_goals refine ⟨_, _, rfl, rfl, ?_⟩
    all_goals first
      | (with_reducible refine relU1 xh xl yh yl _ ?_); assumption
      | (with_reducible refine (relU1 yh yl xh xl _ ?_).swap); assumption
      | (with_reducible refine relU2 _ xh xl yh yl _ ?_ ?_ ?_); (next => assumption); (next => (refine ⟨?_, ?_, ?_, ?_, ?_⟩ <;> assumption)); (next => (first | exact Nat.le_refl _ | exact Nat.le_succ _ | exact Below.size (by assumption) | exact Nat.le_succ_of_le (Below.size (by assumption))))
      | (with_reducible refine (relU2 _ yh yl xh xl _ ?_ ?_ ?_).swap); (next => assumption); (next => (refine ⟨?_, ?_, ?_, ?_, ?_⟩ <;> assumption)); (next => (first | exact Nat.le_refl _ | exact Nat.le_succ _ | exact Below.size (by assumption) | exact Nat.le_succ_of_le (Below.size (by assumption))))
      | (with_reducible refine relU3 _ _ xh xl yh yl ?_ ?_ ?_ ?_ ?_ ?_); (next => assumption); (next => (refine ⟨?_, ?_, ?_, ?_, ?_⟩ <;> assumption)); (next => (refine ⟨?_, ?_, ?_, ?_, ?_⟩ <;> assumption)); (next => (first | exact Nat.le_refl _ | exact Nat.le_succ _ | exact Below.size (by assumption) | exact Nat.le_succ_of_le (Below.size (by assumption)))); (next => (first | exact Nat.le_refl _ | exact Nat.le_succ _ | exact Below.size (by assumption) | exact Nat.le_succ_of_le (Below.size (by assumption)))); (next => omega)
  case rest => exact hK _ _ _ _ _ _ _ _ _ _ _ _ _ _ _ _ _ _ _ _ _ _ _ _ _ _ _ _ _ _ _ _ _ _ _ _ _ _ _ _ _ _ _ hcut
end Go.Proofs.Ytlgpolfbilkmbaa
