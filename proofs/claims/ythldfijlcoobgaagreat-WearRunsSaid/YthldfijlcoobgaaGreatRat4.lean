/-
  THE WALK of ratio.Add, where the sum of the magnitudes is below 2^64.
-/
import Derived.Test.YthldfijlcoobgaaGreatRat3
import Derived.RegionTactic
import Derived.IntWalk
import Derived.Outline
import Derived.Deep.DeepCutAuto
namespace Go.Proofs.YthldfijlcoobgaaGreat
open Go.RowKit Go.Shelf


def fitP (p q : Int) : Int × Int × Int := if 1152921504606846976 < p.natAbs ∨ 1152921504606846976 < q then (0, 0, 5) else (p, q, 0)
theorem sign_fit {neg : Bool} {p q : Int} (h : neg = decide (p < 0)) : signP neg (p.natAbs : Int) q = fitP p q := by
  unfold signP fitP
  by_cases c : 1152921504606846976 < p.natAbs ∨ 1152921504606846976 < q
  · have c' : (1152921504606846976 : Int) < (p.natAbs : Int) ∨ 1152921504606846976 < q := by omega
    rw [if_pos c, if_pos c']
  · have c' : ¬ ((1152921504606846976 : Int) < (p.natAbs : Int) ∨ 1152921504606846976 < q) := by omega
    rw [if_neg c, if_neg c']
    subst h
    by_cases d : p < 0
    · rw [if_pos (decide_eq_true d), show -(p.natAbs : Int) = p by omega]
    · rw [if_neg (by simpa using d), show (p.natAbs : Int) = p by omega]

def NewF (w : World) (b : Nat) : Prop := w.cell? ⟨b, 0, none⟩ = some (.int .u64 0) ∧ w.cell? ⟨b, 1, none⟩ = some (.int .u64 0) ∧ w.frozen? ⟨b, 0, none⟩ = false ∧ w.frozen? ⟨b, 1, none⟩ = false ∧ b < w.heap.size
theorem carry {W w : World} {b : Nat} (h : Below W.heap.size W w) (f : NewF W b) : NewF w b :=
  ⟨(h.cell (p := ⟨b, 0, none⟩) f.2.2.2.2).trans f.1, (h.cell (p := ⟨b, 1, none⟩) f.2.2.2.2).trans f.2.1, (h.frozen (p := ⟨b, 0, none⟩) f.2.2.2.2).trans f.2.2.1, (h.frozen (p := ⟨b, 1, none⟩) f.2.2.2.2).trans f.2.2.2.1, Nat.lt_of_lt_of_le f.2.2.2.2 h.size⟩
theorem newF (W : World) (ty : TypeId) : NewF (W.alloc (.cells #[.int .u64 0, .int .u64 0] ty)) W.heap.size := ⟨by simp, by simp, by simp, by simp, by simp⟩
theorem new1 {W w : World} {ty : TypeId} (h : Below (W.alloc (.cells #[.int .u64 0, .int .u64 0] ty)).heap.size (W.alloc (.cells #[.int .u64 0, .int .u64 0] ty)) w) : NewF w W.heap.size := carry h (newF W ty)
theorem new2 {W w : World} {ty : TypeId} (h : Below ((W.alloc (.cells #[.int .u64 0, .int .u64 0] ty)).alloc (.cells #[.int .u64 0, .int .u64 0] ty)).heap.size ((W.alloc (.cells #[.int .u64 0, .int .u64 0] ty)).alloc (.cells #[.int .u64 0, .int .u64 0] ty)) w) : NewF w W.heap.size ∧ NewF w (W.heap.size + 1) :=
  ⟨carry h (carry (below_new _ _) (newF W ty)), by have := carry h (newF (W.alloc (.cells #[.int .u64 0, .int .u64 0] ty)) ty); rwa [World.size_alloc] at this⟩
theorem new1D {W w : World} {ty : TypeId} (h : Below (W.alloc (.cells #[.int .u64 0, .int .u64 0] ty)).drew.heap.size (W.alloc (.cells #[.int .u64 0, .int .u64 0] ty)).drew w) : NewF w W.heap.size := new1 (ty := ty) ⟨h.os, h.tape, h.output, h.size, h.block⟩
theorem new2D {W w : World} {ty : TypeId} (h : Below ((W.alloc (.cells #[.int .u64 0, .int .u64 0] ty)).alloc (.cells #[.int .u64 0, .int .u64 0] ty)).drew.heap.size ((W.alloc (.cells #[.int .u64 0, .int .u64 0] ty)).alloc (.cells #[.int .u64 0, .int .u64 0] ty)).drew w) : NewF w W.heap.size ∧ NewF w (W.heap.size + 1) := new2 (ty := ty) ⟨h.os, h.tape, h.output, h.size, h.block⟩
theorem below_s {W w : World} (p : Addr) (u : Value) (h : Below W.heap.size W w) (hp : W.heap.size ≤ p.block) : Below W.heap.size W (w.setCell p u) := h.setCell hp u
theorem below_a {W w : World} (o : Obj) (h : Below W.heap.size W w) : Below W.heap.size W (w.alloc o) := h.alloc h.size o

def Rel78 (W0 : World) (B7 B8 : Nat) (x y : Int) (wx : World) : Prop := W0.heap.size ≤ B7 ∧ W0.heap.size ≤ B8 ∧ Below W0.heap.size W0 wx ∧ wx.cell? ⟨B7, 0, none⟩ = some (.int .u64 0) ∧ wx.cell? ⟨B7, 1, none⟩ = some (.int .u64 x) ∧ wx.cell? ⟨B8, 0, none⟩ = some (.int .u64 0) ∧ wx.cell? ⟨B8, 1, none⟩ = some (.int .u64 y)
theorem Rel78.swap {W0 : World} {B7 B8 : Nat} {x y : Int} {wx : World} (h : Rel78 W0 B7 B8 x y wx) : Rel78 W0 B8 B7 y x wx := ⟨h.2.1, h.1, h.2.2.1, h.2.2.2.2.2.1, h.2.2.2.2.2.2, h.2.2.2.1, h.2.2.2.2.1⟩
theorem rel1 {W0 w : World} (x y : Int) (t : TypeId) (h : Below W0.heap.size W0 w) : Rel78 W0 w.heap.size (w.heap.size + 1) x y ((w.alloc (.cells #[.int .u64 0, .int .u64 x] t)).alloc (.cells #[.int .u64 0, .int .u64 y] t)) :=
  ⟨h.size, Nat.le_succ_of_le h.size, below_a _ (below_a _ h), by simp, by simp, by simp, by simp⟩
theorem two_cells {w : World} {B : Nat} {v0 v1 u0 u1 : Value} (f0 : w.cell? ⟨B, 0, none⟩ = some u0) (f1 : w.cell? ⟨B, 1, none⟩ = some u1) : ((w.setCell ⟨B, 0, none⟩ v0).setCell ⟨B, 1, none⟩ v1).cell? ⟨B, 0, none⟩ = some v0 ∧ ((w.setCell ⟨B, 0, none⟩ v0).setCell ⟨B, 1, none⟩ v1).cell? ⟨B, 1, none⟩ = some v1 := by
  have s0 := World.cell?_setCell_same w ⟨B, 0, none⟩ v0 f0
  have s1 : (w.setCell ⟨B, 0, none⟩ v0).cell? ⟨B, 1, none⟩ = some u1 := (World.cell?_setCell_other _ _ _ _ (fun x => absurd (congrArg Addr.off x) (by simp))).trans f1
  exact ⟨(World.cell?_setCell_other _ _ _ _ (fun x => absurd (congrArg Addr.off x) (by simp))).trans s0, World.cell?_setCell_same _ _ _ s1⟩
theorem two_other {w : World} {B C : Nat} (h : C ≠ B) (v0 v1 : Value) (i : Nat) : ((w.setCell ⟨B, 0, none⟩ v0).setCell ⟨B, 1, none⟩ v1).cell? ⟨C, i, none⟩ = w.cell? ⟨C, i, none⟩ :=
  (World.cell?_setCell_other _ _ _ _ (fun x => h (congrArg Addr.block x).symm)).trans (World.cell?_setCell_other _ _ _ _ (fun x => h (congrArg Addr.block x).symm))
theorem new_cells (V : World) (a b : Value) (t : TypeId) : (V.alloc (.cells #[a, b] t)).cell? ⟨V.heap.size, 0, none⟩ = some a ∧ (V.alloc (.cells #[a, b] t)).cell? ⟨V.heap.size, 1, none⟩ = some b := ⟨by simp, by simp⟩
theorem rel2 {W0 w : World} (B : Nat) (x y : Int) (t : TypeId) (h : Below W0.heap.size W0 w) (f : NewF w B) (hB : W0.heap.size ≤ B) : Rel78 W0 B w.heap.size x y (((w.setCell ⟨B, 0, none⟩ (.int .u64 0)).setCell ⟨B, 1, none⟩ (.int .u64 x)).alloc (.cells #[.int .u64 0, .int .u64 y] t)) := by
  obtain ⟨c0, c1⟩ := two_cells (v0 := .int .u64 0) (v1 := .int .u64 x) f.1 f.2.1
  have hl : B < ((w.setCell ⟨B, 0, none⟩ (.int .u64 0)).setCell ⟨B, 1, none⟩ (.int .u64 x)).heap.size := by simpa using f.2.2.2.2
  have hs : ((w.setCell ⟨B, 0, none⟩ (.int .u64 0)).setCell ⟨B, 1, none⟩ (.int .u64 x)).heap.size = w.heap.size := by simp
  refine ⟨hB, h.size, below_a _ (below_s ⟨B, 1, none⟩ _ (below_s ⟨B, 0, none⟩ _ h hB) hB), (World.cell?_alloc_lt _ _ _ hl).trans c0, (World.cell?_alloc_lt _ _ _ hl).trans c1, ?_⟩
  have := new_cells ((w.setCell ⟨B, 0, none⟩ (.int .u64 0)).setCell ⟨B, 1, none⟩ (.int .u64 x)) (.int .u64 0) (.int .u64 y) t
  rwa [hs] at this
theorem rel3 {W0 w : World} (B C : Nat) (x y : Int) (h : Below W0.heap.size W0 w) (f : NewF w B) (f' : NewF w C) (hB : W0.heap.size ≤ B) (hC : W0.heap.size ≤ C) (hne : B ≠ C) : Rel78 W0 B C x y ((((w.setCell ⟨B, 0, none⟩ (.int .u64 0)).setCell ⟨B, 1, none⟩ (.int .u64 x)).setCell ⟨C, 0, none⟩ (.int .u64 0)).setCell ⟨C, 1, none⟩ (.int .u64 y)) := by
  obtain ⟨c0, c1⟩ := two_cells (v0 := .int .u64 0) (v1 := .int .u64 x) f.1 f.2.1
  have f2 : NewF ((w.setCell ⟨B, 0, none⟩ (.int .u64 0)).setCell ⟨B, 1, none⟩ (.int .u64 x)) C := ⟨(two_other (Ne.symm hne) _ _ _).trans f'.1, (two_other (Ne.symm hne) _ _ _).trans f'.2.1, by simpa using f'.2.2.1, by simpa using f'.2.2.2.1, by simpa using f'.2.2.2.2⟩
  obtain ⟨d0, d1⟩ := two_cells (v0 := .int .u64 0) (v1 := .int .u64 y) f2.1 f2.2.1
  exact ⟨hB, hC, below_s ⟨C, 1, none⟩ _ (below_s ⟨C, 0, none⟩ _ (below_s ⟨B, 1, none⟩ _ (below_s ⟨B, 0, none⟩ _ h hB) hB) hC) hC, (two_other hne _ _ _).trans c0, (two_other hne _ _ _).trans c1, d0, d1⟩

end Go.Proofs.YthldfijlcoobgaaGreat
