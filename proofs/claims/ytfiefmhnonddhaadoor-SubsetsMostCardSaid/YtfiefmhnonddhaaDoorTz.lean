/-
  THE CONTRACTS of math/bits.TrailingZeros and TrailingZeros32, laid for this seat, under the two tables in memory.
-/
import Derived.Test.YtfiefmhnonddhaaDoorApp
import Derived.Shelf.Spec.TrailingZeros
namespace Go.Proofs.YtfiefmhnonddhaaDoor
open Go.RowKit Go.Shelf

def tz_ren : Ren := ⟨fun | 27 => 57 | 28 => 60 | 29 => 65 | n => n, fun | 3 => 3 | 4 => 4 | 5 => 5 | 22 => 78 | 25 => 61 | 27 => 35 | 53 => 86 | 54 => 87 | n => n, fun | 0 => 0 | 1 => 1 | n => n⟩
theorem tz_lays : Lays7.n27 Tryd.prog tz_ren where
  mixed := by kernel_rfl
  f27 := Tryd.func57.trans (congrArg some (by kernel_rfl))
  f28 := Tryd.func60.trans (congrArg some (by kernel_rfl))
  f29 := Tryd.func65.trans (congrArg some (by kernel_rfl))
  t0 := Tryd.underlying0
  a0 := Tryd.isAgg0
  z0 := Tryd.sizeOf0
  v0 := Tryd.zeroValue0
  i0 := by kernel_rfl
  t3 := Tryd.underlying3
  a3 := Tryd.isAgg3
  z3 := Tryd.sizeOf3
  v3 := Tryd.zeroValue3
  i3 := by kernel_rfl
  t4 := Tryd.underlying4
  a4 := Tryd.isAgg4
  z4 := Tryd.sizeOf4
  v4 := Tryd.zeroValue4
  i4 := by kernel_rfl
  t5 := Tryd.underlying5
  a5 := Tryd.isAgg5
  z5 := Tryd.sizeOf5
  v5 := Tryd.zeroValue5
  i5 := by kernel_rfl
  t22 := Tryd.underlying78
  a22 := Tryd.isAgg78
  z22 := Tryd.sizeOf78
  v22 := Tryd.zeroValue78
  i22 := by kernel_rfl
  t25 := Tryd.underlying61
  a25 := Tryd.isAgg61
  z25 := Tryd.sizeOf61
  v25 := Tryd.zeroValue61
  i25 := by kernel_rfl
  t27 := Tryd.underlying35
  a27 := Tryd.isAgg35
  z27 := Tryd.sizeOf35
  v27 := Tryd.zeroValue35
  i27 := by kernel_rfl
  t53 := Tryd.underlying86
  a53 := Tryd.isAgg86
  z53 := Tryd.sizeOf86
  v53 := Tryd.zeroValue86
  i53 := by kernel_rfl
  t54 := Tryd.underlying87
  a54 := Tryd.isAgg87
  z54 := Tryd.sizeOf87
  g0 := by kernel_rfl
  g1 := by kernel_rfl
/-- Both tables lie in memory as the library lays them. -/
def Tabs (w : World) : Prop := TabAt 0 Lib.deBruijn32tab w ∧ TabAt 1 Lib.deBruijn64tab w ∧ 2 ≤ w.heap.size
theorem Tabs.grow {w w' : World} (h : Tabs w) (hb : Below w.heap.size w w') : Tabs w' := by
  obtain ⟨h1, h2, h3⟩ := h
  refine ⟨fun j hj => ?_, fun j hj => ?_, Nat.le_trans h3 hb.size⟩
  · exact (hb.cell (p := ⟨0, j, none⟩) (show 0 < w.heap.size by omega)).trans (h1 j hj)
  · exact (hb.cell (p := ⟨1, j, none⟩) (show 1 < w.heap.size by omega)).trans (h2 j hj)
theorem tz32_any (x : Nat) (h0 : x ≠ 0) (hx : x < 4294967296) (w : World) (hT : Tabs w) :
    Calls Tryd.prog 60 #[.int .u32 x] w fun e w' => e = .returned (.int .i64 (Lib.ctzFrom 32 x)) ∧ w = w' :=
  (Any7.bits_TrailingZeros32 { tz_lays with } x hx w fun _ => hT.1).mono fun e w' h => ⟨h.1.trans (by unfold Lib.ctz; rw [if_neg h0]), h.2.symm⟩
theorem tz_any (x : Nat) (h0 : x ≠ 0) (hx : x < 18446744073709551616) (w : World) (hT : Tabs w) :
    Calls Tryd.prog 57 #[.int .u64 x] w fun e w' => e = .returned (.int .i64 (Lib.ctzFrom 64 x)) ∧ w = w' :=
  (Any7.bits_TrailingZeros tz_lays x hx w fun _ => hT.2.1).mono fun e w' h => ⟨h.1.trans (by unfold Lib.ctz; rw [if_neg h0]), h.2.symm⟩
end Go.Proofs.YtfiefmhnonddhaaDoor
