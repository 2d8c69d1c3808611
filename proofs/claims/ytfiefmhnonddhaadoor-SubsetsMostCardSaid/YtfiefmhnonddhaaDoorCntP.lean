/-
  PLAIN: the reference's table of how many parts a subset has; the lowest bit of an i64.
-/
import Derived.Test.YtfiefmhnonddhaaDoorPartsA
import Derived.Test.YtfiefmhnonddhaaDoorRefB
namespace Go.Proofs.YtfiefmhnonddhaaDoor
open Go.RowKit

theorem i64_low (x : Nat) (h0 : x ≠ 0) (hx : x < 65536) : bits .and .i64 (x : Int) (-(x : Int)) = ((2 ^ bitLow x : Nat) : Int) := by
  obtain ⟨hlow, hb⟩ := low_two x h0 hx
  have h2 : 2 ^ bitLow x < 65536 := Nat.lt_of_lt_of_le (Nat.pow_lt_pow_right (by decide) hb) (by decide)
  have e64 : x &&& (18446744073709551616 - x) = 2 ^ bitLow x := by
    obtain ⟨hl, _⟩ := Lib.lowest_bit 64 x h0 (by omega)
    obtain ⟨hl2, _⟩ := Lib.lowest_bit 32 x h0 (by omega)
    have hc : Lib.ctz 64 x = Lib.ctz 32 x := by
      unfold Lib.ctz
      rw [if_neg h0, if_neg h0]
      have a := idx_low 32 0 x h0 (by omega) 32 (by omega)
      have b := idx_low 32 0 x h0 (by omega) 64 (by omega)
      rw [a] at b
      simp only [List.cons.injEq] at b
      omega
    have e1 : (4294967296 - x) % 4294967296 = 2 ^ 32 - x := by omega
    rw [e1, hl2] at hlow
    rw [show 18446744073709551616 - x = 2 ^ 64 - x by rfl, hl, hc]
    exact hlow
  have h1 : (BitVec.ofInt 64 (x : Int)).toNat = x := by
    rw [BitVec.ofInt_natCast, BitVec.toNat_ofNat]; exact Nat.mod_eq_of_lt (by omega)
  have h3 : (BitVec.ofInt 64 (-(x : Int))).toNat = 18446744073709551616 - x := by
    rw [BitVec.toNat_ofInt]
    omega
  show IntKind.i64.wrap ((BitVec.ofInt 64 (x : Int) &&& BitVec.ofInt 64 (-(x : Int))).toNat : Int) = _
  rw [BitVec.toNat_and, h1, h3, e64, IntKind.wrap_i64]
  omega
theorem PartN.le {Z : Nat → Prop} {i m : Nat} (h : PartN Z i m) : m ≤ i := by
  induction h with
  | nil => exact Nat.le_refl _
  | @cons s i' m' h0 z d p ih =>
    have hs : Sub i' (s ||| i') := fun j hj => by rw [Nat.testBit_or, hj]; simp
    have h1 := sub_le hs
    have h2 : i' ≠ s ||| i' := fun e => by
      obtain ⟨j, hj⟩ := bit_some h0
      have : i'.testBit j = true := by rw [e, Nat.testBit_or, hj]; rfl
      exact d j ⟨hj, this⟩
    omega
def cntTo (L : List Int) : Nat → List Int
  | 0 => [0]
  | i + 1 => cntTo L i ++ [cntE (zeroB L) (ig (cntTo L i)) (i + 1) (bitLow (i + 1))]
theorem cntTo_len (L : List Int) : ∀ i, (cntTo L i).length = i + 1
  | 0 => rfl
  | i + 1 => by rw [cntTo, List.length_append, cntTo_len L i]; rfl
theorem cntOf_zero (Z : Nat → Prop) : CntOf Z 0 0 := .inr ⟨0, rfl, .nil, fun k h => by have := h.le; omega⟩
theorem cntTo_ok (L : List Int) : ∀ i j, j ≤ i → CntOf (fun s => zeroB L s = true) j (ig (cntTo L i) j)
  | 0, j, hj => by
    obtain rfl : j = 0 := by omega
    exact cntOf_zero _
  | i + 1, j, hj => by
    rcases Nat.lt_or_ge j (i + 1) with l | l
    · rw [cntTo, ig_old _ _ _ (by rw [cntTo_len]; exact l)]
      exact cntTo_ok L i j (by omega)
    · obtain rfl : j = i + 1 := by omega
      have e : ig (cntTo L (i + 1)) (i + 1) = cntE (zeroB L) (ig (cntTo L i)) (i + 1) (bitLow (i + 1)) := by
        rw [cntTo]
        have := ig_new (cntTo L i) (cntE (zeroB L) (ig (cntTo L i)) (i + 1) (bitLow (i + 1)))
        rwa [cntTo_len] at this
      rw [e]
      exact cnt_entry (bitLow_in (by omega)) fun j hj => cntTo_ok L i j (by omega)
theorem cntTo_bound (L : List Int) (i j : Nat) (hj : j ≤ i) : -1 ≤ ig (cntTo L i) j ∧ ig (cntTo L i) j ≤ j := by
  rcases cntTo_ok L i j hj with ⟨e, _⟩ | ⟨m, e, hp, _⟩
  · omega
  · have := hp.le; omega
/-- The reference's table. -/
def cntL (L : List Int) (s : Nat) : Int := ig (cntTo L (2 ^ L.length - 1)) s
theorem cnt_agree {L : List Int} {s : Nat} (z : zeroB L s = true) (h : s < 2 ^ L.length) : mostL L s = cntL L s := by
  obtain ⟨k, e, _, hk⟩ := mostL_ok L s h
  exact tables_agree (zero_adds L) (M := mostL L) (C := cntL L) z ⟨k, e, hk⟩ (cntTo_ok L _ s (by omega))
theorem partsS_ref {L : List Int} (hz : zeroB L (2 ^ L.length - 1) = true) : partsS L = partsTo L.length (zeroB L) (cntL L) (2 ^ L.length) (2 ^ L.length - 1) :=
  parts_congr (zero_adds L) (n := L.length) (fun s z h => cnt_agree z h) _ _ (by have := Nat.two_pow_pos L.length; omega) hz
theorem cfold_next {Z : Nat → Bool} {C : Nat → Int} {i b left f s : Nat} {best : Int} (hs : s ≠ 0) (hf : s ≤ f) : ∃ f', (s - 1) &&& left ≤ f' ∧ (subsD left f s).foldl (cntStep Z C i b) best = (subsD left f' ((s - 1) &&& left)).foldl (cntStep Z C i b) (cntStep Z C i b best s) := by
  obtain ⟨f', rfl⟩ : ∃ g, f = g + 1 := ⟨f - 1, by omega⟩
  refine ⟨f', by have := next_lt (left := left) hs; omega, ?_⟩
  rw [subsD, if_neg hs, List.foldl_cons]
end Go.Proofs.YtfiefmhnonddhaaDoor
