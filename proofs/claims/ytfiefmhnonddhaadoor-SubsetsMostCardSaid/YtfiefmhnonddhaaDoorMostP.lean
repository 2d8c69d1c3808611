/-
  PLAIN: what the law SubsetsMost asks of the parts that are found.
-/
import Derived.Test.YtfiefmhnonddhaaDoorOrdP
import Derived.Test.YtfiefmhnonddhaaDoorSubX
import Derived.Test.YtfiefmhnonddhaaDoorFind
import Derived.Test.YtfiefmhnonddhaaDoorCntP
namespace Go.Proofs.YtfiefmhnonddhaaDoor
open Go.RowKit

theorem partL_total : ∀ (l : List Int) (s : Nat), totalL (partL l s) = sumN l s
  | [], _ => rfl
  | x :: r, s => by
    rw [partL_cons, sumN_cons]
    split
    · rw [totalL, partL_total r]
    · rw [partL_total r]
theorem partL_mem : ∀ (l : List Int) (s : Nat), ∀ x ∈ partL l s, x ∈ l
  | [], _, x, h => h
  | y :: r, s, x, h => by
    rw [partL_cons] at h
    split at h
    · rcases List.mem_cons.1 h with e | e
      · rw [e]; exact List.mem_cons_self ..
      · exact List.mem_cons_of_mem _ (partL_mem r _ x e)
    · exact List.mem_cons_of_mem _ (partL_mem r _ x h)
theorem sub_full {n s : Nat} (h : s < 2 ^ n) : Sub s (2 ^ n - 1) := fun j hj => by
  rw [Nat.testBit_two_pow_sub_one]
  exact decide_eq_true (bit_lt h hj)
theorem most_facts {L : List Int} (hT : totalL L = 0) : zeroB L (2 ^ L.length - 1) = true ∧ (∃ m, MostOf (fun s => zeroB L s = true) (2 ^ L.length - 1) m) ∧ ∀ s, Sub s (2 ^ L.length - 1) → zeroB L s = true → ∃ k : Nat, mostL L s = k ∧ MostOf (fun s => zeroB L s = true) s k := by
  have hp := Nat.two_pow_pos L.length
  refine ⟨by unfold zeroB; exact decide_eq_true (by rw [full_total]; exact hT), ?_, fun s ss _ => ?_⟩
  · obtain ⟨m, _, _, hm⟩ := mostL_ok L (2 ^ L.length - 1) (by omega)
    exact ⟨m, hm⟩
  · obtain ⟨k, e, _, hk⟩ := mostL_ok L s (by have := sub_le ss; omega)
    exact ⟨k, e, hk⟩
/-- Check takes what Parts finds. -/
theorem parts_checked {L : List Int} (hG : givenE L = 0) (hT : totalL L = 0) : checkX L (partsX L) = true := by
  obtain ⟨hz, ⟨m, hm⟩, hM⟩ := most_facts hT
  have hp := Nat.two_pow_pos L.length
  have h := parts_check (l := L) (M := mostL L) (2 ^ L.length) (2 ^ L.length - 1) m 0 (-1) (by omega) (by omega) (by rw [full_total]; exact hT) hM hm (fun j ⟨h, _⟩ => by simp at h) (fun _ => by omega)
  have e : partsX L = (partsTo L.length (fun s => decide (sumN L s = 0)) (mostL L) (2 ^ L.length) (2 ^ L.length - 1)).map (idxN L.length 0) := by
    unfold partsX
    rw [if_pos (by rw [partsE_iff hG, if_pos hT])]
    rfl
  unfold checkX checkP
  rw [decide_eq_true hG, e, h]
  simp only [Nat.zero_or, siz_top, decide_true, Bool.and_true]
/-- The numbers of a part, as the law gathers them. -/
def partY (L : List Int) (x : List Int) : List Int := x.map fun k => ig L k.toNat
theorem part_zero {L : List Int} (hG : givenE L = 0) (hT : totalL L = 0) {x : List Int} (hx : x ∈ partsX L) :
    (∀ k ∈ x, 0 ≤ k ∧ k < L.length) ∧ x.length ≤ L.length ∧ findE (partY L x) 0 1 = 0 ∧ (findX (partY L x) 0 1).length = (partY L x).length := by
  obtain ⟨hz, ⟨m, hm⟩, hM⟩ := most_facts hT
  have hp := Nat.two_pow_pos L.length
  unfold partsX at hx
  rw [if_pos (by rw [partsE_iff hG, if_pos hT])] at hx
  obtain ⟨s, hs, rfl⟩ := List.mem_map.1 hx
  unfold partsS at hs
  obtain ⟨s0, ss, zs⟩ := (parts_ok (n := L.length) (zero_adds L) (2 ^ L.length) (2 ^ L.length - 1) m (by omega) hz hM hm).2 s hs
  obtain ⟨k, ek, pk⟩ := parts_without (n := L.length) (zero_adds L) (2 ^ L.length) (2 ^ L.length - 1) m (by omega) hz hM hm s hs
  have sl : s < 2 ^ L.length := by have := sub_le ss; omega
  have eY : partY L (idxN L.length 0 s) = partL L s := by
    unfold partY
    refine partL_map L 0 s _ fun j hj => ?_
    rw [Nat.zero_add, Int.toNat_natCast]
    rfl
  have whole := fun {t : Nat} (ts : Sub t s) (t0 : t ≠ 0) (zt : zeroB L t = true) => part_whole (zero_adds L) hm ss zs ek pk ts t0 zt
  have lenY : (partL L s).length = sizN L.length s := partL_len L s
  have hGY : givenE (partL L s) = 0 := given_iff.2 ⟨by rw [lenY]; have := siz_le L.length s; have := (given_small hG).1; omega, fun y hy => small_mem hG y (partL_mem L s y hy)⟩
  have full : goodB (partL L s) 0 1 (2 ^ (partL L s).length - 1) = true := by
    unfold goodB
    rw [full_total, partL_total, siz_top, lenY]
    have : sumN L s = 0 := of_decide_eq_true zs
    have h1 := idx_pos sl s0
    rw [idx_len] at h1
    rw [decide_eq_true this, decide_eq_true (by omega)]
    rfl
  have found : (fstTo (partL L s) 0 1 (2 ^ (partL L s).length)).2 = true := (fst_some _ _ _ _).2 ⟨_, by have := Nat.two_pow_pos (partL L s).length; omega, full⟩
  obtain ⟨tl, tg⟩ := fst_lt (partL L s) 0 1 _ found
  generalize ht : (fstTo (partL L s) 0 1 (2 ^ (partL L s).length)).1 = t at tl tg
  unfold goodB at tg
  rw [Bool.and_eq_true, decide_eq_true_eq, decide_eq_true_eq] at tg
  obtain ⟨u, us, u1, u2, _⟩ := part_sub L s t tl
  have u0 : u ≠ 0 := fun e => by
    rw [e, ← idx_len L.length 0 0, idx_zero] at u2
    simp at u2
    omega
  have eu : u = s := whole us u0 (by unfold zeroB; exact decide_eq_true (by rw [← u1]; exact tg.1))
  have ef : sizN (partL L s).length t = (partL L s).length := by rw [← u2, eu, lenY]
  refine ⟨fun k hk => ?_, by rw [idx_len]; exact siz_le _ _, ?_, ?_⟩
  · have := idx_ge L.length 0 s k hk
    omega
  · rw [eY]; unfold findE
    rw [if_pos hGY, if_pos found]
  · rw [eY]; unfold findX foundB
    rw [decide_eq_true hGY, found, Bool.and_self, if_pos rfl, ht, idx_len, ef]
theorem parts_bound {L : List Int} (hG : givenE L = 0) (hT : totalL L = 0) : (partsX L).length ≤ 65536 ∧ ∀ ps, checkX L ps = true → ps.length ≤ (partsX L).length := by
  obtain ⟨m, e, h1, h2⟩ := parts_most hG hT
  refine ⟨?_, fun ps h => ?_⟩
  · have := h1.le
    have h16 : 2 ^ L.length ≤ 65536 := Nat.pow_le_pow_right (by decide) (given_small hG).1
    omega
  · unfold checkX at h
    rw [Bool.and_eq_true] at h
    have := h2 _ (check_part h.2)
    omega
end Go.Proofs.YtfiefmhnonddhaaDoor
