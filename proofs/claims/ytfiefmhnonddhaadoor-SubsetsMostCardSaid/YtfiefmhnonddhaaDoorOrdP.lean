/-
  PLAIN: the order of a list, its negative, and a number added with its opposite: sums and parts.
-/
import Derived.Test.YtfiefmhnonddhaaDoorPairW
namespace Go.Proofs.YtfiefmhnonddhaaDoor
open Go.RowKit

theorem given_iff {L : List Int} : givenE L = 0 ↔ L.length ≤ 16 ∧ ∀ x ∈ L, -1125899906842624 ≤ x ∧ x ≤ 1125899906842624 := by
  constructor
  · exact fun h => ⟨(given_small h).1, small_mem h⟩
  · rintro ⟨h1, h2⟩
    unfold givenE
    rw [if_neg (by omega), if_neg]
    rw [Bool.not_eq_true, List.any_eq_false]
    intro x hx
    have := h2 x hx
    unfold bigB
    simp
    omega
theorem given_rev {L : List Int} (h : givenE L = 0) : givenE L.reverse = 0 := by
  obtain ⟨h1, h2⟩ := given_iff.1 h
  exact given_iff.2 ⟨by rw [List.length_reverse]; exact h1, fun x hx => h2 x (List.mem_reverse.1 hx)⟩
def negL (L : List Int) : List Int := L.map fun x => -x
theorem negL_len (L : List Int) : (negL L).length = L.length := List.length_map ..
theorem given_neg {L : List Int} (h : givenE L = 0) : givenE (negL L) = 0 := by
  obtain ⟨h1, h2⟩ := given_iff.1 h
  refine given_iff.2 ⟨by rw [negL_len]; exact h1, fun x hx => ?_⟩
  obtain ⟨y, hy, e⟩ := List.mem_map.1 hx
  have := h2 y hy
  omega
theorem given_more {L : List Int} {x : Int} (h : givenE L = 0) (h8 : L.length ≤ 8) (hx : 0 ≤ x ∧ x ≤ 4294967295) : givenE (L ++ [x, -x]) = 0 := by
  obtain ⟨h1, h2⟩ := given_iff.1 h
  refine given_iff.2 ⟨by simp; omega, fun y hy => ?_⟩
  rcases List.mem_append.1 hy with hy | hy
  · exact h2 y hy
  · simp at hy
    omega
theorem sums_rev (L : List Int) : sumsP L.reverse = sumsP L := by
  refine ltL_ext _ _ (sumsP_ok _).1 (sumsP_ok _).1 fun x => ?_
  rw [(sumsP_ok _).2, (sumsP_ok _).2, ← inS_iff, ← inS_iff]
  exact inS_perm (List.reverse_perm L) x
theorem sums_neg (L : List Int) : sumsP (negL L) = ((sumsP L).map fun x => -x).reverse := by
  refine ltL_ext _ _ (sumsP_ok _).1 ?_ fun x => ?_
  · rw [List.pairwise_reverse, List.pairwise_map]
    exact (sumsP_ok L).1.imp fun h => by omega
  · rw [(sumsP_ok _).2, List.mem_reverse, List.mem_map, negL_len]
    constructor
    · rintro ⟨s, hs, e⟩
      refine ⟨sumN L s, ((sumsP_ok L).2 _).2 ⟨s, hs, rfl⟩, ?_⟩
      rw [← e]
      exact (sum_neg L s).symm
    · rintro ⟨y, hy, e⟩
      obtain ⟨s, hs, e2⟩ := ((sumsP_ok L).2 y).1 hy
      exact ⟨s, hs, by rw [← e, ← e2]; exact sum_neg L s⟩
theorem sums_neg_at {L : List Int} {i : Nat} (h : i < (sumsP L).length) : ig (sumsP L) i = -ig (sumsP (negL L)) ((sumsP L).length - 1 - i) := by
  rw [sums_neg]
  unfold ig
  rw [List.getElem?_reverse (by rw [List.length_map]; omega), List.length_map, List.getElem?_map, show (sumsP L).length - 1 - ((sumsP L).length - 1 - i) = i by omega, List.getElem?_eq_getElem h]
  simp
theorem sums_neg_len (L : List Int) : (sumsP (negL L)).length = (sumsP L).length := by rw [sums_neg, List.length_reverse, List.length_map]
theorem full_total (L : List Int) : sumN L (2 ^ L.length - 1) = totalL L := by
  have := sum_rest L 0 (Nat.two_pow_pos _)
  rw [sum_zero] at this
  simpa using this
theorem total_end : ∀ {L : List Int} {x : Int}, totalL (L ++ [x]) = totalL L + x
  | [], x => by simp [totalL]
  | y :: r, x => by rw [List.cons_append, totalL, totalL, total_end]; omega
theorem total_rev (L : List Int) : totalL L.reverse = totalL L := by
  induction L with
  | nil => rfl
  | cons x r ih => rw [List.reverse_cons, total_end, ih, totalL]; omega
theorem total_neg (L : List Int) : totalL (negL L) = -totalL L := by
  induction L with
  | nil => rfl
  | cons x r ih =>
    have e : negL (x :: r) = -x :: negL r := rfl
    rw [e, totalL, totalL, ih]; omega
theorem partsE_iff {L : List Int} (hG : givenE L = 0) : partsE L = if totalL L = 0 then 0 else 18 := by unfold partsE; rw [if_pos hG, full_total]
theorem zero_fun (L : List Int) : (fun s => zeroB L s = true) = fun s => sumN L s = 0 := funext fun s => by unfold zeroB; rw [decide_eq_true_eq]
/-- The number of the parts that are found: the most. -/
theorem parts_most {L : List Int} (hG : givenE L = 0) (hT : totalL L = 0) : ∃ m, (partsX L).length = m ∧ PartN (fun s => sumN L s = 0) (2 ^ L.length - 1) m ∧ ∀ k, PartN (fun s => sumN L s = 0) (2 ^ L.length - 1) k → k ≤ m := by
  have hz : zeroB L (2 ^ L.length - 1) = true := by unfold zeroB; exact decide_eq_true (by rw [full_total]; exact hT)
  have hp := Nat.two_pow_pos L.length
  obtain ⟨m, _, _, hm⟩ := mostL_ok L (2 ^ L.length - 1) (by omega)
  obtain ⟨h1, _⟩ := parts_ok (zero_adds L) (M := mostL L) (n := L.length) (2 ^ L.length) (2 ^ L.length - 1) m (by omega) hz (fun s ss _ => by
    obtain ⟨k, e, _, hk⟩ := mostL_ok L s (by have := sub_le ss; omega)
    exact ⟨k, e, hk⟩) hm
  obtain ⟨h2, h3⟩ := most_whole (zero_adds L) hz hm
  rw [zero_fun] at h2 h3
  refine ⟨m, ?_, h2, h3⟩
  unfold partsX partsS
  rw [if_pos (by rw [partsE_iff hG, if_pos hT]), List.length_map]
  exact h1
theorem parts_none {L : List Int} (hG : givenE L = 0) (hT : totalL L ≠ 0) : partsX L = [] := by
  unfold partsX
  rw [if_neg (by rw [partsE_iff hG, if_neg hT]; decide)]
theorem parts_rev {L : List Int} (hG : givenE L = 0) : (partsX L.reverse).length = (partsX L).length ∧ partsE L.reverse = partsE L := by
  have hG2 := given_rev hG
  refine ⟨?_, by rw [partsE_iff hG, partsE_iff hG2, total_rev]⟩
  by_cases hT : totalL L = 0
  · obtain ⟨m, e, h1, h2⟩ := parts_most hG hT
    obtain ⟨k, e2, h3, h4⟩ := parts_most hG2 (by rw [total_rev]; exact hT)
    rw [e, e2]
    have a := h4 m (part_perm (List.reverse_perm L).symm h1)
    have b := h2 k (part_perm (List.reverse_perm L) h3)
    omega
  · rw [parts_none hG hT, parts_none hG2 (by rw [total_rev]; exact hT)]
theorem zeroB_neg (L : List Int) : zeroB (negL L) = zeroB L := funext fun s => by
  unfold zeroB
  rw [show sumN (negL L) s = -sumN L s from sum_neg L s]
  exact decide_eq_decide.2 (by omega)
theorem mostTo_neg (L : List Int) : ∀ i, mostTo (negL L) i = mostTo L i
  | 0 => rfl
  | i + 1 => by rw [mostTo, mostTo, mostTo_neg L i, zeroB_neg, negL_len]
theorem parts_neg {L : List Int} (hG : givenE L = 0) : partsX (negL L) = partsX L ∧ partsE (negL L) = partsE L := by
  have hE : partsE (negL L) = partsE L := by
    rw [partsE_iff hG, partsE_iff (given_neg hG), total_neg]
    by_cases h : totalL L = 0
    · rw [if_pos h, if_pos (by omega)]
    · rw [if_neg h, if_neg (by omega)]
  have hM : mostL (negL L) = mostL L := funext fun s => by unfold mostL; rw [mostTo_neg, negL_len]
  refine ⟨?_, hE⟩
  unfold partsX partsS
  rw [hE, hM, zeroB_neg, negL_len]
theorem parts_more {L : List Int} {x : Int} (hG : givenE L = 0) (hG2 : givenE (L ++ [x, -x]) = 0) (hT : totalL L = 0) : (partsX L).length + 1 ≤ (partsX (L ++ [x, -x])).length ∧ partsE (L ++ [x, -x]) = 0 := by
  have hT2 : totalL (L ++ [x, -x]) = 0 := by
    rw [show L ++ [x, -x] = (L ++ [x]) ++ [-x] by simp, total_end, total_end, hT]
    omega
  obtain ⟨m, e, h1, _⟩ := parts_most hG hT
  obtain ⟨k, e2, _, h4⟩ := parts_most hG2 hT2
  have := h4 _ (part_more x h1)
  exact ⟨by omega, by rw [partsE_iff hG2, if_pos hT2]⟩
/-- The negated elements up to i. -/
def negTo (L : List Int) (i : Nat) : List Int := (List.range L.length).map fun j => if j < i then -ig L j else ig L j
theorem negTo_len (L : List Int) (i : Nat) : (negTo L i).length = L.length := by simp [negTo]
theorem negTo_at (L : List Int) (i j : Nat) (hj : j < L.length) : ig (negTo L i) j = if j < i then -ig L j else ig L j := by
  show ((negTo L i)[j]?).getD 0 = _
  unfold negTo
  rw [List.getElem?_map, List.getElem?_range hj]
  rfl
theorem negTo_zero (L : List Int) : negTo L 0 = L := ig_ext _ _ (negTo_len L 0) fun j hj => by
  rw [negTo_len] at hj
  rw [negTo_at L 0 j hj, if_neg (by omega)]
theorem negTo_all (L : List Int) : negTo L L.length = negL L := ig_ext _ _ (by rw [negTo_len, negL_len]) fun j hj => by
  rw [negTo_len] at hj
  rw [negTo_at L _ j hj, if_pos hj]
  unfold ig negL
  rw [List.getElem?_map, List.getElem?_eq_getElem hj]
  rfl
theorem negTo_set (L : List Int) (i : Nat) : (negTo L i).set i (-ig L i) = negTo L (i + 1) := by
  refine ig_ext _ _ (by rw [List.length_set, negTo_len, negTo_len]) fun j hj => ?_
  rw [List.length_set, negTo_len] at hj
  rw [negTo_at L (i + 1) j hj]
  show (((negTo L i).set i (-ig L i))[j]?).getD 0 = _
  rw [List.getElem?_set]
  by_cases e : i = j
  · subst e
    rw [if_pos rfl, if_pos (by rw [negTo_len]; exact hj), if_pos (by omega)]
    rfl
  · rw [if_neg e]
    have h := negTo_at L i j hj
    show ((negTo L i)[j]?).getD 0 = _
    have h2 : ((negTo L i)[j]?).getD 0 = ig (negTo L i) j := rfl
    rw [h2, h]
    by_cases h3 : j < i
    · rw [if_pos h3, if_pos (by omega)]
    · rw [if_neg h3, if_neg (by omega)]
end Go.Proofs.YtfiefmhnonddhaaDoor
