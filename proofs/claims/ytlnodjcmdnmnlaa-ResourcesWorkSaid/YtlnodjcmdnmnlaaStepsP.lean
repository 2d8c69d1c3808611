/-
  PLAIN: the times of uses, their sums, the short steps.
-/
import Derived.Test.YtlnodjcmdnmnlaaApp
import Derived.Lib.SlicesCompact
namespace Go.Proofs.Ytlnodjcmdnmnlaa
open Go.Lib

/-! ### Compact of a sorted list -/
theorem arr_ig (zs : List Int) (m : Nat) (h : m < zs.length) : zs.toArray[m]! = ig zs m := by
  rw [ig_eq zs m h, getElem!_pos _ m (by simpa using h)]
  simp
theorem ig_le {zs : List Int} (h : zs.Pairwise (· ≤ ·)) {i j : Nat} (hij : i ≤ j) (hj : j < zs.length) : ig zs i ≤ ig zs j := by
  rcases Nat.eq_or_lt_of_le hij with e | l
  · rw [e]; exact Int.le_refl _
  · rw [ig_eq zs i (by omega), ig_eq zs j hj]
    exact List.pairwise_iff_getElem.1 h i j (by omega) hj l
theorem compact_upto {zs : List Int} (h : zs.Pairwise (· ≤ ·)) : ∀ m, m ≤ zs.length → (compactUpTo zs.toArray m).Pairwise (· < ·) ∧ ∀ x, x ∈ compactUpTo zs.toArray m ↔ ∃ j, j < m ∧ ig zs j = x := by
  intro m
  induction m with
  | zero => intro _; refine ⟨by simp [compactUpTo], fun x => by simp [compactUpTo]⟩
  | succ m ih =>
    intro hm
    obtain ⟨h1, h2⟩ := ih (by omega)
    rw [compactUpTo_succ]
    by_cases hk : keeps zs.toArray m = true
    · rw [if_pos hk, arr_ig zs m (by omega)]
      have hlt : ∀ x ∈ compactUpTo zs.toArray m, x < ig zs m := fun x hx => by
        obtain ⟨j, hj, rfl⟩ := (h2 x).1 hx
        have h3 := ig_le h (show m - 1 ≤ m by omega) (by omega)
        have h4 := ig_le h (show j ≤ m - 1 by omega) (by omega)
        unfold keeps at hk
        have h5 := of_decide_eq_true hk
        rcases h5 with e | e
        · omega
        · rw [arr_ig zs m (by omega), arr_ig zs (m - 1) (by omega)] at e
          omega
      refine ⟨?_, fun x => ?_⟩
      · rw [List.pairwise_append]
        exact ⟨h1, List.pairwise_singleton _ _, fun a ha b hb => by rw [List.mem_singleton.1 hb]; exact hlt a ha⟩
      · rw [List.mem_append, h2]
        constructor
        · rintro (⟨j, hj, e⟩ | hx)
          · exact ⟨j, by omega, e⟩
          · exact ⟨m, by omega, (List.mem_singleton.1 hx).symm⟩
        · rintro ⟨j, hj, e⟩
          rcases Nat.lt_or_ge j m with l | l
          · exact .inl ⟨j, l, e⟩
          · obtain rfl : j = m := by omega
            exact .inr (by rw [e]; exact List.mem_singleton_self _)
    · rw [if_neg hk, List.append_nil]
      refine ⟨h1, fun x => ?_⟩
      rw [h2]
      constructor
      · rintro ⟨j, hj, e⟩; exact ⟨j, by omega, e⟩
      · rintro ⟨j, hj, e⟩
        rcases Nat.lt_or_ge j m with l | l
        · exact ⟨j, l, e⟩
        · obtain rfl : j = m := by omega
          have hk' : keeps zs.toArray j = false := by simpa using hk
          unfold keeps at hk'
          have h5 := of_decide_eq_false hk'
          have hj0 : j ≠ 0 := fun e => h5 (.inl e)
          refine ⟨j - 1, by omega, ?_⟩
          have h6 : zs.toArray[j]! = zs.toArray[j - 1]! := Classical.byContradiction fun e => h5 (.inr e)
          rw [arr_ig zs j (by omega), arr_ig zs (j - 1) (by omega)] at h6
          rw [← h6, e]
/-- The sort. -/
def sortI (l : List Int) : List Int := l.mergeSort fun x y => decide (x ≤ y)
theorem sortI_sorted (l : List Int) : (sortI l).Pairwise (· ≤ ·) := by
  have := List.pairwise_mergeSort (le := fun x y : Int => decide (x ≤ y)) (fun a b c h1 h2 => by simp at *; omega) (fun a b => by simp; omega) l
  exact this.imp fun h => by simpa using h
theorem sortI_len (l : List Int) : (sortI l).length = l.length := List.length_mergeSort _
theorem sortI_mem (l : List Int) (x : Int) : x ∈ sortI l ↔ x ∈ l := List.mem_mergeSort
theorem mem_ig {l : List Int} {x : Int} : x ∈ l ↔ ∃ j, j < l.length ∧ ig l j = x := by
  constructor
  · intro h
    obtain ⟨j, hj, e⟩ := List.getElem_of_mem h
    exact ⟨j, hj, by rw [ig_eq l j hj]; exact e⟩
  · rintro ⟨j, hj, e⟩
    rw [← e, ig_eq l j hj]
    exact List.getElem_mem hj
theorem compact_sort (l : List Int) : (compact (sortI l)).Pairwise (· < ·) ∧ ∀ x, x ∈ compact (sortI l) ↔ x ∈ l := by
  obtain ⟨h1, h2⟩ := compact_upto (sortI_sorted l) (sortI l).length (Nat.le_refl _)
  exact ⟨h1, fun x => (h2 x).trans (mem_ig.symm.trans (sortI_mem l x))⟩

/-! ### Uses: their ends, their sums -/
abbrev UseL := List (Int × Int × Int)
def endsTo (U : UseL) : Nat → List Int
  | 0 => [0]
  | k + 1 => if (ug U k).1 < (ug U k).2.1 then endsTo U k ++ [(ug U k).1, (ug U k).2.1] else endsTo U k
theorem endsTo_len (U : UseL) (k : Nat) : (endsTo U k).length ≤ 2 * k + 1 ∧ 0 < (endsTo U k).length := by
  induction k with
  | zero => exact ⟨Nat.le_refl _, Nat.succ_pos _⟩
  | succ k ih =>
    simp only [endsTo]
    split
    · rw [List.length_append]; simp; omega
    · omega
theorem endsTo_mem (U : UseL) (x : Int) : ∀ k, x ∈ endsTo U k ↔ x = 0 ∨ ∃ j, j < k ∧ (ug U j).1 < (ug U j).2.1 ∧ (x = (ug U j).1 ∨ x = (ug U j).2.1) := by
  intro k
  induction k with
  | zero => simp [endsTo]
  | succ k ih =>
    simp only [endsTo]
    constructor
    · intro h
      by_cases hc : (ug U k).1 < (ug U k).2.1
      · rw [if_pos hc] at h
        rcases List.mem_append.1 h with h | h
        · rcases ih.1 h with e | ⟨j, hj, a, b⟩
          · exact .inl e
          · exact .inr ⟨j, by omega, a, b⟩
        · exact .inr ⟨k, by omega, hc, by simpa using h⟩
      · rw [if_neg hc] at h
        rcases ih.1 h with e | ⟨j, hj, a, b⟩
        · exact .inl e
        · exact .inr ⟨j, by omega, a, b⟩
    · intro h
      have hold : x ∈ endsTo U k → x ∈ (if (ug U k).1 < (ug U k).2.1 then endsTo U k ++ [(ug U k).1, (ug U k).2.1] else endsTo U k) := fun h => by
        split
        · exact List.mem_append_left _ h
        · exact h
      rcases h with e | ⟨j, hj, a, b⟩
      · exact hold (ih.2 (.inl e))
      · rcases Nat.lt_or_ge j k with l | l
        · exact hold (ih.2 (.inr ⟨j, l, a, b⟩))
        · obtain rfl : j = k := by omega
          rw [if_pos a]
          exact List.mem_append_right _ (by simpa using b)
def timesP (U : UseL) : List Int := compact (sortI (endsTo U U.length))
theorem times_lt (U : UseL) : (timesP U).Pairwise (· < ·) := (compact_sort _).1
theorem times_mem (U : UseL) (x : Int) : x ∈ timesP U ↔ x = 0 ∨ ∃ j, j < U.length ∧ (ug U j).1 < (ug U j).2.1 ∧ (x = (ug U j).1 ∨ x = (ug U j).2.1) :=
  ((compact_sort _).2 x).trans (endsTo_mem U x U.length)
def sumTo (U : UseL) (t : Int) : Nat → Int
  | 0 => 0
  | k + 1 => sumTo U t k + if (ug U k).1 ≤ t ∧ t < (ug U k).2.1 then (ug U k).2.2 else 0
def sumAt (U : UseL) (t : Int) : Int := sumTo U t U.length

/-! ### The steps -/
def addS (U : UseL) (out : List (Int × Int)) (t : Int) : List (Int × Int) := if out.length = 0 ∨ (og out (out.length - 1)).2 ≠ sumAt U t then out ++ [(t, sumAt U t)] else out
def stepsK (U : UseL) (k : Nat) : List (Int × Int) := ((timesP U).take k).foldl (addS U) []
def stepsP (U : UseL) : List (Int × Int) := (timesP U).foldl (addS U) []
theorem stepsK_succ (U : UseL) (k : Nat) (h : k < (timesP U).length) : stepsK U (k + 1) = addS U (stepsK U k) (ig (timesP U) k) := by
  unfold stepsK
  rw [List.take_add_one, ig_get h, List.foldl_append]
  rfl
theorem stepsK_all (U : UseL) : stepsK U (timesP U).length = stepsP U := by unfold stepsK stepsP; rw [List.take_length]
theorem addS_len (U : UseL) (out : List (Int × Int)) (t : Int) : (addS U out t).length ≤ out.length + 1 := by
  unfold addS; split
  · rw [List.length_append]; simp
  · omega
theorem stepsK_len (U : UseL) (k : Nat) (h : k ≤ (timesP U).length) : (stepsK U k).length ≤ k := by
  induction k with
  | zero => exact Nat.le_refl _
  | succ k ih => rw [stepsK_succ U k (by omega)]; have := addS_len U (stepsK U k) (ig (timesP U) k); have := ih (by omega); omega
theorem times_len (U : UseL) : (timesP U).length ≤ 2 * U.length + 1 := by
  have h : (timesP U).length ≤ (sortI (endsTo U U.length)).length := by
    unfold timesP compact compactUpTo
    rw [List.length_map]
    exact Nat.le_trans (List.length_filter_le _ _) (by simp)
  rw [sortI_len] at h
  have := (endsTo_len U U.length).1
  omega

/-! ### The next end, as the reference finds it -/
def nextTo (U : UseL) (t : Int) : Nat → Int
  | 0 => -1
  | k + 1 =>
    let b := if (ug U k).1 > t ∧ (nextTo U t k < 0 ∨ (ug U k).1 < nextTo U t k) then (ug U k).1 else nextTo U t k
    if (ug U k).2.1 > t ∧ (b < 0 ∨ (ug U k).2.1 < b) then (ug U k).2.1 else b
def nextP (U : UseL) (t : Int) : Int := nextTo U t U.length
/-- What the least end beyond t is. -/
theorem nextTo_spec (U : UseL) (t : Int) (ht : 0 ≤ t) : ∀ k,
    (nextTo U t k = -1 ∧ ∀ j, j < k → (ug U j).1 ≤ t ∧ (ug U j).2.1 ≤ t) ∨
    (t < nextTo U t k ∧ (∃ j, j < k ∧ (nextTo U t k = (ug U j).1 ∨ nextTo U t k = (ug U j).2.1)) ∧ ∀ j, j < k → ((ug U j).1 ≤ t ∨ nextTo U t k ≤ (ug U j).1) ∧ ((ug U j).2.1 ≤ t ∨ nextTo U t k ≤ (ug U j).2.1)) := by
  intro k
  induction k with
  | zero => exact .inl ⟨rfl, fun j hj => absurd hj (Nat.not_lt_zero _)⟩
  | succ k ih =>
    -- one end more
    have one : ∀ (b e : Int) (Q : Int → Prop), ((b = -1 ∧ ∀ x, Q x → x ≤ t) ∨ (t < b ∧ Q b ∧ ∀ x, Q x → x ≤ t ∨ b ≤ x)) →
        (((if e > t ∧ (b < 0 ∨ e < b) then e else b) = -1 ∧ ∀ x, (Q x ∨ x = e) → x ≤ t) ∨ (t < (if e > t ∧ (b < 0 ∨ e < b) then e else b) ∧ (Q (if e > t ∧ (b < 0 ∨ e < b) then e else b) ∨ (if e > t ∧ (b < 0 ∨ e < b) then e else b) = e) ∧ ∀ x, (Q x ∨ x = e) → x ≤ t ∨ (if e > t ∧ (b < 0 ∨ e < b) then e else b) ≤ x)) := by
      intro b e Q h
      by_cases c : e > t ∧ (b < 0 ∨ e < b)
      · rw [if_pos c]
        refine .inr ⟨c.1, .inr rfl, fun x hx => ?_⟩
        rcases hx with hx | hx
        · rcases h with ⟨_, h⟩ | ⟨_, _, h⟩
          · exact .inl (h x hx)
          · have := h x hx; omega
        · omega
      · rw [if_neg c]
        rcases h with ⟨e1, h⟩ | ⟨h1, h2, h3⟩
        · refine .inl ⟨e1, fun x hx => ?_⟩
          rcases hx with hx | hx
          · exact h x hx
          · omega
        · refine .inr ⟨h1, .inl h2, fun x hx => ?_⟩
          rcases hx with hx | hx
          · exact h3 x hx
          · omega
    have base : (nextTo U t k = -1 ∧ ∀ x, (∃ j, j < k ∧ (x = (ug U j).1 ∨ x = (ug U j).2.1)) → x ≤ t) ∨ (t < nextTo U t k ∧ (∃ j, j < k ∧ (nextTo U t k = (ug U j).1 ∨ nextTo U t k = (ug U j).2.1)) ∧ ∀ x, (∃ j, j < k ∧ (x = (ug U j).1 ∨ x = (ug U j).2.1)) → x ≤ t ∨ nextTo U t k ≤ x) := by
      rcases ih with ⟨e, h⟩ | ⟨h1, h2, h3⟩
      · exact .inl ⟨e, fun x ⟨j, hj, hx⟩ => hx.elim (fun e => by rw [e]; exact (h j hj).1) (fun e => by rw [e]; exact (h j hj).2)⟩
      · exact .inr ⟨h1, h2, fun x ⟨j, hj, hx⟩ => hx.elim (fun e => by rw [e]; exact (h3 j hj).1) (fun e => by rw [e]; exact (h3 j hj).2)⟩
    have s1 := one _ (ug U k).1 _ base
    have s2 := one _ (ug U k).2.1 _ s1
    show (nextTo U t (k + 1) = -1 ∧ _) ∨ _
    simp only [nextTo]
    rcases s2 with ⟨e, h⟩ | ⟨h1, h2, h3⟩
    · refine .inl ⟨e, fun j hj => ?_⟩
      rcases Nat.lt_or_ge j k with l | l
      · exact ⟨h _ (.inl (.inl ⟨j, l, .inl rfl⟩)), h _ (.inl (.inl ⟨j, l, .inr rfl⟩))⟩
      · obtain rfl : j = k := by omega
        exact ⟨h _ (.inl (.inr rfl)), h _ (.inr rfl)⟩
    · refine .inr ⟨h1, ?_, fun j hj => ?_⟩
      · rcases h2 with (⟨j, hj, e⟩ | e) | e
        · exact ⟨j, by omega, e⟩
        · exact ⟨k, by omega, .inl e⟩
        · exact ⟨k, by omega, .inr e⟩
      · rcases Nat.lt_or_ge j k with l | l
        · exact ⟨h3 _ (.inl (.inl ⟨j, l, .inl rfl⟩)), h3 _ (.inl (.inl ⟨j, l, .inr rfl⟩))⟩
        · obtain rfl : j = k := by omega
          exact ⟨h3 _ (.inl (.inr rfl)), h3 _ (.inr rfl)⟩
/-- Uses that begin at 0 or later, and last. -/
def UseOK (U : UseL) : Prop := ∀ j, j < U.length → 0 ≤ (ug U j).1 ∧ (ug U j).1 < (ug U j).2.1
theorem ig_lt {zs : List Int} (h : zs.Pairwise (· < ·)) {i j : Nat} (hij : i < j) (hj : j < zs.length) : ig zs i < ig zs j := by
  rw [ig_eq zs i (by omega), ig_eq zs j hj]
  exact List.pairwise_iff_getElem.1 h i j (by omega) hj hij
theorem times_pos (U : UseL) : 0 < (timesP U).length := by
  obtain ⟨j, hj, _⟩ := mem_ig.1 ((times_mem U 0).2 (.inl rfl))
  omega
theorem times_ge {U : UseL} (h : UseOK U) (x : Int) (hx : x ∈ timesP U) : 0 ≤ x := by
  rcases (times_mem U x).1 hx with e | ⟨j, hj, _, e⟩
  · omega
  · have := h j hj; omega
theorem times_zero {U : UseL} (h : UseOK U) : ig (timesP U) 0 = 0 := by
  obtain ⟨j, hj, e⟩ := mem_ig.1 ((times_mem U 0).2 (.inl rfl))
  have h0 := times_ge h _ (mem_ig.2 ⟨0, times_pos U, rfl⟩)
  rcases Nat.eq_zero_or_pos j with e0 | e0
  · rw [← e0, e]
  · have := ig_lt (times_lt U) e0 hj; omega
/-- The next end behind a time is the next time. -/
theorem next_time {U : UseL} (h : UseOK U) (k : Nat) (hk : k < (timesP U).length) : nextP U (ig (timesP U) k) = if k + 1 < (timesP U).length then ig (timesP U) (k + 1) else -1 := by
  have ht := times_ge h _ (mem_ig.2 ⟨k, hk, rfl⟩)
  have isin : ∀ j, j < U.length → (ug U j).1 ∈ timesP U ∧ (ug U j).2.1 ∈ timesP U := fun j hj => ⟨(times_mem U _).2 (.inr ⟨j, hj, (h j hj).2, .inl rfl⟩), (times_mem U _).2 (.inr ⟨j, hj, (h j hj).2, .inr rfl⟩)⟩
  rcases nextTo_spec U _ ht U.length with ⟨e, h1⟩ | ⟨h1, ⟨j, hj, e⟩, h3⟩
  · show nextTo U _ U.length = _
    rw [e]
    split
    · next l =>
      exfalso
      have hlt := ig_lt (times_lt U) (show k < k + 1 by omega) l
      rcases (times_mem U _).1 (mem_ig.2 ⟨k + 1, l, rfl⟩) with e0 | ⟨j, hj, _, e0⟩
      · omega
      · have := h1 j hj; omega
    · rfl
  · show nextTo U _ U.length = _
    have hin : nextTo U (ig (timesP U) k) U.length ∈ timesP U := by
      rcases e with e | e
      · rw [e]; exact (isin j hj).1
      · rw [e]; exact (isin j hj).2
    obtain ⟨m, hm, em⟩ := mem_ig.1 hin
    have hkm : k < m := by
      rcases Nat.lt_or_ge k m with l | l
      · exact l
      · have := ig_le ((times_lt U).imp (fun h => Int.le_of_lt h)) l hk; omega
    rw [if_pos (by omega)]
    have hlt := ig_lt (times_lt U) (show k < k + 1 by omega) (show k + 1 < _ by omega)
    have hle := ig_le ((times_lt U).imp (fun h => Int.le_of_lt h)) (show k + 1 ≤ m from hkm) hm
    rcases (times_mem U _).1 (mem_ig.2 ⟨k + 1, by omega, rfl⟩) with e0 | ⟨j2, hj2, _, e0⟩
    · omega
    · have := h3 j2 hj2; omega
end Go.Proofs.Ytlnodjcmdnmnlaa
