/-
  PLAIN WORDS: the area of the steps of uses is the work of all uses.
-/
import Derived.Test.YtlnodjcmdnmnlaaLaterP
namespace Go.Proofs.Ytlnodjcmdnmnlaa
open Go.RowKit Go.Shelf

theorem areaTo_old (L : List (Int × Int)) (x : Int × Int) : ∀ k, k ≤ L.length → areaTo (L ++ [x]) k = areaTo L k := by
  intro k
  induction k with
  | zero => intro _; rfl
  | succ k ih =>
    intro hk
    simp only [areaTo]
    rw [og_old L x k (by omega), og_old L x (k - 1) (by omega), ih (by omega)]
/-- The area up to a time behind the last step. -/
def areaAt (O : List (Int × Int)) (T : Int) : Int := areaTo O O.length + (og O (O.length - 1)).2 * (T - (og O (O.length - 1)).1)
theorem areaAt_snoc (O : List (Int × Int)) (s n : Int) (h : 0 < O.length) : areaAt (O ++ [(s, n)]) s = areaAt O s := by
  unfold areaAt
  have e : (O ++ [(s, n)]).length = O.length + 1 := by simp
  rw [e]
  show areaTo (O ++ [(s, n)]) (O.length + 1) + (og (O ++ [(s, n)]) O.length).2 * (s - (og (O ++ [(s, n)]) O.length).1) = _
  rw [og_new]
  show areaTo (O ++ [(s, n)]) O.length + (if O.length = 0 then 0 else (og (O ++ [(s, n)]) (O.length - 1)).2 * ((og (O ++ [(s, n)]) O.length).1 - (og (O ++ [(s, n)]) (O.length - 1)).1)) + n * (s - s) = _
  rw [if_neg (by omega), og_new, og_old O _ (O.length - 1) (by omega), areaTo_old _ _ _ (Nat.le_refl _), Int.sub_self, Int.mul_zero, Int.add_zero]
theorem areaAt_move (O : List (Int × Int)) (s T : Int) : areaAt O T = areaAt O s + (og O (O.length - 1)).2 * (T - s) := by
  unfold areaAt
  rw [Int.add_assoc, ← Int.mul_add]
  congr 2
  omega
def overT (r : Int × Int × Int) (t : Int) : Int := if t ≤ r.1 then 0 else if t < r.2.1 then t - r.1 else r.2.1 - r.1
def gTo (U : UseL) (t : Int) : Nat → Int
  | 0 => 0
  | k + 1 => gTo U t k + (ug U k).2.2 * overT (ug U k) t
theorem gTo_move {U : UseL} (h : UseOK U) (s T : Int) (hsT : s ≤ T) (hin : ∀ j, j < U.length → ((ug U j).1 ≤ s ∨ T ≤ (ug U j).1) ∧ ((ug U j).2.1 ≤ s ∨ T ≤ (ug U j).2.1)) : ∀ k, k ≤ U.length → gTo U T k = gTo U s k + sumTo U s k * (T - s) := by
  intro k
  induction k with
  | zero => intro _; simp [gTo, sumTo]
  | succ k ih =>
    intro hk
    simp only [gTo, sumTo]
    rw [ih (by omega)]
    have a := h k (by omega)
    have b := hin k (by omega)
    by_cases p : (ug U k).1 ≤ s ∧ s < (ug U k).2.1
    · rw [if_pos p]
      have e : overT (ug U k) T = overT (ug U k) s + (T - s) := by
        unfold overT
        split <;> split <;> (try split) <;> (try split) <;> omega
      rw [e, Int.mul_add, Int.add_mul]
      omega
    · rw [if_neg p]
      have e : overT (ug U k) T = overT (ug U k) s := by
        unfold overT
        split <;> split <;> (try split) <;> (try split) <;> omega
      rw [e, Int.add_zero]
      omega
theorem gTo_zero {U : UseL} (h : UseOK U) : ∀ k, k ≤ U.length → gTo U 0 k = 0 := by
  intro k
  induction k with
  | zero => intro _; rfl
  | succ k ih =>
    intro hk
    simp only [gTo]
    have := h k (by omega)
    rw [ih (by omega)]
    unfold overT
    rw [if_pos this.1, Int.mul_zero]
    rfl
theorem area_inv {U : UseL} (h : UseOK U) : ∀ k, k < (timesP U).length → areaAt (stepsK U (k + 1)) (ig (timesP U) k) = gTo U (ig (timesP U) k) U.length := by
  intro k
  induction k with
  | zero =>
    intro hk
    rw [times_zero h, gTo_zero h _ (Nat.le_refl _), stepsK_succ U 0 hk]
    have e0 : stepsK U 0 = [] := rfl
    rw [e0, times_zero h]
    have e1 : addS U [] 0 = [] ++ [(0, sumAt U 0)] := by unfold addS; rw [if_pos (.inl rfl)]
    rw [e1]
    show areaTo _ 1 + (og ([] ++ [(0, sumAt U 0)]) ([] : List (Int × Int)).length).2 * (0 - (og ([] ++ [(0, sumAt U 0)]) ([] : List (Int × Int)).length).1) = 0
    rw [og_new]
    show 0 + 0 + sumAt U 0 * (0 - 0) = 0
    simp
  | succ k ih =>
    intro hk
    have I := steps_inv U (k + 1) (by omega) (by omega)
    have hlt := ig_lt (times_lt U) (show k < k + 1 by omega) hk
    have e : areaAt (stepsK U (k + 1 + 1)) (ig (timesP U) (k + 1)) = areaAt (stepsK U (k + 1)) (ig (timesP U) (k + 1)) := by
      rw [stepsK_succ U (k + 1) hk]
      unfold addS
      split
      · exact areaAt_snoc _ _ _ I.pos
      · rfl
    rw [e, areaAt_move _ (ig (timesP U) k), ih (by omega), I.last, Nat.add_sub_cancel]
    refine (gTo_move h _ _ (Int.le_of_lt hlt) (fun j hj => ?_) _ (Nat.le_refl _)).symm
    have key : ∀ x, x ∈ timesP U → x ≤ ig (timesP U) k ∨ ig (timesP U) (k + 1) ≤ x := by
      intro x hx
      obtain ⟨m, hm, rfl⟩ := mem_ig.1 hx
      rcases Nat.lt_trichotomy m k with l | l | l
      · exact .inl (Int.le_of_lt (ig_lt (times_lt U) l (by omega)))
      · subst l; exact .inl (Int.le_refl _)
      · rcases Nat.lt_or_ge (k + 1) m with p | p
        · exact .inr (Int.le_of_lt (ig_lt (times_lt U) p hm))
        · obtain rfl : m = k + 1 := by omega
          exact .inr (Int.le_refl _)
    exact ⟨key _ ((times_mem U _).2 (.inr ⟨j, hj, (h j hj).2, .inl rfl⟩)), key _ ((times_mem U _).2 (.inr ⟨j, hj, (h j hj).2, .inr rfl⟩))⟩
/-- The work of the first k uses. -/
def useWork (U : UseL) : Nat → Int
  | 0 => 0
  | k + 1 => useWork U k + (ug U k).2.2 * ((ug U k).2.1 - (ug U k).1)
theorem gTo_all {U : UseL} (h : UseOK U) (T : Int) (hT : ∀ j, j < U.length → (ug U j).2.1 ≤ T) : ∀ k, k ≤ U.length → gTo U T k = useWork U k := by
  intro k
  induction k with
  | zero => intro _; rfl
  | succ k ih =>
    intro hk
    simp only [gTo, useWork]
    rw [ih (by omega)]
    have a := h k (by omega)
    have b := hT k (by omega)
    unfold overT
    rw [if_neg (by omega), if_neg (by omega)]
theorem area_steps {U : UseL} (h : UseOK U) : areaTo (stepsP U) (stepsP U).length = useWork U U.length := by
  have hp := times_pos U
  have e := area_inv h ((timesP U).length - 1) (by omega)
  rw [Nat.sub_add_cancel hp, stepsK_all, areaAt, steps_last h, Int.zero_mul, Int.add_zero] at e
  rw [e]
  refine gTo_all h _ (fun j hj => ?_) _ (Nat.le_refl _)
  obtain ⟨m, hm, e⟩ := mem_ig.1 ((times_mem U _).2 (.inr ⟨j, hj, (h j hj).2, .inr rfl⟩))
  rw [← e]
  rcases Nat.lt_or_ge m ((timesP U).length - 1) with l | l
  · exact Int.le_of_lt (ig_lt (times_lt U) l (by omega))
  · obtain rfl : m = (timesP U).length - 1 := by omega
    exact Int.le_refl _
theorem uses_work (f : TaskR → Int) (L : List TaskR) (S : List Int) : ∀ k, k ≤ L.length → useWork (usesTo f L S L.length) k = workTo f L k := by
  intro k
  induction k with
  | zero => intro _; rfl
  | succ k ih =>
    intro hk
    simp only [useWork, workTo]
    rw [ih (by omega), usesTo_at _ _ _ _ _ (by omega)]
    show _ + f (tg L k) * (ig S k + (tg L k).length - ig S k) = _
    rw [show ig S k + (tg L k).length - ig S k = (tg L k).length by omega]
end Go.Proofs.Ytlnodjcmdnmnlaa
