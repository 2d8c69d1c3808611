/-
  PLAIN WORDS: what the steps of uses tell at a time.
-/
import Derived.Test.YtlnodjcmdnmnlaaStepsP
import Derived.Test.YtlnodjcmdnmnlaaTold
namespace Go.Proofs.Ytlnodjcmdnmnlaa
open Go.RowKit Go.Shelf

theorem toldTo_old (L : List (Int × Int)) (x : Int × Int) (t : Int) : ∀ k, k ≤ L.length → toldTo (L ++ [x]) t k = toldTo L t k := by
  intro k
  induction k with
  | zero => intro _; rfl
  | succ k ih =>
    intro hk
    simp only [toldTo]
    rw [og_old L x k (by omega), ih (by omega)]
theorem told_snoc (L : List (Int × Int)) (x : Int × Int) (t : Int) : toldP (L ++ [x]) t = if x.1 ≤ t then x.2 else toldP L t := by
  unfold toldP
  rw [List.length_append]
  show (if (og (L ++ [x]) L.length).1 ≤ t then (og (L ++ [x]) L.length).2 else toldTo (L ++ [x]) t L.length) = _
  rw [og_new, toldTo_old L x t _ (Nat.le_refl _)]
/-- What holds of the steps at the first k times. -/
structure StepsAt (U : UseL) (k : Nat) (O : List (Int × Int)) : Prop where
  pos : 0 < O.length
  first : (og O 0).1 = ig (timesP U) 0
  last : (og O (O.length - 1)).2 = sumAt U (ig (timesP U) (k - 1))
  time : ∀ i, i < O.length → ∃ j, j < k ∧ (og O i).1 = ig (timesP U) j
  sum : ∀ i, i < O.length → (og O i).2 = sumAt U (og O i).1
  up : ∀ i, 0 < i → i < O.length → (og O (i - 1)).1 < (og O i).1 ∧ (og O i).2 ≠ (og O (i - 1)).2
  tell : ∀ j t, j < k → ig (timesP U) j ≤ t → (j + 1 < k → t < ig (timesP U) (j + 1)) → toldP O t = sumAt U (ig (timesP U) j)
  all : ∀ j, j < k → ∃ i, i < O.length ∧ (og O i).2 = sumAt U (ig (timesP U) j)
theorem steps_inv (U : UseL) : ∀ k, 0 < k → k ≤ (timesP U).length → StepsAt U k (stepsK U k) := by
  intro k
  induction k with
  | zero => intro h; omega
  | succ k ih =>
    intro _ hk
    rw [stepsK_succ U k hk]
    rcases Nat.eq_zero_or_pos k with e | hp
    · subst e
      have e1 : addS U (stepsK U 0) (ig (timesP U) 0) = [] ++ [(ig (timesP U) 0, sumAt U (ig (timesP U) 0))] := by
        have e0 : stepsK U 0 = [] := rfl
        rw [e0]; unfold addS; rw [if_pos (.inl rfl)]
      rw [e1]
      have g0 : og ([] ++ [(ig (timesP U) 0, sumAt U (ig (timesP U) 0))]) 0 = (ig (timesP U) 0, sumAt U (ig (timesP U) 0)) := og_new [] _
      refine ⟨Nat.zero_lt_one, by rw [g0], by show (og _ 0).2 = _; rw [g0], ?_, ?_, ?_, ?_, ?_⟩
      · intro i hi
        obtain rfl : i = 0 := by simp at hi; omega
        exact ⟨0, Nat.zero_lt_one, by rw [g0]⟩
      · intro i hi
        obtain rfl : i = 0 := by simp at hi; omega
        rw [g0]
      · intro i h0 hi
        simp at hi; omega
      · intro j t hj h1 _
        obtain rfl : j = 0 := by omega
        rw [told_snoc, if_pos h1]
      · intro j hj
        obtain rfl : j = 0 := by omega
        exact ⟨0, Nat.zero_lt_one, by rw [g0]⟩
    · have I := ih hp (by omega)
      generalize stepsK U k = O at I
      have hlt : ∀ j, j < k → ig (timesP U) j < ig (timesP U) k := fun j hj => ig_lt (times_lt U) hj hk
      by_cases hc : (og O (O.length - 1)).2 ≠ sumAt U (ig (timesP U) k)
      · have e1 : addS U O (ig (timesP U) k) = O ++ [(ig (timesP U) k, sumAt U (ig (timesP U) k))] := by unfold addS; rw [if_pos (.inr hc)]
        rw [e1]
        generalize hx : (ig (timesP U) k, sumAt U (ig (timesP U) k)) = x
        have x1 : x.1 = ig (timesP U) k := by rw [← hx]
        have x2 : x.2 = sumAt U (ig (timesP U) k) := by rw [← hx]
        have hlen : (O ++ [x]).length = O.length + 1 := by simp
        have cs : ∀ i, i < (O ++ [x]).length → (i < O.length ∧ og (O ++ [x]) i = og O i) ∨ (i = O.length ∧ og (O ++ [x]) i = x) := by
          intro i hi
          rw [hlen] at hi
          rcases Nat.lt_or_ge i O.length with l | l
          · exact .inl ⟨l, og_old O x i l⟩
          · obtain rfl : i = O.length := by omega
            exact .inr ⟨rfl, og_new O x⟩
        have hpos := I.pos
        refine ⟨by omega, ?_, ?_, ?_, ?_, ?_, ?_, ?_⟩
        · rw [og_old O x 0 hpos]; exact I.first
        · rw [hlen]; show (og (O ++ [x]) O.length).2 = _; rw [og_new]; exact x2
        · intro i hi
          rcases cs i hi with ⟨l, e⟩ | ⟨_, e⟩
          · obtain ⟨j, hj, ej⟩ := I.time i l
            exact ⟨j, by omega, by rw [e]; exact ej⟩
          · exact ⟨k, by omega, by rw [e]; exact x1⟩
        · intro i hi
          rcases cs i hi with ⟨l, e⟩ | ⟨_, e⟩
          · rw [e]; exact I.sum i l
          · rw [e, x1]; exact x2
        · intro i h0 hi
          rcases cs i hi with ⟨l, e⟩ | ⟨l, e⟩
          · rw [e, og_old O x (i - 1) (by omega)]; exact I.up i h0 l
          · rw [e, og_old O x (i - 1) (by omega), x1, x2, l]
            obtain ⟨j, hj, ej⟩ := I.time (O.length - 1) (by omega)
            exact ⟨by rw [ej]; exact hlt j hj, fun h => hc h.symm⟩
        · intro j t hj h1 h2
          rw [told_snoc, x1, x2]
          rcases Nat.lt_or_ge j k with l | l
          · have h3 := h2 (by omega)
            have h4 : ig (timesP U) (j + 1) ≤ ig (timesP U) k := by
              rcases Nat.lt_or_ge (j + 1) k with m | m
              · exact Int.le_of_lt (hlt _ m)
              · obtain rfl : j + 1 = k := by omega
                exact Int.le_refl _
            rw [if_neg (by omega)]
            exact I.tell j t l h1 fun _ => h3
          · obtain rfl : j = k := by omega
            rw [if_pos h1]
        · intro j hj
          rcases Nat.lt_or_ge j k with l | l
          · obtain ⟨i, hi, ei⟩ := I.all j l
            exact ⟨i, by omega, by rw [og_old O x i hi]; exact ei⟩
          · obtain rfl : j = k := by omega
            exact ⟨O.length, by omega, by rw [og_new]; exact x2⟩
      · have hpos := I.pos
        have hc' : (og O (O.length - 1)).2 = sumAt U (ig (timesP U) k) := Classical.byContradiction hc
        have e1 : addS U O (ig (timesP U) k) = O := by
          unfold addS
          rw [if_neg]
          rintro (h | h)
          · omega
          · exact h hc'
        rw [e1]
        refine ⟨hpos, I.first, hc', fun i hi => ?_, I.sum, I.up, ?_, ?_⟩
        · obtain ⟨j, hj, ej⟩ := I.time i hi
          exact ⟨j, by omega, ej⟩
        · intro j t hj h1 h2
          rcases Nat.lt_or_ge j k with l | l
          · exact I.tell j t l h1 fun h => h2 (by omega)
          · obtain rfl : j = k := by omega
            have := I.tell (j - 1) t (by omega) (by have := hlt (j - 1) (by omega); omega) (fun h => by omega)
            rw [this, ← I.last]; exact hc'
        · intro j hj
          rcases Nat.lt_or_ge j k with l | l
          · exact I.all j l
          · obtain rfl : j = k := by omega
            exact ⟨O.length - 1, by omega, hc'⟩
theorem steps_all (U : UseL) : StepsAt U (timesP U).length (stepsP U) := by
  have h := steps_inv U (timesP U).length (times_pos U) (Nat.le_refl _)
  rw [stepsK_all] at h
  exact h
/-- The last time not behind t. -/
theorem time_before {U : UseL} (h : UseOK U) (t : Int) (ht : 0 ≤ t) : ∃ j, j < (timesP U).length ∧ ig (timesP U) j ≤ t ∧ (j + 1 < (timesP U).length → t < ig (timesP U) (j + 1)) := by
  have main : ∀ m, 0 < m → m ≤ (timesP U).length → ∃ j, j < m ∧ ig (timesP U) j ≤ t ∧ (j + 1 < m → t < ig (timesP U) (j + 1)) := by
    intro m
    induction m with
    | zero => intro h; omega
    | succ m ih =>
      intro _ hm
      rcases Nat.eq_zero_or_pos m with e | hp
      · subst e
        exact ⟨0, by omega, by rw [times_zero h]; exact ht, fun h => by omega⟩
      · obtain ⟨j, hj, h1, h2⟩ := ih hp (by omega)
        by_cases q : ig (timesP U) m ≤ t
        · exact ⟨m, by omega, q, fun h => by omega⟩
        · refine ⟨j, by omega, h1, fun h => ?_⟩
          rcases Nat.lt_or_ge (j + 1) m with l | l
          · exact h2 l
          · obtain rfl : j + 1 = m := by omega
            omega
  exact main _ (times_pos U) (Nat.le_refl _)
theorem sumTo_same {U : UseL} (s t : Int) (h : ∀ j, j < U.length → ((ug U j).1 ≤ s ∧ s < (ug U j).2.1 ↔ (ug U j).1 ≤ t ∧ t < (ug U j).2.1)) : ∀ k, k ≤ U.length → sumTo U s k = sumTo U t k := by
  intro k
  induction k with
  | zero => intro _; rfl
  | succ k ih =>
    intro hk
    simp only [sumTo]
    rw [ih (by omega)]
    have := h k (by omega)
    split
    · next p => rw [if_pos (this.1 p)]
    · next p => rw [if_neg fun q => p (this.2 q)]
theorem sum_at_time {U : UseL} (h : UseOK U) (j : Nat) (t : Int) (hj : j < (timesP U).length) (h1 : ig (timesP U) j ≤ t) (h2 : j + 1 < (timesP U).length → t < ig (timesP U) (j + 1)) : sumAt U (ig (timesP U) j) = sumAt U t := by
  have key : ∀ x, x ∈ timesP U → (x ≤ ig (timesP U) j ↔ x ≤ t) := by
    intro x hx
    obtain ⟨m, hm, rfl⟩ := mem_ig.1 hx
    rcases Nat.lt_trichotomy m j with l | l | l
    · have := ig_lt (times_lt U) l hj
      constructor <;> intro _ <;> omega
    · subst l; constructor <;> intro _ <;> omega
    · have a := ig_lt (times_lt U) l hm
      have b := h2 (by omega)
      have c : ig (timesP U) (j + 1) ≤ ig (timesP U) m := by
        rcases Nat.lt_or_ge (j + 1) m with p | p
        · exact Int.le_of_lt (ig_lt (times_lt U) p hm)
        · obtain rfl : j + 1 = m := by omega
          exact Int.le_refl _
      constructor <;> intro _ <;> omega
  refine sumTo_same _ _ (fun i hi => ?_) _ (Nat.le_refl _)
  have a := key _ ((times_mem U _).2 (.inr ⟨i, hi, (h i hi).2, .inl rfl⟩))
  have b := key _ ((times_mem U _).2 (.inr ⟨i, hi, (h i hi).2, .inr rfl⟩))
  constructor
  · rintro ⟨p, q⟩; exact ⟨a.1 p, by have := mt b.2; omega⟩
  · rintro ⟨p, q⟩; exact ⟨a.2 p, by have := mt b.1; omega⟩
/-- At any time the steps tell the sum of the uses that hold. -/
theorem told_steps {U : UseL} (h : UseOK U) (t : Int) (ht : 0 ≤ t) : toldP (stepsP U) t = sumAt U t := by
  obtain ⟨j, hj, h1, h2⟩ := time_before h t ht
  rw [(steps_all U).tell j t hj h1 h2]
  exact sum_at_time h j t hj h1 h2
theorem sumTo_none {U : UseL} (t : Int) (h : ∀ j, j < U.length → ¬ ((ug U j).1 ≤ t ∧ t < (ug U j).2.1)) : ∀ k, k ≤ U.length → sumTo U t k = 0 := by
  intro k
  induction k with
  | zero => intro _; rfl
  | succ k ih =>
    intro hk
    simp only [sumTo]
    rw [ih (by omega), if_neg (h k (by omega))]
    rfl
theorem sumTo_w {U : UseL} (t : Int) (h : ∀ j, j < U.length → 0 ≤ (ug U j).2.2 ∧ (ug U j).2.2 ≤ 100) : ∀ k, k ≤ U.length → 0 ≤ sumTo U t k ∧ sumTo U t k ≤ 100 * (k : Int) := by
  intro k
  induction k with
  | zero => intro _; exact ⟨Int.le_refl _, Int.le_refl _⟩
  | succ k ih =>
    intro hk
    simp only [sumTo]
    have := ih (by omega)
    have := h k (by omega)
    split <;> omega
/-- The steps are steps. -/
theorem steps_valid {U : UseL} (h : UseOK U) (hl : U.length ≤ 1000) (hb : ∀ j, j < U.length → (ug U j).2.1 ≤ 1099511627776 ∧ 0 ≤ (ug U j).2.2 ∧ (ug U j).2.2 ≤ 100) : validB (stepsP U) = true := by
  have I := steps_all U
  have hn := stepsK_len U (timesP U).length (Nat.le_refl _)
  rw [stepsK_all] at hn
  have ht := times_len U
  refine valid_of I.pos (by omega) (I.first.trans (times_zero h)) fun k hk => ⟨?_, fun h0 => (I.up k h0 hk).1, ?_⟩
  · obtain ⟨j, hj, e⟩ := I.time k hk
    rw [e]
    rcases (times_mem U _).1 (mem_ig.2 ⟨j, hj, rfl⟩) with e | ⟨i, hi, _, e⟩
    · omega
    · have := h i hi; have := hb i hi; omega
  · rw [I.sum k hk]
    have := sumTo_w (og (stepsP U) k).1 (fun j hj => (hb j hj).2) U.length (Nat.le_refl _)
    unfold sumAt
    omega
/-- The last time is behind all uses: there nothing is needed. -/
theorem steps_last {U : UseL} (h : UseOK U) : (og (stepsP U) ((stepsP U).length - 1)).2 = 0 := by
  have I := steps_all U
  rw [I.last]
  refine sumTo_none _ (fun j hj => ?_) _ (Nat.le_refl _)
  rintro ⟨_, q⟩
  obtain ⟨m, hm, e⟩ := mem_ig.1 ((times_mem U _).2 (.inr ⟨j, hj, (h j hj).2, .inr rfl⟩))
  rw [← e] at q
  rcases Nat.lt_or_ge m ((timesP U).length - 1) with l | l
  · have := ig_lt (times_lt U) l (by omega); omega
  · obtain rfl : m = (timesP U).length - 1 := by omega
    omega
end Go.Proofs.Ytlnodjcmdnmnlaa
