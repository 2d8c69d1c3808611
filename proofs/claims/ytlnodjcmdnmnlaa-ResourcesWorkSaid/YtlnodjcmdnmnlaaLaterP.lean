/-
  PLAIN WORDS: uses that are all later by the same time have the same steps, later.
-/
import Derived.Test.YtlnodjcmdnmnlaaStepsT
import Derived.Test.YtlnodjcmdnmnlaaLawWithin
import Derived.Test.YtlnodjcmdnmnlaaRefProf
namespace Go.Proofs.Ytlnodjcmdnmnlaa
open Go.RowKit Go.Shelf

theorem ig_set (s : List Int) (i j : Nat) (x : Int) (hi : i < s.length) : ig (s.set i x) j = if i = j then x else ig s j := by
  unfold ig
  rw [List.getElem?_set]
  by_cases h : i = j
  · rw [if_pos h, if_pos h]
    subst h
    rw [if_pos hi]; rfl
  · rw [if_neg h, if_neg h]
theorem nflat_set (s : List Int) (i : Nat) (x : Int) : (nflat s).set i (.int .i64 x) = nflat (s.set i x) := by
  have e : ∀ l : List Int, nflat l = l.map (Value.int .i64) := fun l => by
    induction l with
    | nil => rfl
    | cons x r ih => rw [List.map_cons, ← ih]; rfl
  rw [e, e, List.map_set]
def allBy (b : Int) (G : List Int) : List Int := G.map (· + b)
theorem allBy_len (b : Int) (G : List Int) : (allBy b G).length = G.length := by simp [allBy]
theorem allBy_at (b : Int) (G : List Int) (i : Nat) (h : i < G.length) : ig (allBy b G) i = ig G i + b := by
  unfold ig allBy
  rw [List.getElem?_map, List.getElem?_eq_getElem h]
  rfl
def partBy (b : Int) (G : List Int) (j : Nat) : List Int := (List.range G.length).map fun x => if x < j then ig G x + b else ig G x
theorem partBy_len (b : Int) (G : List Int) (j : Nat) : (partBy b G j).length = G.length := by simp [partBy]
theorem partBy_at (b : Int) (G : List Int) (j x : Nat) (h : x < G.length) : ig (partBy b G j) x = if x < j then ig G x + b else ig G x := by
  unfold ig partBy
  rw [List.getElem?_map, List.getElem?_range h]
  rfl
theorem partBy_zero (b : Int) (G : List Int) : partBy b G 0 = G := ig_ext _ _ (partBy_len _ _ _) fun j hj => by
  rw [partBy_len] at hj
  rw [partBy_at _ _ _ _ hj, if_neg (Nat.not_lt_zero _)]
theorem partBy_all (b : Int) (G : List Int) : partBy b G G.length = allBy b G := ig_ext _ _ (by rw [partBy_len, allBy_len]) fun j hj => by
  rw [partBy_len] at hj
  rw [partBy_at _ _ _ _ hj, if_pos hj, allBy_at _ _ _ hj]
theorem partBy_set (b : Int) (G : List Int) (k : Nat) (hk : k < G.length) : partBy b G (k + 1) = (partBy b G k).set k (ig G k + b) := by
  refine ig_ext _ _ (by simp [partBy]) fun j hj => ?_
  rw [partBy_len] at hj
  rw [ig_set _ _ _ _ (by rw [partBy_len]; exact hk), partBy_at _ _ _ _ hj, partBy_at _ _ _ _ hj]
  by_cases h : k = j
  · subst h; rw [if_pos (by omega), if_pos rfl]
  · rw [if_neg h]
    by_cases l : j < k
    · rw [if_pos l, if_pos (by omega)]
    · rw [if_neg l, if_neg (by omega)]
/-! ### Later uses -/
def LaterBy (b : Int) (U U' : UseL) : Prop := U'.length = U.length ∧ ∀ j, j < U.length → ug U' j = ((ug U j).1 + b, (ug U j).2.1 + b, (ug U j).2.2)
theorem sumTo_later {b : Int} {U U' : UseL} (h : LaterBy b U U') (t : Int) : ∀ k, k ≤ U.length → sumTo U' (t + b) k = sumTo U t k := by
  intro k
  induction k with
  | zero => intro _; rfl
  | succ k ih =>
    intro hk
    simp only [sumTo]
    rw [ih (by omega), h.2 k hk]
    congr 1
    by_cases p : (ug U k).1 ≤ t ∧ t < (ug U k).2.1
    · rw [if_pos p, if_pos (by constructor <;> (simp only; omega))]
    · rw [if_neg p, if_neg (by simp only; omega)]
theorem sum_later {b : Int} {U U' : UseL} (h : LaterBy b U U') (t : Int) : sumAt U' (t + b) = sumAt U t := by
  unfold sumAt
  rw [h.1]
  exact sumTo_later h t _ (Nat.le_refl _)
theorem later_uses (f : TaskR → Int) (L : List TaskR) (S : List Int) (b : Int) (hn : S.length = L.length) : LaterBy b (usesTo f L S L.length) (usesTo f L (allBy b S) L.length) := by
  refine ⟨by rw [usesTo_len, usesTo_len], fun j hj => ?_⟩
  rw [usesTo_len] at hj
  rw [usesTo_at _ _ _ _ _ hj, usesTo_at _ _ _ _ _ hj, allBy_at _ _ _ (by omega)]
  show (_, _, _) = (_, _, _)
  congr 2
  simp only; omega
theorem weight_in {U : UseL} (h : UseOK U) (t : Int) (ht : 0 ≤ t) : ∃ i, i < (stepsP U).length ∧ (og (stepsP U) i).2 = sumAt U t := by
  obtain ⟨j, hj, h1, h2⟩ := time_before h t ht
  obtain ⟨i, hi, e⟩ := (steps_all U).all j hj
  exact ⟨i, hi, e.trans (sum_at_time h j t hj h1 h2)⟩
theorem told_later {b : Int} {U U' : UseL} (hb : 0 ≤ b) (h : UseOK U) (h' : UseOK U') (hL : LaterBy b U U') (t : Int) (ht : 0 ≤ t) : toldP (stepsP U') (t + b) = toldP (stepsP U) t := by
  rw [told_steps h t ht, told_steps h' _ (by omega), sum_later hL]
theorem told_ahead {b : Int} {U U' : UseL} (hb : 0 < b) (h : UseOK U) (h' : UseOK U') (hL : LaterBy b U U') : toldP (stepsP U') (b - 1) = 0 := by
  rw [told_steps h' _ (by omega)]
  refine sumTo_none _ (fun j hj => ?_) _ (Nat.le_refl _)
  rw [hL.1] at hj
  rw [hL.2 j hj]
  have := h j hj
  simp only; omega
theorem step_time {U : UseL} (h : UseOK U) (i : Nat) (hi : i < (stepsP U).length) : 0 ≤ (og (stepsP U) i).1 := by
  obtain ⟨j, hj, e⟩ := (steps_all U).time i hi
  rw [e]
  exact times_ge h _ (mem_ig.2 ⟨j, hj, rfl⟩)
theorem peak_later {b : Int} {U U' : UseL} (hb : 0 ≤ b) (h : UseOK U) (h' : UseOK U') (hL : LaterBy b U U') (hv : validB (stepsP U) = true) (hv' : validB (stepsP U') = true) : (peakP (stepsP U')).1 = (peakP (stepsP U)).1 := by
  have I := steps_all U
  have I' := steps_all U'
  obtain ⟨p1, p2, _⟩ := peakI_max (L := stepsP U) _ I.pos (Nat.le_refl _)
  obtain ⟨q1, q2, _⟩ := peakI_max (L := stepsP U') _ I'.pos (Nat.le_refl _)
  unfold peakP
  rw [hv, hv', if_pos rfl, if_pos rfl]
  show (og (stepsP U') _).2 = (og (stepsP U) _).2
  have a : (og (stepsP U) (peakI (stepsP U) (stepsP U).length)).2 ≤ (og (stepsP U') (peakI (stepsP U') (stepsP U').length)).2 := by
    have ht := step_time h _ p1
    obtain ⟨i, hi, e⟩ := weight_in h' ((og (stepsP U) (peakI (stepsP U) (stepsP U).length)).1 + b) (by omega)
    rw [sum_later hL, ← I.sum _ p1] at e
    rw [← e]
    exact q2 i hi
  have c : (og (stepsP U') (peakI (stepsP U') (stepsP U').length)).2 ≤ (og (stepsP U) (peakI (stepsP U) (stepsP U).length)).2 := by
    by_cases hc : (og (stepsP U') (peakI (stepsP U') (stepsP U').length)).1 < b
    · have hz : (og (stepsP U') (peakI (stepsP U') (stepsP U').length)).2 = 0 := by
        rw [I'.sum _ q1]
        refine sumTo_none _ (fun j hj => ?_) _ (Nat.le_refl _)
        rw [hL.1] at hj
        rw [hL.2 j hj]
        have := h j hj
        simp only; omega
      rw [hz]
      obtain ⟨_, _, _, hs⟩ := valid_step hv
      exact (hs _ p1).2.2.1
    · obtain ⟨i, hi, e⟩ := weight_in h ((og (stepsP U') (peakI (stepsP U') (stepsP U').length)).1 - b) (by omega)
      have e2 := sum_later hL ((og (stepsP U') (peakI (stepsP U') (stepsP U').length)).1 - b)
      rw [Int.sub_add_cancel] at e2
      rw [← e2, ← I'.sum _ q1] at e
      rw [← e]
      exact p2 i hi
  omega
theorem prof_valid (f : TaskR → Int) {L : List TaskR} {S : List Int} (hf : ∀ k, k < L.length → 0 ≤ f (tg L k) ∧ f (tg L k) ≤ 100) (he : profE L S = 0) : validB (stepsP (usesTo f L S L.length)) = true := by
  obtain ⟨ht, hn, hs⟩ := profE_ok he
  obtain ⟨h60, hok⟩ := tasks_ok ht
  refine steps_valid (uses_ok f ht hn hs) (by rw [usesTo_len]; omega) fun j hj => ?_
  rw [usesTo_len] at hj
  rw [usesTo_at _ _ _ _ _ hj]
  have a := (hok j hj).1
  have b := starts_ok hs j (by omega)
  have c := hf j hj
  refine ⟨?_, c⟩
  show ig S j + (tg L j).length ≤ _
  omega
end Go.Proofs.Ytlnodjcmdnmnlaa
