/-
  PLAIN: the reference's First, Sums and next go through all choices.
-/
import Derived.Test.YtbniclapaigkkaaGreatBrickN
namespace Go.Proofs.YtbniclapaigkkaaGreat
theorem lexB_total : ∀ (a b : List Int), a.length = b.length → lexB a b = false → a ≠ b → lexB b a = true
  | [], [], _, _, h => absurd rfl h
  | x :: a, y :: b, hl, h, hn => by
    simp only [lexB] at h ⊢
    by_cases e : x = y
    · subst e
      rw [if_pos rfl] at h ⊢
      exact lexB_total a b (by simpa using hl) h fun q => hn (by rw [q])
    · rw [if_neg e] at h
      rw [if_neg fun q => e q.symm]
      have := of_decide_eq_false h
      exact decide_eq_true (by omega)
  | [], _ :: _, hl, _, _ => by simp at hl
  | _ :: _, [], hl, _, _ => by simp at hl
theorem lexB_trans : ∀ (a b c : List Int), lexB a b = true → lexB b c = true → lexB a c = true
  | x :: a, y :: b, z :: c, h, k => by
    simp only [lexB] at h k ⊢
    by_cases e : x = y
    · subst e
      rw [if_pos rfl] at h
      by_cases e2 : x = z
      · subst e2
        rw [if_pos rfl] at k ⊢
        exact lexB_trans a b c h k
      · rw [if_neg e2] at k ⊢
        exact k
    · rw [if_neg e] at h
      have h' := of_decide_eq_true h
      by_cases e2 : y = z
      · subst e2
        rw [if_neg e]
        exact h
      · rw [if_neg e2] at k
        have k' := of_decide_eq_true k
        rw [if_neg (by omega)]
        exact decide_eq_true (by omega)
  | [], _, _, h, _ => by simp [lexB] at h
  | _ :: _, [], _, h, _ => by simp [lexB] at h
  | _ :: _, _ :: _, [], _, k => by simp [lexB] at k
theorem before_total {a b : List Int} (hl : a.length = b.length) (h : beforeB a b = false) (hn : a ≠ b) : beforeB b a = true := by
  unfold beforeB at *
  by_cases e : numC a = numC b
  · rw [if_pos e] at h
    rw [if_pos e.symm]
    exact lexB_total a b hl h hn
  · rw [if_neg e] at h
    rw [if_neg fun q => e q.symm]
    have := of_decide_eq_false h
    exact decide_eq_true (by omega)
theorem before_trans {a b c : List Int} (h : beforeB a b = true) (k : beforeB b c = true) : beforeB a c = true := by
  unfold beforeB at *
  by_cases e : numC a = numC b
  · rw [if_pos e] at h
    by_cases e2 : numC b = numC c
    · rw [if_pos e2] at k
      rw [if_pos (e.trans e2)]
      exact lexB_trans a b c h k
    · rw [if_neg e2] at k
      rw [if_neg (by omega), e]
      exact k
  · rw [if_neg e] at h
    have h' := of_decide_eq_true h
    by_cases e2 : numC b = numC c
    · rw [if_neg (by omega), ← e2]
      exact h
    · rw [if_neg e2] at k
      have k' := of_decide_eq_true k
      rw [if_neg (by omega)]
      exact decide_eq_true (by omega)
/-- One choice more, as the reference takes it. -/
def stepR (low high : Int) (L : List BrickR) (st : Option (List Int × Int)) (c : List Int) : Option (List Int × Int) :=
  match st with
  | none => if winB low high (sumC L c) = true then some (c, numC c) else none
  | some (b, m) => if winB low high (sumC L c) = true ∧ beforeB c b = true then some (c, numC c) else some (b, m)
theorem best_stepR {low high : Int} {L : List BrickR} {S : List Int → Prop} {st : Option (List Int × Int)} {c : List Int} (h : BestOf low high L S st) (hl : ∀ a, S a → a.length = c.length) :
    BestOf low high L (fun a => S a ∨ a = c) (stepR low high L st c) := by
  cases st with
  | none =>
    unfold stepR
    simp only []
    split
    · rename_i hw
      refine ⟨Or.inr rfl, hw, rfl, fun a ha hwa => ?_⟩
      rcases ha with ha | ha
      · have := h a ha; rw [this] at hwa; cases hwa
      · exact Or.inl ha
    · rename_i hw
      intro a ha
      rcases ha with ha | rfl
      · exact h a ha
      · simpa using hw
  | some p =>
    obtain ⟨b, m⟩ := p
    obtain ⟨h1, h2, h3, h4⟩ := h
    unfold stepR
    simp only []
    split
    · rename_i hw
      refine ⟨Or.inr rfl, hw.1, rfl, fun a ha hwa => ?_⟩
      rcases ha with ha | ha
      · rcases h4 a ha hwa with rfl | e
        · exact Or.inr hw.2
        · exact Or.inr (before_trans hw.2 e)
      · exact Or.inl ha
    · rename_i hw
      refine ⟨Or.inl h1, h2, h3, fun a ha hwa => ?_⟩
      rcases ha with ha | rfl
      · exact h4 a ha hwa
      · have hb : beforeB a b = false := by
          cases hq : beforeB a b
          · rfl
          · exact absurd ⟨hwa, hq⟩ hw
        by_cases e : a = b
        · exact Or.inl e
        · exact Or.inr (before_total (hl b h1).symm hb e)
/-- The choices that were gone through before number v. -/
def Seen (L : List BrickR) (v : Nat) (a : List Int) : Prop := IsC L a ∧ valC L a < v
theorem seen_zero (L : List BrickR) : Seen L 0 = fun _ => False := by funext a; simp [Seen]
theorem seen_next {L : List BrickR} {c : List Int} (h : IsC L c) : (fun a => Seen L (valC L c) a ∨ a = c) = Seen L (valC L c + 1) := by
  funext a
  simp only [Seen, eq_iff_iff]
  constructor
  · rintro (⟨h1, h2⟩ | rfl)
    · exact ⟨h1, by omega⟩
    · exact ⟨h, by omega⟩
  · rintro ⟨h1, h2⟩
    rcases Nat.lt_succ_iff_lt_or_eq.1 h2 with q | q
    · exact Or.inl ⟨h1, q⟩
    · exact Or.inr (valC_inj h1 h q)
theorem seen_all (L : List BrickR) : Seen L (countP L) = IsC L := by
  funext a
  simp only [Seen, eq_iff_iff]
  exact ⟨fun h => h.1, fun h => ⟨h, valC_lt h⟩⟩
/-- How far the way has gone: the number of the choice that comes now. -/
def AtC (L : List BrickR) (c : List Int) (more : Bool) (v : Nat) : Prop := IsC L c ∧ ((more = true ∧ v = valC L c) ∨ (more = false ∧ v = countP L))
theorem atC_zero {L : List BrickR} (ok : BrickOK L) : AtC L (List.replicate L.length 0) true 0 := ⟨isC_zero ok, Or.inl ⟨rfl, (valC_zero L).symm⟩⟩
theorem atC_next {L : List BrickR} {c : List Int} {v : Nat} (ok : BrickOK L) (h : AtC L c true v) : AtC L (nextC L c).1 (nextC L c).2 (v + 1) := by
  obtain ⟨h1, h2⟩ := h
  obtain ⟨i1, i2⟩ := nextC_spec ok h1
  rcases h2 with ⟨_, rfl⟩ | ⟨h, _⟩
  · rcases i2 with ⟨j1, j2⟩ | ⟨j1, j2⟩
    · exact ⟨i1, Or.inl ⟨j1, j2.symm⟩⟩
    · exact ⟨i1, Or.inr ⟨j1, j2⟩⟩
  · cases h
theorem atC_lt {L : List BrickR} {c : List Int} {v : Nat} (h : AtC L c true v) : v = valC L c ∧ v < countP L := by
  obtain ⟨h1, ⟨_, h2⟩ | ⟨h2, _⟩⟩ := h
  · exact ⟨h2, by rw [h2]; exact valC_lt h1⟩
  · cases h2
/-- The sums of the choices that were gone through. -/
def SumsTo (L : List BrickR) (v : Nat) (K : List Int) : Prop := K.Pairwise (· < ·) ∧ ∀ z, z ∈ K ↔ ∃ c, Seen L v c ∧ sumC L c = z
theorem sumsTo_zero (L : List BrickR) : SumsTo L 0 [] := ⟨List.Pairwise.nil, fun z => by simp [Seen]⟩
theorem sumsTo_next {L : List BrickR} {c : List Int} {K : List Int} {v : Nat} (hc : AtC L c true v) (h : SumsTo L v K) : SumsTo L (v + 1) (insK (sumC L c) K) := by
  obtain ⟨e, _⟩ := atC_lt hc
  subst e
  refine ⟨insK_incr _ _ h.1, fun z => ?_⟩
  rw [insK_mem, h.2, ← seen_next hc.1]
  constructor
  · rintro (rfl | ⟨a, h1, h2⟩)
    · exact ⟨c, Or.inr rfl, rfl⟩
    · exact ⟨a, Or.inl h1, h2⟩
  · rintro ⟨a, h1 | rfl, h2⟩
    · exact Or.inr ⟨a, h1, h2⟩
    · exact Or.inl h2.symm
theorem sumsTo_all {L : List BrickR} {K : List Int} (h : SumsTo L (countP L) K) : K = sumsP L := by
  refine incr_ext h.1 (sumsP_incr L) fun z => ?_
  rw [h.2, sumsP_mem, seen_all]
  exact Iff.rfl
theorem bestTo_next {L : List BrickR} {low high : Int} {c : List Int} {v : Nat} {st : Option (List Int × Int)} (hc : AtC L c true v) (h : BestOf low high L (Seen L v) st) : BestOf low high L (Seen L (v + 1)) (stepR low high L st c) := by
  obtain ⟨e, _⟩ := atC_lt hc
  subst e
  have := best_stepR (c := c) h fun a ha => by rw [isC_len ha.1, isC_len hc.1]
  rw [seen_next hc.1] at this
  exact this
theorem bestTo_all {L : List BrickR} {low high : Int} {st : Option (List Int × Int)} (h : BestOf low high L (Seen L (countP L)) st) : st = firstP low high L := by
  rw [seen_all] at h
  exact best_unique h (first_best low high L)
theorem bestTo_zero (L : List BrickR) (low high : Int) : BestOf low high L (Seen L 0) none := fun c hc => by rw [seen_zero] at hc; exact hc.elim
theorem insK_at {x : Int} : ∀ {K : List Int} {k : Nat}, k ≤ K.length → (∀ j, j < k → (K[j]?).getD 0 < x) → insK x K = K.take k ++ insK x (K.drop k)
  | _, 0, _, _ => rfl
  | [], k + 1, h, _ => by simp at h
  | y :: t, k + 1, h, hj => by
    have h0 := hj 0 (by omega)
    simp only [List.getElem?_cons_zero, Option.getD_some] at h0
    have := insK_at (x := x) (K := t) (k := k) (by simpa using h) fun j hj' => by have := hj (j + 1) (by omega); simpa using this
    simp only [List.take_succ_cons, List.drop_succ_cons, List.cons_append]
    rw [← this, insK, if_neg (by omega), if_neg (by omega)]
theorem nextC_cons {b : BrickR} {t : List BrickR} {n : Int} {r : List Int} (h : ¬ n < b.count) : nextC (b :: t) (n :: r) = (0 :: (nextC t r).1, (nextC t r).2) := by
  simp only [nextC]
  rw [if_neg h]
/-- Behind k numbers that are full. -/
theorem nextC_at {L : List BrickR} {c : List Int} (hl : c.length = L.length) : ∀ k, k ≤ L.length → (∀ j, (hj : j < k) → ∀ (h1 : j < L.length) (h2 : j < c.length), ¬ c[j] < L[j].count) → nextC L c = (List.replicate k 0 ++ (nextC (L.drop k) (c.drop k)).1, (nextC (L.drop k) (c.drop k)).2)
  | 0, _, _ => rfl
  | k + 1, hk, h => by
    rw [nextC_at hl k (by omega) fun j hj => h j (by omega), List.drop_eq_getElem_cons (show k < L.length by omega), List.drop_eq_getElem_cons (show k < c.length by omega), nextC_cons (h k (by omega) (by omega) (by omega)), List.replicate_succ', List.append_assoc]
    rfl
end Go.Proofs.YtbniclapaigkkaaGreat
