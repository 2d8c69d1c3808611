/-
  PLAIN: a log without a rope's entries stays valid; the findings have distinct names, their kinds are 1 or 2, and a rope has the finding that its state asks for.
-/
import Derived.Test.YtfojipgbenbigaaDoorFindsP
namespace Go.Proofs.YtfojipgbenbigaaDoor

/-! ### Validity, one entry more -/
def endDay (L : List LogR) : Int := befI L L.length
def entryOK (L : List LogR) (x : LogR) : Bool :=
  (isDayB x.day && decide (endDay L ≤ x.day) && isNameB x.rope && decide (1 ≤ x.kind ∧ x.kind ≤ 4)) && (if x.kind = 3 then decide (1 ≤ x.runs ∧ x.runs ≤ 1000000) else x.runs == 0) && (x.kind == 2 || !retB L x.rope)
theorem end_snoc (L : List LogR) (x : LogR) : endDay (L ++ [x]) = x.day := by
  unfold endDay befI
  rw [List.length_append, List.length_singleton, if_neg (by omega), show L.length + 1 - 1 = L.length by omega, lg_new]
theorem vsnoc (L : List LogR) (x : LogR) : vTo (L ++ [x]) (L ++ [x]).length = (vTo L L.length && entryOK L x) := by
  rw [List.length_append, List.length_singleton]
  show (vTo (L ++ [x]) L.length && (headOK (L ++ [x]) L.length && runsOK (L ++ [x]) L.length && stateOK (L ++ [x]) L.length)) = _
  rw [vTo_old L x _ (Nat.le_refl _)]
  have e1 : headOK (L ++ [x]) L.length = (isDayB x.day && decide (endDay L ≤ x.day) && isNameB x.rope && decide (1 ≤ x.kind ∧ x.kind ≤ 4)) := by
    rw [head_eq2, lg_new]
    have : befI (L ++ [x]) L.length = endDay L := by
      unfold endDay befI
      by_cases h : L.length = 0
      · rw [if_pos h, if_pos h]
      · rw [if_neg h, if_neg h, lg_old L x _ (by omega)]
    rw [this]
  have e2 : runsOK (L ++ [x]) L.length = (if x.kind = 3 then decide (1 ≤ x.runs ∧ x.runs ≤ 1000000) else x.runs == 0) := by unfold runsOK; rw [lg_new]
  have e3 : stateOK (L ++ [x]) L.length = (x.kind == 2 || !retB L x.rope) := by
    unfold stateOK
    rw [lg_new, retTo_old L x _ _ (Nat.le_refl _)]
    rfl
  rw [e1, e2, e3]
  rfl
theorem wo_vTo (r0 : ByteArray) : ∀ L, vTo L L.length = true → vTo (wo r0 L) (wo r0 L).length = true ∧ endDay (wo r0 L) ≤ endDay L := by
  refine snoc_ind (fun _ => ⟨rfl, Int.le_refl _⟩) fun L x ih => ?_
  rw [vsnoc, Bool.and_eq_true]
  rintro ⟨hv, hx⟩
  obtain ⟨i1, i2⟩ := ih hv
  have hx' := hx
  unfold entryOK at hx
  simp only [Bool.and_eq_true, decide_eq_true_eq] at hx
  obtain ⟨⟨⟨⟨⟨h1, h2⟩, h3⟩, h4⟩, h5⟩, h6⟩ := hx
  rw [wo_snoc, end_snoc]
  by_cases h : x.rope = r0
  · rw [if_pos h]
    exact ⟨i1, by omega⟩
  · rw [if_neg h, vsnoc, end_snoc, i1]
    refine ⟨?_, Int.le_refl _⟩
    unfold entryOK
    rw [wo_ret r0 x.rope h L]
    simp only [Bool.true_and, Bool.and_eq_true, decide_eq_true_eq]
    exact ⟨⟨⟨⟨⟨h1, by omega⟩, h3⟩, h4⟩, h5⟩, h6⟩
theorem wo_valid (r0 : ByteArray) (L : List LogR) (h : validB L = true) : validB (wo r0 L) = true := by
  unfold validB at h ⊢
  simp only [Bool.and_eq_true, decide_eq_true_eq] at h ⊢
  have := wo_len r0 L
  exact ⟨by omega, (wo_vTo r0 L h.2).1⟩

/-! ### The findings, one by one -/
def findsOf (L : List LogR) (today every : Int) : List (Int × ByteArray) := findTo L today every L.length
theorem fnd1_name {L : List LogR} {today every : Int} {t : ByteArray} {f : Int × ByteArray} (h : fnd1 L today every t = some f) : f.2 = t ∧ (f.1 = 1 ∨ f.1 = 2) := by
  unfold fnd1 at h
  split at h
  · cases h
  · split at h
    · cases h; exact ⟨rfl, .inl rfl⟩
    · split at h
      · cases h; exact ⟨rfl, .inr rfl⟩
      · cases h
theorem finds_names (L : List LogR) (today every : Int) : ((findsOf L today every).map (·.2)).Nodup := by
  unfold findsOf
  rw [find_firsts]
  have main : ∀ l : List ByteArray, l.Nodup → ((l.filterMap (fnd1 L today every)).map (·.2)).Nodup ∧ ∀ t ∈ (l.filterMap (fnd1 L today every)).map (·.2), t ∈ l := by
    intro l
    induction l with
    | nil => exact fun _ => ⟨List.Pairwise.nil, fun _ h => h⟩
    | cons t l ih =>
      intro hn
      rw [List.nodup_cons] at hn
      obtain ⟨i1, i2⟩ := ih hn.2
      rw [List.filterMap_cons]
      cases hf : fnd1 L today every t with
      | none => exact ⟨i1, fun u hu => List.mem_cons_of_mem _ (i2 u hu)⟩
      | some f =>
        simp only [List.map_cons]
        rw [(fnd1_name hf).1]
        exact ⟨List.nodup_cons.2 ⟨fun hm => hn.1 (i2 t hm), i1⟩, fun u hu => by
          rcases List.mem_cons.1 hu with e | e
          · rw [e]; exact List.mem_cons_self
          · exact List.mem_cons_of_mem _ (i2 u e)⟩
  exact (main _ (firsts_nodup L _)).1
theorem finds_apart (L : List LogR) (today every : Int) (i j : Nat) (hi : i < (findsOf L today every).length) (hj : j < i) : (fg (findsOf L today every) j).2 ≠ (fg (findsOf L today every) i).2 := by
  have h := List.pairwise_iff_getElem.1 (finds_names L today every) j i (by simp; omega) (by simpa using hi) hj
  rw [fg_eq _ i hi, fg_eq _ j (by omega)]
  simpa using h
theorem mem_finds {L : List LogR} {today every : Int} {f : Int × ByteArray} (h : f ∈ findsOf L today every) : ∃ t, t ∈ firsts L ∧ fnd1 L today every t = some f := by
  unfold findsOf at h
  rw [find_firsts, List.mem_filterMap] at h
  exact h
theorem finds_kind (L : List LogR) (today every : Int) (i : Nat) (hi : i < (findsOf L today every).length) : (fg (findsOf L today every) i).1 = 1 ∨ (fg (findsOf L today every) i).1 = 2 := by
  have hm : fg (findsOf L today every) i ∈ findsOf L today every := by rw [fg_eq _ i hi]; exact List.getElem_mem hi
  obtain ⟨t, _, ht⟩ := mem_finds hm
  exact (fnd1_name ht).2
/-- The kind of finding that a rope's state asks for. -/
def wantI (L : List LogR) (today every : Int) (r : ByteArray) : Int := if retB L r then 0 else if dueI L r every < today then 1 else if dueI L r every = today then 2 else 0
theorem finds_yes (L : List LogR) (today every : Int) (k : Nat) (hk : k < L.length) (hw : wantI L today every (lg L k).rope ≠ 0) :
    ∃ i : Nat, i < (findsOf L today every).length ∧ fg (findsOf L today every) i = (wantI L today every (lg L k).rope, (lg L k).rope) ∧ ∀ j, j < i → (fg (findsOf L today every) j).2 ≠ (lg L k).rope := by
  have hin : (lg L k).rope ∈ firsts L := (mem_firsts L _ _).2 ((seen_iff L _ _).2 ⟨k, hk, rfl⟩)
  have hg : fnd1 L today every (lg L k).rope = some (wantI L today every (lg L k).rope, (lg L k).rope) := by
    unfold fnd1
    unfold wantI at hw ⊢
    cases hr : retB L (lg L k).rope
    · rw [hr] at hw
      by_cases h1 : dueI L (lg L k).rope every < today
      · simp [h1]
      · by_cases h2 : dueI L (lg L k).rope every = today
        · simp [h2]
        · simp [h1, h2] at hw
    · rw [hr] at hw; simp at hw
  have hm : (wantI L today every (lg L k).rope, (lg L k).rope) ∈ findsOf L today every := by
    unfold findsOf
    rw [find_firsts, List.mem_filterMap]
    exact ⟨_, hin, hg⟩
  obtain ⟨i, hi, e⟩ := List.getElem_of_mem hm
  have e' : fg (findsOf L today every) i = (wantI L today every (lg L k).rope, (lg L k).rope) := by rw [fg_eq _ i hi]; exact e
  exact ⟨i, hi, e', fun j hj he => finds_apart L today every i j hi hj (by rw [he, e'])⟩
theorem finds_no (L : List LogR) (today every : Int) (r : ByteArray) (hw : wantI L today every r = 0) (j : Nat) (hj : j < (findsOf L today every).length) : (fg (findsOf L today every) j).2 ≠ r := by
  intro e
  have hm : fg (findsOf L today every) j ∈ findsOf L today every := by rw [fg_eq _ j hj]; exact List.getElem_mem hj
  obtain ⟨t, _, ht⟩ := mem_finds hm
  have h2 := fnd1_name ht
  obtain rfl : t = r := by rw [← h2.1]; exact e
  unfold fnd1 at ht
  unfold wantI at hw
  cases hr : retB L t
  · rw [hr] at hw ht
    by_cases h1 : dueI L t every < today
    · simp [h1] at hw
    · by_cases h3 : dueI L t every = today
      · simp [h3] at hw
      · simp [h1, h3] at ht
  · rw [hr] at ht; simp at ht
theorem finds_len (L : List LogR) (today every : Int) : (findsOf L today every).length ≤ L.length := findTo_len L today every L.length
end Go.Proofs.YtfojipgbenbigaaDoor
