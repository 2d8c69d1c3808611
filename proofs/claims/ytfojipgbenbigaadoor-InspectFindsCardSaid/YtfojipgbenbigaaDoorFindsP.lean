/-
  PLAIN: the findings of a log by the ropes' first entries; a log without a rope's entries: it stays valid, and the other ropes keep their findings.
-/
import Derived.Test.YtfojipgbenbigaaDoorSnoc
namespace Go.Proofs.YtfojipgbenbigaaDoor

theorem snoc_ind {α : Type} {P : List α → Prop} (h0 : P []) (h1 : ∀ L x, P L → P (L ++ [x])) : ∀ L, P L := fun L => by
  rw [← List.reverse_reverse L]
  induction L.reverse with
  | nil => exact h0
  | cons x r ih => rw [List.reverse_cons]; exact h1 _ _ ih

/-! ### One entry more, at any rope -/
theorem lastG (L : List LogR) (x : LogR) (r : ByteArray) (ks : List Int) : lastI (L ++ [x]) r ks = if decide (x.rope = r) && hasB ks x.kind then (L.length : Int) else lastI L r ks := by
  unfold lastI
  rw [List.length_append, List.length_singleton]
  show (if mt (L ++ [x]) r ks L.length then (L.length : Int) else lastTo (L ++ [x]) r ks L.length) = _
  rw [lastTo_old L x _ _ _ (Nat.le_refl _)]
  have : mt (L ++ [x]) r ks L.length = (decide (x.rope = r) && hasB ks x.kind) := by unfold mt; rw [lg_new]
  rw [this]
theorem lastI_cases (L : List LogR) (r : ByteArray) (ks : List Int) : lastI L r ks = -1 ∨ ∃ k : Nat, k < L.length ∧ lastI L r ks = k := by
  rcases last_cases L r ks L.length with ⟨h, _⟩ | ⟨k, hk, h, _⟩
  · exact .inl h
  · exact .inr ⟨k, hk, h⟩

theorem retG (L : List LogR) (x : LogR) (r : ByteArray) : retB (L ++ [x]) r = if decide (x.rope = r) && hasB [2, 4] x.kind then (x.kind == 4) else retB L r := by
  have h := lastG L x r [2, 4]
  have e : retB (L ++ [x]) r = (decide (0 ≤ lastI (L ++ [x]) r [2, 4]) && (lg (L ++ [x]) (lastI (L ++ [x]) r [2, 4]).toNat).kind == 4) := rfl
  have e' : retB L r = (decide (0 ≤ lastI L r [2, 4]) && (lg L (lastI L r [2, 4]).toNat).kind == 4) := rfl
  rw [e, h]
  split
  · rw [Int.toNat_natCast, lg_new]
    simp
  · rw [e']
    rcases lastI_cases L r [2, 4] with e1 | ⟨k, hk, e1⟩
    · rw [e1]; rfl
    · rw [e1, Int.toNat_natCast, lg_old L x k hk]

/-- The day of the last entry of some kinds; the day of the first entry. -/
def lastDay (L : List LogR) (r : ByteArray) (ks : List Int) : Option Int := if lastI L r ks = -1 then none else some (lg L (lastI L r ks).toNat).day
def firstDay (L : List LogR) (r : ByteArray) : Option Int := if firstI L r = -1 then none else some (lg L (firstI L r).toNat).day
theorem due_days (L : List LogR) (r : ByteArray) (every : Int) (hf : firstI L r ≠ -1) : dueI L r every = match lastDay L r [1, 2] with
    | some d => d + every
    | none => (firstDay L r).getD 0 := by
  unfold dueI lastDay firstDay
  rcases lastI_cases L r [1, 2] with e | ⟨k, hk, e⟩
  · rw [e, if_neg (by decide), if_pos rfl, if_neg hf]; rfl
  · rw [e, if_pos (by omega), if_neg (by omega)]
theorem lastDayG (L : List LogR) (x : LogR) (r : ByteArray) (ks : List Int) : lastDay (L ++ [x]) r ks = if decide (x.rope = r) && hasB ks x.kind then some x.day else lastDay L r ks := by
  unfold lastDay
  rw [lastG L x r ks]
  split
  · rw [if_neg (by omega), Int.toNat_natCast, lg_new]
  · rcases lastI_cases L r ks with e | ⟨k, hk, e⟩
    · rw [e, if_pos rfl, if_pos rfl]
    · rw [e, if_neg (by omega), if_neg (by omega), Int.toNat_natCast, lg_old L x k hk]
theorem firstG (L : List LogR) (x : LogR) (r : ByteArray) : firstI (L ++ [x]) r = if firstI L r = -1 then (if x.rope = r then (L.length : Int) else -1) else firstI L r := by
  rcases first_cases L r with ⟨e, h⟩ | ⟨k, hk, e, h1, h2⟩
  · rw [e, if_pos rfl]
    by_cases hx : x.rope = r
    · rw [if_pos hx]
      exact first_hit _ _ _ (by simp) (by rw [lg_new]; exact hx) (fun j hj => by rw [lg_old L x j hj]; exact h j hj)
    · rw [if_neg hx]
      refine first_miss _ _ (fun j hj => ?_)
      simp at hj
      rcases Nat.lt_or_ge j L.length with l | l
      · rw [lg_old L x j l]; exact h j l
      · obtain rfl : j = L.length := by omega
        rw [lg_new]; exact hx
  · rw [e, if_neg (by omega)]
    exact first_hit _ _ _ (by simp; omega) (by rw [lg_old L x k hk]; exact h1) (fun j hj => by rw [lg_old L x j (by omega)]; exact h2 j hj)
theorem firstDayG (L : List LogR) (x : LogR) (r : ByteArray) : firstDay (L ++ [x]) r = match firstDay L r with
    | some d => some d
    | none => if x.rope = r then some x.day else none := by
  unfold firstDay
  rw [firstG L x r]
  rcases first_cases L r with ⟨e, _⟩ | ⟨k, hk, e, _, _⟩
  · rw [e, if_pos rfl, if_pos rfl]
    by_cases hx : x.rope = r
    · rw [if_pos hx, if_neg (by omega), Int.toNat_natCast, lg_new]; simp [hx]
    · rw [if_neg hx, if_pos rfl]; simp [hx]
  · rw [e, if_neg (by omega), if_neg (by omega), if_neg (by omega), Int.toNat_natCast, lg_old L x k hk]

/-! ### Without a rope's entries -/
def wo (r0 : ByteArray) (L : List LogR) : List LogR := L.filter fun y => !decide (y.rope = r0)
theorem wo_snoc (r0 : ByteArray) (L : List LogR) (x : LogR) : wo r0 (L ++ [x]) = if x.rope = r0 then wo r0 L else wo r0 L ++ [x] := by
  unfold wo
  rw [List.filter_append]
  by_cases h : x.rope = r0 <;> simp [h]
theorem wo_len (r0 : ByteArray) (L : List LogR) : (wo r0 L).length ≤ L.length := List.length_filter_le _ _

theorem wo_ret (r0 r : ByteArray) (hr : r ≠ r0) : ∀ L, retB (wo r0 L) r = retB L r := by
  refine snoc_ind rfl fun L x ih => ?_
  rw [wo_snoc, retG]
  by_cases h : x.rope = r0
  · rw [if_pos h, ih, decide_eq_false (fun e => hr (e.symm.trans h)), Bool.false_and]; rfl
  · rw [if_neg h, retG, ih]
theorem wo_lastDay (r0 r : ByteArray) (hr : r ≠ r0) (ks : List Int) : ∀ L, lastDay (wo r0 L) r ks = lastDay L r ks := by
  refine snoc_ind rfl fun L x ih => ?_
  rw [wo_snoc, lastDayG]
  by_cases h : x.rope = r0
  · rw [if_pos h, ih, decide_eq_false (fun e => hr (e.symm.trans h)), Bool.false_and]; rfl
  · rw [if_neg h, lastDayG, ih]
theorem wo_firstDay (r0 r : ByteArray) (hr : r ≠ r0) : ∀ L, firstDay (wo r0 L) r = firstDay L r := by
  refine snoc_ind rfl fun L x ih => ?_
  rw [wo_snoc, firstDayG]
  by_cases h : x.rope = r0
  · have hx : x.rope ≠ r := fun e => hr (e.symm.trans h)
    rw [if_pos h, ih]
    cases firstDay L r <;> simp [hx]
  · rw [if_neg h, firstDayG, ih]
theorem firstDay_none (L : List LogR) (r : ByteArray) : firstDay L r = none ↔ firstI L r = -1 := by
  unfold firstDay
  by_cases h : firstI L r = -1 <;> simp [h]
theorem wo_due (r0 r : ByteArray) (hr : r ≠ r0) (L : List LogR) (every : Int) (hf : firstI L r ≠ -1) : dueI (wo r0 L) r every = dueI L r every := by
  have hf' : firstI (wo r0 L) r ≠ -1 := fun e => hf ((firstDay_none L r).1 (by rw [← wo_firstDay r0 r hr L]; exact (firstDay_none _ _).2 e))
  rw [due_days _ _ _ hf, due_days _ _ _ hf', wo_lastDay r0 r hr, wo_firstDay r0 r hr]

/-! ### The ropes in the order of their first entries; the findings by them -/
def firstsTo (L : List LogR) : Nat → List ByteArray
  | 0 => []
  | k + 1 => if seenTo L (lg L k).rope k then firstsTo L k else firstsTo L k ++ [(lg L k).rope]
def fnd1 (L : List LogR) (today every : Int) (r : ByteArray) : Option (Int × ByteArray) :=
  if retB L r then none else if dueI L r every < today then some (1, r) else if dueI L r every = today then some (2, r) else none
theorem find_firsts (L : List LogR) (today every : Int) (k : Nat) : findTo L today every k = (firstsTo L k).filterMap (fnd1 L today every) := by
  induction k with
  | zero => rfl
  | succ k ih =>
    rw [findTo_succ, ih]
    simp only [firstsTo]
    cases hs : seenTo L (lg L k).rope k
    · simp only [Bool.false_eq_true, if_false, List.filterMap_append, List.append_cancel_left_eq]
      unfold fnd fnd1
      rw [hs, Bool.false_or]
      cases hr : retB L (lg L k).rope
      · by_cases h1 : dueI L (lg L k).rope every < today
        · simp [hr, h1]
        · by_cases h2 : dueI L (lg L k).rope every = today
          · simp [hr, h2]
          · simp [hr, h1, h2]
      · simp [hr]
    · simp only [if_true]
      rw [fnd_no L today every k (by rw [hs]; rfl), List.append_nil]
theorem mem_firsts (L : List LogR) (t : ByteArray) (k : Nat) : t ∈ firstsTo L k ↔ seenTo L t k = true := by
  induction k with
  | zero => simp [firstsTo, seenTo]
  | succ k ih =>
    simp only [firstsTo, seenTo]
    by_cases e : t = (lg L k).rope
    · subst e
      cases hs : seenTo L (lg L k).rope k
      · simp
      · simp only [if_true, iff_true]; exact ih.2 hs
    · rw [if_neg e, ← ih]
      cases seenTo L (lg L k).rope k <;> simp [e]
theorem firsts_nodup (L : List LogR) (k : Nat) : (firstsTo L k).Nodup := by
  induction k with
  | zero => exact List.Pairwise.nil
  | succ k ih =>
    simp only [firstsTo]
    cases hs : seenTo L (lg L k).rope k
    · simp only [Bool.false_eq_true, if_false]
      rw [List.nodup_append]
      refine ⟨ih, List.pairwise_singleton _ _, fun a ha b hb => ?_⟩
      obtain rfl : b = (lg L k).rope := by simpa using hb
      intro e
      rw [e, mem_firsts, hs] at ha
      cases ha
    · simpa using ih
theorem seen_old (L : List LogR) (x : LogR) (t : ByteArray) (k : Nat) (h : k ≤ L.length) : seenTo (L ++ [x]) t k = seenTo L t k := by
  induction k with
  | zero => rfl
  | succ k ih => simp only [seenTo]; rw [lg_old L x k (by omega), ih (by omega)]
theorem firsts_old (L : List LogR) (x : LogR) (k : Nat) (h : k ≤ L.length) : firstsTo (L ++ [x]) k = firstsTo L k := by
  induction k with
  | zero => rfl
  | succ k ih => simp only [firstsTo]; rw [lg_old L x k (by omega), seen_old L x _ k (by omega), ih (by omega)]
def firsts (L : List LogR) : List ByteArray := firstsTo L L.length
theorem firsts_snoc (L : List LogR) (x : LogR) : firsts (L ++ [x]) = if seenTo L x.rope L.length then firsts L else firsts L ++ [x.rope] := by
  unfold firsts
  rw [List.length_append, List.length_singleton]
  simp only [firstsTo]
  rw [lg_new, seen_old L x _ _ (Nat.le_refl _), firsts_old L x _ (Nat.le_refl _)]
theorem wo_firsts (r0 : ByteArray) : ∀ L, firsts (wo r0 L) = (firsts L).filter fun t => !decide (t = r0) := by
  refine snoc_ind rfl fun L x ih => ?_
  rw [wo_snoc, firsts_snoc]
  by_cases h : x.rope = r0
  · rw [if_pos h, ih]
    cases seenTo L x.rope L.length
    · rw [if_neg (by decide), List.filter_append]; simp [h]
    · rw [if_pos rfl]
  · rw [if_neg h, firsts_snoc, ih]
    have e : seenTo (wo r0 L) x.rope (wo r0 L).length = seenTo L x.rope L.length := by
      rw [Bool.eq_iff_iff, ← mem_firsts, ← mem_firsts]
      show x.rope ∈ firsts (wo r0 L) ↔ x.rope ∈ firsts L
      rw [ih]; simp [h]
    rw [e]
    cases seenTo L x.rope L.length
    · rw [if_neg (by decide), if_neg (by decide), List.filter_append]; simp [h]
    · rw [if_pos rfl, if_pos rfl]
theorem first_seen (L : List LogR) (t : ByteArray) (h : t ∈ firsts L) : firstI L t ≠ -1 := by
  obtain ⟨j, hj, e⟩ := (seen_iff L t _).1 ((mem_firsts L t _).1 h)
  rw [← e]
  exact first_not L j hj
/-- Leaving out a rope's entries leaves the other findings. -/
theorem wo_finds (r0 : ByteArray) (L : List LogR) (today every : Int) : findTo (wo r0 L) today every (wo r0 L).length = (findTo L today every L.length).filter fun f => !decide (f.2 = r0) := by
  rw [find_firsts, find_firsts]
  show (firsts (wo r0 L)).filterMap _ = ((firsts L).filterMap _).filter _
  rw [wo_firsts]
  have main : ∀ l : List ByteArray, (∀ t ∈ l, firstI L t ≠ -1) → (l.filter fun t => !decide (t = r0)).filterMap (fnd1 (wo r0 L) today every) = (l.filterMap (fnd1 L today every)).filter fun f => !decide (f.2 = r0) := by
    intro l
    induction l with
    | nil => exact fun _ => rfl
    | cons t l ih =>
      intro hl
      have ih' := ih (fun u hu => hl u (List.mem_cons_of_mem _ hu))
      have ht := hl t List.mem_cons_self
      have hname : ∀ f, fnd1 L today every t = some f → f.2 = t := fun f hf => by
        unfold fnd1 at hf
        split at hf
        · cases hf
        · split at hf
          · cases hf; rfl
          · split at hf
            · cases hf; rfl
            · cases hf
      by_cases e : t = r0
      · rw [List.filter_cons, if_neg (by simp [e]), ih', List.filterMap_cons]
        cases hf : fnd1 L today every t with
        | none => rfl
        | some f =>
          simp only []
          rw [List.filter_cons, if_neg (by simp [hname f hf, e])]
      · have e1 : fnd1 (wo r0 L) today every t = fnd1 L today every t := by
          unfold fnd1
          rw [wo_ret r0 t e, wo_due r0 t e L every ht]
        rw [List.filter_cons, if_pos (by simp [e]), List.filterMap_cons, List.filterMap_cons, e1]
        cases hf : fnd1 L today every t with
        | none => exact ih'
        | some f =>
          simp only []
          rw [List.filter_cons, if_pos (by simp [hname f hf, e]), ih']
  exact main _ (fun t ht => first_seen L t ht)
end Go.Proofs.YtfojipgbenbigaaDoor
