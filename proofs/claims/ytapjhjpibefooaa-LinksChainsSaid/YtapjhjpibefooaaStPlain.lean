/-
  PLAIN: the order, one by one; the starts that the reference makes along the order are those of the program.
-/
import Derived.Test.YtapjhjpibefooaaStartsP
namespace Go.Proofs.Ytapjhjpibefooaa

/-- Each cue of the order was the next one when it came. -/
theorem ord_next (hs : List Int) : ∀ k, k < (ordP hs).length → ∃ m : Nat, ig (ordP hs) k = m ∧ nextO hs ((ordP hs).take k) = some m := by
  have main : ∀ f out, OrdAt hs out → hs.length - out.length = f → (∀ k, k < out.length → ∃ m : Nat, ig out k = m ∧ nextO hs (out.take k) = some m) → ∀ k, k < (ordP hs).length → ∃ m : Nat, ig (ordP hs) k = m ∧ nextO hs ((ordP hs).take k) = some m := by
    intro f
    induction f with
    | zero =>
      intro out h hf hq
      cases hn : nextO hs out with
      | none => rw [h.ends hn]; exact hq
      | some k => have := (h.next k hn).2; omega
    | succ f ih =>
      intro out h hf hq
      cases hn : nextO hs out with
      | none => rw [h.ends hn]; exact hq
      | some k =>
        obtain ⟨h1, h2⟩ := h.next k hn
        refine ih _ h1 (by rw [List.length_append, List.length_singleton]; omega) fun j hj => ?_
        rw [List.length_append, List.length_singleton] at hj
        rcases Nat.lt_or_ge j out.length with l | l
        · rw [ig_old _ _ _ l, List.take_append_of_le_length (by omega)]
          exact hq j l
        · obtain rfl : j = out.length := by omega
          refine ⟨k, ig_new _ _, ?_⟩
          rw [List.take_append_of_le_length (Nat.le_refl _), List.take_length]
          exact hn
  exact main _ [] (OrdAt.start hs) rfl (fun k hk => absurd hk (Nat.not_lt_zero _))
theorem ready_iff {hs out : List Int} {m : Nat} : readyB hs out m = true ↔ (m : Int) ∉ out ∧ (ig hs m < 0 ∨ ig hs m ∈ out) := by
  unfold readyB
  simp
theorem all_in (n : Nat) (l : List Int) (hn : l.Nodup) (h : ∀ x ∈ l, 0 ≤ x ∧ x < n) (hl : l.length = n) (i : Nat) (hi : i < n) : (i : Int) ∈ l := by
  by_cases hm : (i : Int) ∈ l
  · exact hm
  · have := pigeon n _ (snoc_nodup hn hm) (snoc_in h (Int.natCast_nonneg i) (by omega))
    rw [List.length_append, List.length_singleton] at this
    omega
theorem nodup_at {l : List Int} (hn : l.Nodup) {i j : Nat} (hi : i < j) (hj : j < l.length) : ig l i ≠ ig l j := by
  rw [ig_eq l i (by omega), ig_eq l j hj]
  exact List.pairwise_iff_getElem.1 hn i j (by omega) hj hi
theorem mem_take {l : List Int} {x : Int} {k : Nat} (h : x ∈ l.take k) : ∃ i, i < k ∧ i < l.length ∧ ig l i = x := by
  obtain ⟨i, hi, e⟩ := List.getElem_of_mem h
  rw [List.length_take] at hi
  refine ⟨i, by omega, by omega, ?_⟩
  rw [ig_eq l i (by omega), ← e, List.getElem_take]

/-! ### The reference's starts -/
def stepR (L : List CueR) (N G : List Int) (s : List Int) (i : Int) : List Int :=
  s.set i.toNat (if (cg L i.toNat).link = 1 then ig G (manTo L i.toNat) + (cg L i.toNat).delay else ig s (findI L (cg L i.toNat).after).toNat + (cg L i.toNat).delay + if (cg L i.toNat).link = 2 then ig N (findI L (cg L i.toNat).after).toNat else 0)
def refV (L : List CueR) (N G : List Int) (k : Nat) : List Int := ((ordP (hangs L)).take k).foldl (stepR L N G) (pass1 L G 0)
theorem refV_succ (L : List CueR) (N G : List Int) (k : Nat) (h : k < (ordP (hangs L)).length) : refV L N G (k + 1) = stepR L N G (refV L N G k) (ig (ordP (hangs L)) k) := by
  unfold refV
  rw [List.take_add_one, ig_get h, List.foldl_append]
  rfl
theorem stepR_len (L : List CueR) (N G s : List Int) (i : Int) : (stepR L N G s i).length = s.length := by unfold stepR; simp
theorem refV_len (L : List CueR) (N G : List Int) (k : Nat) : (refV L N G k).length = L.length := by
  have main : ∀ (l s : List Int), s.length = L.length → (l.foldl (stepR L N G) s).length = L.length := by
    intro l
    induction l with
    | nil => exact fun s h => h
    | cons x r ih => exact fun s h => ih _ (by rw [stepR_len]; exact h)
  exact main _ _ (pass1_len _ _ _)

theorem pass2_manual {L : List CueR} (N G : List Int) (k : Nat) (hk : k ≤ (ordP (hangs L)).length) (m : Nat) (hm : m < L.length) (hl : (cg L m).link = 1) : ig (pass2 L N G k) m = ig G (manTo L m) + (cg L m).delay := by
  induction k with
  | zero => show ig (pass1 L G L.length) m = _; rw [pass1_at _ _ _ _ hm, if_pos ⟨hm, hl⟩]
  | succ k ih =>
    obtain ⟨j, hj, e⟩ := ord_in L k (by omega)
    rw [pass2_succ L N G k (by omega), e]
    unfold stepS
    rw [Int.toNat_natCast]
    split
    · exact ih (by omega)
    · next hl2 =>
      rw [ig_set _ _ _ _ (by rw [pass2_len]; exact hj), if_neg (fun e => hl2 (by rw [e]; exact hl))]
      exact ih (by omega)
/-- The two agree on what is done. -/
theorem agree {L : List CueR} {A : List (ByteArray × ByteArray)} (h : linkedB L A = true) (N G : List Int) : ∀ k, k ≤ (ordP (hangs L)).length → ∀ i, i < k → ig (pass2 L N G k) (ig (ordP (hangs L)) i).toNat = ig (refV L N G k) (ig (ordP (hangs L)) i).toNat := by
  intro k
  induction k with
  | zero => exact fun _ i hi => absurd hi (Nat.not_lt_zero _)
  | succ k ih =>
    intro hk i hi
    have hnd := (ord_at (hangs L)).1.nd
    obtain ⟨m, hm, em⟩ := ord_in L k (by omega)
    obtain ⟨m', em', hnx⟩ := ord_next (hangs L) k (by omega)
    obtain rfl : m' = m := by have := em'.symm.trans em; omega
    have hrd := ready_iff.1 (next_of hnx).2.1
    rw [hangs_at L m' hm] at hrd
    rw [pass2_succ L N G k (by omega), refV_succ L N G k (by omega), em]
    unfold stepS stepR
    rw [Int.toNat_natCast]
    -- the new one
    have hnew : ∀ v w : Int, v = w → i = k → ig ((pass2 L N G k).set m' v) (ig (ordP (hangs L)) i).toNat = ig ((refV L N G k).set m' w) (ig (ordP (hangs L)) i).toNat := by
      intro v w e e2
      subst e2
      rw [em, Int.toNat_natCast, ig_set _ _ _ _ (by rw [pass2_len]; exact hm), ig_set _ _ _ _ (by rw [refV_len]; exact hm), if_pos rfl, if_pos rfl, e]
    have hne : i ≠ k → m' ≠ (ig (ordP (hangs L)) i).toNat := by
      intro e e2
      obtain ⟨q, hq, eq⟩ := ord_in L i (by omega)
      have := nodup_at hnd (show i < k by omega) (by omega)
      rw [em, eq] at this
      rw [eq, Int.toNat_natCast] at e2
      exact this (by rw [e2])
    rcases (linked_cue h m' hm).2.2.2 with ⟨l1, _⟩ | ⟨_, l1, f, hf, hfa, _⟩
    · rw [if_pos l1, if_pos l1]
      by_cases e : i = k
      · subst e
        rw [em, Int.toNat_natCast, ig_set _ _ _ _ (by rw [refV_len]; exact hm), if_pos rfl]
        exact pass2_manual N G i (by omega) m' hm l1
      · rw [ig_set _ _ _ _ (by rw [refV_len]; exact hm), if_neg (hne e)]
        exact ih (by omega) i (by omega)
    · rw [if_neg l1, if_neg l1]
      rw [hang_other l1, hfa] at hrd
      by_cases e : i = k
      · refine hnew _ _ ?_ e
        obtain ⟨q, hq, _, eq⟩ := mem_take (hrd.2.resolve_left (by omega))
        have := ih (by omega) q hq
        rw [eq, Int.toNat_natCast] at this
        rw [hfa, Int.toNat_natCast, this]
      · rw [ig_set _ _ _ _ (by rw [pass2_len]; exact hm), ig_set _ _ _ _ (by rw [refV_len]; exact hm), if_neg (hne e), if_neg (hne e)]
        exact ih (by omega) i (by omega)
theorem refV_all {L : List CueR} {A : List (ByteArray × ByteArray)} (h : linkedB L A = true) (N G : List Int) (hl : (ordP (hangs L)).length = L.length) : refV L N G (ordP (hangs L)).length = startsV L N G := by
  refine ig_ext _ _ (by rw [refV_len]; unfold startsV; rw [pass2_len]) fun j hj => ?_
  rw [refV_len] at hj
  obtain ⟨h1, _⟩ := ord_at (hangs L)
  have hm := all_in L.length _ h1.nd (by have := h1.inn; rw [hangs_len] at this; exact this) hl j hj
  obtain ⟨i, hi, e⟩ := List.getElem_of_mem hm
  have := agree h N G _ (Nat.le_refl _) i hi
  rw [ig_eq _ i hi, e, Int.toNat_natCast] at this
  exact this.symm
/-- The reference's starts stay small. -/
theorem refV_small {L : List CueR} {A : List (ByteArray × ByteArray)} (h : linkedB L A = true) {N G : List Int} (hG : G.any wrongT = false) (hl : G.length = manTo L L.length) (hN : N.any wrongT = false) (hlN : N.length = L.length) (k : Nat) (hk : k ≤ (ordP (hangs L)).length) : Small (refV L N G k) (4294967296 * (k + 1)) := by
  induction k with
  | zero => exact fun i hi => ⟨(pass1_small h hG hl 0 i hi).1, by have := (pass1_small h hG hl 0 i hi).2; show ig (pass1 L G 0) i ≤ _; omega⟩
  | succ k ih =>
    have ih' := ih (by omega)
    obtain ⟨m, hm, e⟩ := ord_in L k (by omega)
    intro i hi
    rw [refV_len] at hi
    rw [refV_succ L N G k (by omega), e]
    unfold stepR
    rw [Int.toNat_natCast, ig_set _ _ _ _ (by rw [refV_len]; exact hm)]
    have hd := (linked_cue h m hm).2.2.1
    have b := ih' i (by rw [refV_len]; exact hi)
    rcases (linked_cue h m hm).2.2.2 with ⟨l1, _⟩ | ⟨_, l1, f, hf, ef, _⟩
    · rw [if_pos l1]
      have a := wrongT_no hG (manTo L m) (by rw [hl]; exact manTo_lt L m _ hm l1)
      split <;> omega
    · rw [if_neg l1, ef, Int.toNat_natCast]
      have a := ih' f (by rw [refV_len]; exact hf)
      have c := wrongT_no hN f (by rw [hlN]; exact hf)
      split
      · split <;> omega
      · omega
end Go.Proofs.Ytapjhjpibefooaa
