/-
  PLAIN: the order of a sheet as it is made, the chain of a cue as it is made.
-/
import Derived.Test.YtapjhjpibefooaaBefore
namespace Go.Proofs.Ytapjhjpibefooaa

theorem pigeon (n : Nat) : ∀ l : List Int, l.Nodup → (∀ x ∈ l, 0 ≤ x ∧ x < n) → l.length ≤ n := by
  induction n with
  | zero =>
    intro l _ h
    cases l with
    | nil => exact Nat.le_refl _
    | cons x r => have := h x List.mem_cons_self; omega
  | succ n ih =>
    intro l hn h
    have h1 := ih (l.erase (n : Int)) (hn.erase _) fun x hx => by
      have hm := (List.Nodup.mem_erase_iff hn).1 hx
      have := h x hm.2
      have hne := hm.1
      omega
    have h2 : l.length ≤ (l.erase (n : Int)).length + 1 := by
      rw [List.length_erase]
      split <;> omega
    omega

/-- What hangs on what, within bounds. -/
def HangOK (hs : List Int) : Prop := ∀ k, k < hs.length → -1 ≤ ig hs k ∧ ig hs k < hs.length

/-! ### The chain -/
def chainF (hs : List Int) : Nat → List Int → Int → List Int × Bool
  | 0, out, _ => (out, false)
  | f + 1, out, i => if i < 0 then (out, true) else if i ∈ out then (out, false) else chainF hs f (out ++ [i]) (ig hs i.toNat)
def chainP (hs : List Int) (i : Int) : List Int × Bool := chainF hs (hs.length + 1) [] i
theorem snoc_nodup {out : List Int} {i : Int} (h : out.Nodup) (hi : i ∉ out) : (out ++ [i]).Nodup := by
  rw [List.nodup_append]
  refine ⟨h, List.pairwise_singleton _ _, fun a ha b hb => ?_⟩
  obtain rfl : b = i := by simpa using hb
  exact fun e => hi (e ▸ ha)
theorem snoc_in {n : Nat} {out : List Int} {i : Int} (h : ∀ x ∈ out, 0 ≤ x ∧ x < (n : Int)) (h0 : 0 ≤ i) (h1 : i < n) : ∀ x ∈ out ++ [i], 0 ≤ x ∧ x < (n : Int) := by
  intro x hx
  rcases List.mem_append.1 hx with h' | h'
  · exact h x h'
  · obtain rfl : x = i := by simpa using h'
    exact ⟨h0, h1⟩
/-- Where the making of a chain stands. -/
structure ChainAt (hs : List Int) (i0 : Int) (out : List Int) (i : Int) : Prop where
  nd : out.Nodup
  inn : ∀ x ∈ out, 0 ≤ x ∧ x < (hs.length : Int)
  lo : -1 ≤ i
  hi : i < hs.length
  eq : chainF hs (hs.length + 1 - out.length) out i = chainP hs i0
namespace ChainAt
variable {hs out : List Int} {i0 i : Int}
theorem start (h0 : -1 ≤ i0) (h1 : i0 < hs.length) : ChainAt hs i0 [] i0 := ⟨List.Pairwise.nil, (fun _ h => by cases h), h0, h1, rfl⟩
theorem len (h : ChainAt hs i0 out i) : out.length ≤ hs.length := pigeon _ _ h.nd h.inn
theorem fuel (h : ChainAt hs i0 out i) : ∃ f, hs.length + 1 - out.length = f + 1 ∧ hs.length - out.length = f := by
  have := h.len
  exact ⟨hs.length - out.length, by omega, rfl⟩
theorem ends (h : ChainAt hs i0 out i) (hi : i < 0) : chainP hs i0 = (out, true) := by
  obtain ⟨f, e, _⟩ := h.fuel
  rw [← h.eq, e]
  simp only [chainF]
  rw [if_pos hi]
theorem back (h : ChainAt hs i0 out i) (h0 : ¬ i < 0) (hi : i ∈ out) : chainP hs i0 = (out, false) := by
  obtain ⟨f, e, _⟩ := h.fuel
  rw [← h.eq, e]
  simp only [chainF]
  rw [if_neg h0, if_pos hi]
theorem next (h : ChainAt hs i0 out i) (hk : HangOK hs) (h0 : ¬ i < 0) (hi : i ∉ out) : ChainAt hs i0 (out ++ [i]) (ig hs i.toNat) := by
  obtain ⟨f, e, e2⟩ := h.fuel
  have hb := hk i.toNat (by have := h.hi; omega)
  refine ⟨snoc_nodup h.nd hi, snoc_in h.inn (by omega) h.hi, hb.1, hb.2, ?_⟩
  rw [← h.eq, e]
  simp only [chainF]
  rw [if_neg h0, if_neg hi, List.length_append, List.length_singleton, show hs.length + 1 - (out.length + 1) = f by omega]
end ChainAt

/-! ### The order -/
def readyB (hs : List Int) (out : List Int) (i : Nat) : Bool := !decide ((i : Int) ∈ out) && (decide (ig hs i < 0) || decide (ig hs i ∈ out))
def nextO (hs out : List Int) : Option Nat := (List.range hs.length).find? (readyB hs out)
def ordF (hs : List Int) : Nat → List Int → List Int
  | 0, out => out
  | f + 1, out => match nextO hs out with
    | none => out
    | some k => ordF hs f (out ++ [(k : Int)])
def ordP (hs : List Int) : List Int := ordF hs hs.length []
theorem next_none {hs out : List Int} (h : ∀ i, i < hs.length → readyB hs out i = false) : nextO hs out = none := by
  unfold nextO
  rw [List.find?_eq_none]
  intro x hx
  simpa using h x (by simpa using hx)
theorem next_some {hs out : List Int} (k : Nat) (hk : k < hs.length) (h : readyB hs out k = true) (hn : ∀ i, i < k → readyB hs out i = false) : nextO hs out = some k := by
  unfold nextO
  rw [List.find?_eq_some_iff_getElem]
  refine ⟨by simpa using h, k, by simpa using hk, by simp, fun j hj => ?_⟩
  simpa using hn j hj
theorem next_of {hs out : List Int} {k : Nat} (h : nextO hs out = some k) : k < hs.length ∧ readyB hs out k = true ∧ ∀ i, i < k → readyB hs out i = false := by
  unfold nextO at h
  rw [List.find?_eq_some_iff_getElem] at h
  obtain ⟨h1, i, hi, e, h2⟩ := h
  have hi' : i < hs.length := by simpa using hi
  obtain rfl : i = k := by simpa using e
  exact ⟨hi', by simpa using h1, fun j hj => by simpa using h2 j hj⟩
theorem ordF_none {hs out : List Int} (h : nextO hs out = none) (f : Nat) : ordF hs f out = out := by
  cases f with
  | zero => rfl
  | succ f => simp only [ordF]; rw [h]
structure OrdAt (hs out : List Int) : Prop where
  nd : out.Nodup
  inn : ∀ x ∈ out, 0 ≤ x ∧ x < (hs.length : Int)
  eq : ordF hs (hs.length - out.length) out = ordP hs
namespace OrdAt
variable {hs out : List Int}
theorem start (hs : List Int) : OrdAt hs [] := ⟨List.Pairwise.nil, (fun _ h => by cases h), rfl⟩
theorem len (h : OrdAt hs out) : out.length ≤ hs.length := pigeon _ _ h.nd h.inn
theorem ready_not {k : Nat} (h : readyB hs out k = true) : (k : Int) ∉ out := by
  unfold readyB at h
  simp only [Bool.and_eq_true, Bool.not_eq_true', decide_eq_false_iff_not] at h
  exact h.1
theorem ends (h : OrdAt hs out) (hn : nextO hs out = none) : ordP hs = out := by rw [← h.eq]; exact ordF_none hn _
theorem next (h : OrdAt hs out) (k : Nat) (hn : nextO hs out = some k) : OrdAt hs (out ++ [(k : Int)]) ∧ out.length < hs.length := by
  obtain ⟨hk, hr, _⟩ := next_of hn
  have h1 := snoc_nodup h.nd (ready_not hr)
  have h2 := snoc_in h.inn (Int.natCast_nonneg k) (by omega)
  have h3 := pigeon _ _ h1 h2
  rw [List.length_append, List.length_singleton] at h3
  refine ⟨⟨h1, h2, ?_⟩, by omega⟩
  rw [← h.eq, List.length_append, List.length_singleton, show hs.length - out.length = (hs.length - (out.length + 1)) + 1 by omega]
  simp only [ordF]
  rw [hn]
end OrdAt
/-- Which cues are done, as a list of bools. -/
def doneL (n : Nat) (out : List Int) : List Bool := (List.range n).map fun i : Nat => decide ((i : Int) ∈ out)
theorem doneL_len (n : Nat) (out : List Int) : (doneL n out).length = n := by simp [doneL]
theorem doneL_at (n : Nat) (out : List Int) (i : Nat) (h : i < n) : bg (doneL n out) i = decide ((i : Int) ∈ out) := by
  unfold bg doneL
  rw [List.getElem?_map, List.getElem?_range h]
  rfl
theorem doneL_set (n : Nat) (out : List Int) (k : Nat) : (bflat (doneL n out)).set k (.bool true) = bflat (doneL n (out ++ [(k : Int)])) := by
  have e : ∀ l : List Bool, bflat l = l.map Value.bool := fun l => by
    induction l with
    | nil => rfl
    | cons x r ih => rw [List.map_cons, ← ih]; rfl
  rw [e, e]
  unfold doneL
  refine List.ext_getElem? fun i => ?_
  rw [List.getElem?_set]
  simp only [List.length_map, List.length_range, List.getElem?_map]
  by_cases h : k = i
  · subst h
    by_cases hk : k < n
    · simp [hk]
    · simp [hk]
  · rw [if_neg h]
    by_cases hi : i < n
    · rw [List.getElem?_range hi]
      have : ¬ ((i : Int) = (k : Int)) := by omega
      simp [this]
    · rw [List.getElem?_eq_none (by simpa using hi)]; rfl
theorem doneL_nil (n : Nat) : bflat (doneL n []) = List.replicate n (.bool false) := by
  induction n with
  | zero => rfl
  | succ n ih =>
    have e : doneL (n + 1) [] = doneL n [] ++ [false] := by unfold doneL; rw [List.range_succ, List.map_append]; rfl
    rw [e, bflat_snoc, ih, List.replicate_succ']
theorem hang_ok (L : List CueR) : HangOK (hangs L) := by
  intro k hk
  rw [hangs_len] at hk ⊢
  have e : ig (hangs L) k = hangI L k := by
    unfold ig hangs hangsTo
    rw [List.getElem?_map, List.getElem?_range hk]
    rfl
  rw [e]
  unfold hangI
  split
  · omega
  · rcases cue_first_cases L (fun r => decide (r.name = (cg L k).after)) with ⟨e1, _⟩ | ⟨j, hj, e1, _⟩
    · have e1' : findI L (cg L k).after = -1 := e1
      omega
    · have e1' : findI L (cg L k).after = j := e1
      omega
theorem hangs_at (L : List CueR) (k : Nat) (hk : k < L.length) : ig (hangs L) k = hangI L k := by
  unfold ig hangs hangsTo
  rw [List.getElem?_map, List.getElem?_range hk]
  rfl
end Go.Proofs.Ytapjhjpibefooaa
