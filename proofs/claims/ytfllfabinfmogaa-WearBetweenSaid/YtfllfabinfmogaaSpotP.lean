/-
  PLAIN: the spots of spans on a rope: how often each place is covered.
-/
import Derived.Test.YtfllfabinfmogaaRows
namespace Go.Proofs.Ytfllfabinfmogaa

/-- How many spans cover a place. -/
def covB (x : Int) (s : Int × Int) : Bool := decide (s.1 ≤ x) && decide (x < s.2)
def cov (L : List (Int × Int)) (x : Int) : Int := ((L.filter (covB x)).length : Int)
/-- How many spans begin, and end, at a place. -/
def chg (L : List (Int × Int)) (x : Int) : Int := ((L.filter fun s => s.1 == x).length : Int) - ((L.filter fun s => s.2 == x).length : Int)
/-- Spans on a rope. -/
def SpansOK (len : Int) (L : List (Int × Int)) : Prop := ∀ s ∈ L, 0 ≤ s.1 ∧ s.1 < s.2 ∧ s.2 ≤ len
theorem cov_nil (x : Int) : cov [] x = 0 := rfl
theorem cov_snoc (L : List (Int × Int)) (s : Int × Int) (x : Int) : cov (L ++ [s]) x = cov L x + if covB x s then 1 else 0 := by
  unfold cov
  rw [List.filter_append]
  by_cases h : covB x s = true <;> simp [h]
theorem cov_cons (L : List (Int × Int)) (s : Int × Int) (x : Int) : cov (s :: L) x = cov L x + if covB x s then 1 else 0 := by
  unfold cov
  by_cases h : covB x s = true <;> simp [h]
theorem cov_nonneg (L : List (Int × Int)) (x : Int) : 0 ≤ cov L x := Int.natCast_nonneg _
theorem chg_snoc (L : List (Int × Int)) (s : Int × Int) (x : Int) : chg (L ++ [s]) x = chg L x + (if s.1 = x then 1 else 0) - (if s.2 = x then 1 else 0) := by
  unfold chg
  rw [List.filter_append, List.filter_append, List.length_append, List.length_append]
  by_cases h : s.1 = x <;> by_cases h' : s.2 = x <;> simp [h, h'] <;> omega

/-- The sorted list of all ends, and 0. -/
def insK (x : Int) : List Int → List Int
  | [] => [x]
  | y :: t => if x < y then x :: y :: t else if x = y then y :: t else y :: insK x t
theorem insK_mem (x z : Int) (K : List Int) : z ∈ insK x K ↔ z = x ∨ z ∈ K := by
  induction K with
  | nil => simp [insK]
  | cons y t ih =>
    unfold insK
    split
    · simp
    · split
      · rename_i h1 h2
        subst h2
        simp
      · simp only [List.mem_cons, ih]
        constructor
        · rintro (h | h | h)
          · exact .inr (.inl h)
          · exact .inl h
          · exact .inr (.inr h)
        · rintro (h | h | h)
          · exact .inr (.inl h)
          · exact .inl h
          · exact .inr (.inr h)
theorem insK_incr (x : Int) (K : List Int) (h : K.Pairwise (· < ·)) : (insK x K).Pairwise (· < ·) := by
  induction K with
  | nil => simp [insK]
  | cons y t ih =>
    unfold insK
    rw [List.pairwise_cons] at h
    split
    · rename_i h1
      rw [List.pairwise_cons]
      refine ⟨fun z hz => ?_, List.pairwise_cons.2 h⟩
      rcases List.mem_cons.1 hz with e | e
      · omega
      · have := h.1 z e; omega
    · split
      · exact List.pairwise_cons.2 h
      · rw [List.pairwise_cons]
        refine ⟨fun z hz => ?_, ih h.2⟩
        rcases (insK_mem x z t).1 hz with e | e
        · omega
        · exact h.1 z e
theorem insK_len (x : Int) (K : List Int) : (insK x K).length ≤ K.length + 1 := by
  induction K with
  | nil => simp [insK]
  | cons y t ih =>
    unfold insK
    split
    · simp
    · split
      · simp
      · simp only [List.length_cons]; omega
def keysF : List (Int × Int) → List Int
  | [] => [0]
  | s :: t => insK s.2 (insK s.1 (keysF t))
theorem keysF_mem (L : List (Int × Int)) (z : Int) : z ∈ keysF L ↔ z = 0 ∨ ∃ s ∈ L, s.1 = z ∨ s.2 = z := by
  induction L with
  | nil => simp [keysF]
  | cons s t ih =>
    simp only [keysF, insK_mem, ih, List.mem_cons]
    constructor
    · rintro (h | h | h | ⟨r, hr, h⟩)
      · exact .inr ⟨s, .inl rfl, .inr h.symm⟩
      · exact .inr ⟨s, .inl rfl, .inl h.symm⟩
      · exact .inl h
      · exact .inr ⟨r, .inr hr, h⟩
    · rintro (h | ⟨r, rfl | hr, h | h⟩)
      · exact .inr (.inr (.inl h))
      · exact .inr (.inl h.symm)
      · exact .inl h.symm
      · exact .inr (.inr (.inr ⟨r, hr, .inl h⟩))
      · exact .inr (.inr (.inr ⟨r, hr, .inr h⟩))
theorem keysF_incr (L : List (Int × Int)) : (keysF L).Pairwise (· < ·) := by
  induction L with
  | nil => simp [keysF]
  | cons s t ih => exact insK_incr _ _ (insK_incr _ _ ih)
theorem keysF_len (L : List (Int × Int)) : (keysF L).length ≤ 2 * L.length + 1 := by
  induction L with
  | nil => simp [keysF]
  | cons s t ih =>
    have a := insK_len s.2 (insK s.1 (keysF t))
    have b := insK_len s.1 (keysF t)
    simp only [keysF, List.length_cons]
    omega
/-- The places at which the cover may change, on the rope. -/
def keysP (len : Int) (L : List (Int × Int)) : List Int := (keysF L).filter fun x => decide (x < len)
theorem keysP_mem {len : Int} {L : List (Int × Int)} {z : Int} : z ∈ keysP len L ↔ (z = 0 ∨ ∃ s ∈ L, s.1 = z ∨ s.2 = z) ∧ z < len := by
  unfold keysP
  rw [List.mem_filter, keysF_mem]
  simp
theorem keysP_incr (len : Int) (L : List (Int × Int)) : (keysP len L).Pairwise (· < ·) := (keysF_incr L).filter _
theorem keysP_len (len : Int) (L : List (Int × Int)) : (keysP len L).length ≤ 2 * L.length + 1 := Nat.le_trans (List.length_filter_le _ _) (keysF_len L)

/-- Two strictly ascending lists with the same members are the same. -/
theorem incr_ext : ∀ {A B : List Int}, A.Pairwise (· < ·) → B.Pairwise (· < ·) → (∀ z, z ∈ A ↔ z ∈ B) → A = B
  | [], [], _, _, _ => rfl
  | [], b :: B, _, _, h => by have := (h b).2 (List.mem_cons_self ..); cases this
  | a :: A, [], _, _, h => by have := (h a).1 (List.mem_cons_self ..); cases this
  | a :: A, b :: B, hA, hB, h => by
    rw [List.pairwise_cons] at hA hB
    have e : a = b := by
      have h1 := (h a).1 (List.mem_cons_self ..)
      have h2 := (h b).2 (List.mem_cons_self ..)
      rcases List.mem_cons.1 h1 with e | e
      · exact e
      · rcases List.mem_cons.1 h2 with e' | e'
        · exact e'.symm
        · have := hB.1 a e; have := hA.1 b e'; omega
    subst e
    rw [incr_ext hA.2 hB.2]
    intro z
    constructor
    · intro hz
      rcases List.mem_cons.1 ((h z).1 (List.mem_cons_of_mem _ hz)) with e | e
      · have := hA.1 z hz; omega
      · exact e
    · intro hz
      rcases List.mem_cons.1 ((h z).2 (List.mem_cons_of_mem _ hz)) with e | e
      · have := hB.1 z hz; omega
      · exact e

/-- One more key: the spots so far. -/
def spotS (L : List (Int × Int)) (out : List (Int × Int)) (t : Int) : List (Int × Int) :=
  match out.getLast? with
  | none => [(t, cov L t)]
  | some p => if p.2 = cov L t then out else out ++ [(t, cov L t)]
def spotK (L : List (Int × Int)) (K : List Int) : List (Int × Int) := K.foldl (spotS L) []
theorem spotK_snoc (L : List (Int × Int)) (K : List Int) (t : Int) : spotK L (K ++ [t]) = spotS L (spotK L K) t := by simp [spotK]
def spotsP (len : Int) (L : List (Int × Int)) : List (Int × Int) := spotK L (keysP len L)
theorem spotS_len (L out : List (Int × Int)) (t : Int) : (spotS L out t).length ≤ out.length + 1 := by
  unfold spotS
  split
  · simp
  · split <;> simp
theorem spotK_len (L : List (Int × Int)) (K : List Int) : (spotK L K).length ≤ K.length := by
  unfold spotK
  suffices h : ∀ (K : List Int) (o : List (Int × Int)), (K.foldl (spotS L) o).length ≤ o.length + K.length by simpa using h K []
  intro K
  induction K with
  | nil => simp
  | cons t K ih =>
    intro o
    have a := ih (spotS L o t)
    have b := spotS_len L o t
    simp only [List.foldl_cons, List.length_cons]
    omega
end Go.Proofs.Ytfllfabinfmogaa
