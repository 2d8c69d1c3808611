/-
  PLAIN: the sums of the changes are the covers.
-/
import Derived.Test.YtfllfabinfmogaaSpotQ
namespace Go.Proofs.Ytfllfabinfmogaa

theorem chg_cons (L : List (Int × Int)) (s : Int × Int) (x : Int) : chg (s :: L) x = chg L x + (if s.1 = x then 1 else 0) - (if s.2 = x then 1 else 0) := by
  unfold chg
  by_cases h : s.1 = x <;> by_cases h' : s.2 = x <;> simp [h, h'] <;> omega
theorem chg_bd (L : List (Int × Int)) (x : Int) : -(L.length : Int) ≤ chg L x ∧ chg L x ≤ L.length := by
  unfold chg
  have a := List.length_filter_le (fun s : Int × Int => s.1 == x) L
  have b := List.length_filter_le (fun s : Int × Int => s.2 == x) L
  omega
/-- The sum of the changes at the first places. -/
def nTo (L : List (Int × Int)) (K : List Int) : Nat → Int
  | 0 => 0
  | k + 1 => nTo L K k + chg L (ig K k)
def hits (e : Int) (K : List Int) : Nat → Int
  | 0 => 0
  | k + 1 => hits e K k + if e = ig K k then 1 else 0
theorem nTo_nil (K : List Int) (k : Nat) : nTo [] K k = 0 := by
  induction k with
  | zero => rfl
  | succ k ih => simp only [nTo, ih]; rfl
theorem nTo_cons (L : List (Int × Int)) (s : Int × Int) (K : List Int) (k : Nat) : nTo (s :: L) K k = nTo L K k + hits s.1 K k - hits s.2 K k := by
  induction k with
  | zero => rfl
  | succ k ih => simp only [nTo, hits, ih, chg_cons]; omega
theorem ig_lt {K : List Int} (h : K.Pairwise (· < ·)) {i j : Nat} (hij : i < j) (hj : j < K.length) : ig K i < ig K j := by
  rw [ig_eq K i (by omega), ig_eq K j hj]
  exact List.pairwise_iff_getElem.1 h i j (by omega) hj hij
theorem hits_none {e : Int} {K : List Int} (k : Nat) (h : ∀ j, j < k → ig K j ≠ e) : hits e K k = 0 := by
  induction k with
  | zero => rfl
  | succ k ih => simp only [hits]; rw [ih fun j hj => h j (by omega), if_neg fun x => h k (by omega) x.symm]; rfl
theorem hits_one {e : Int} {K : List Int} (hK : K.Pairwise (· < ·)) (i : Nat) (hi : i < K.length) (he : ig K i = e) (k : Nat) (hk : k ≤ K.length) : hits e K k = if i < k then 1 else 0 := by
  induction k with
  | zero => rfl
  | succ k ih =>
    simp only [hits]
    rw [ih (by omega)]
    rcases Nat.lt_trichotomy i k with l | l | l
    · have := ig_lt hK l (by omega)
      rw [if_pos l, if_neg (by omega), if_pos (by omega)]
      rfl
    · subst l
      rw [if_neg (by omega), if_pos he.symm, if_pos (by omega)]
      rfl
    · have := ig_lt hK l hi
      rw [if_neg (by omega), if_neg (by omega), if_neg (by omega)]
      rfl
theorem hits_le {e : Int} {K : List Int} (hK : K.Pairwise (· < ·)) (he : e ∈ K) (k : Nat) (hk : k < K.length) : hits e K (k + 1) = if e ≤ ig K k then 1 else 0 := by
  obtain ⟨i, hi, h⟩ := List.mem_iff_getElem.1 he
  have hig : ig K i = e := by rw [ig_eq K i hi]; exact h
  rw [hits_one hK i hi hig (k + 1) (by omega)]
  rcases Nat.lt_trichotomy i k with l | l | l
  · have := ig_lt hK l hk
    rw [if_pos (by omega), if_pos (by omega)]
  · subst l
    rw [if_pos (by omega), if_pos (by omega)]
  · have := ig_lt hK l hi
    rw [if_neg (by omega), if_neg (by omega)]
theorem nTo_cov (K : List Int) (hK : K.Pairwise (· < ·)) (k : Nat) (hk : k < K.length) : ∀ (L : List (Int × Int)), (∀ s ∈ L, s.1 < s.2 ∧ s.1 ∈ K ∧ s.2 ∈ K) → nTo L K (k + 1) = cov L (ig K k)
  | [], _ => nTo_nil K (k + 1)
  | s :: L, h => by
    obtain ⟨h1, h2, h3⟩ := h s (List.mem_cons_self ..)
    rw [nTo_cons, cov_cons, nTo_cov K hK k hk L fun r hr => h r (List.mem_cons_of_mem _ hr), hits_le hK h2 k hk, hits_le hK h3 k hk]
    unfold covB
    by_cases a : s.1 ≤ ig K k <;> by_cases b : s.2 ≤ ig K k
    · rw [if_pos a, if_pos b, if_neg (by simp; omega)]; omega
    · rw [if_pos a, if_neg b, if_pos (by simp; omega)]; omega
    · omega
    · rw [if_neg a, if_neg b, if_neg (by simp; omega)]; omega
theorem nTo_keys {len : Int} {L : List (Int × Int)} (ok : SpansOK len L) (k : Nat) (hk : k < (keysF L).length) : nTo L (keysF L) (k + 1) = cov L (ig (keysF L) k) :=
  nTo_cov (keysF L) (keysF_incr L) k hk L fun s hs => ⟨(ok s hs).2.1, (keysF_mem L _).2 (.inr ⟨s, hs, .inl rfl⟩), (keysF_mem L _).2 (.inr ⟨s, hs, .inr rfl⟩)⟩
theorem nTo_bd (L : List (Int × Int)) (K : List Int) (k : Nat) : -((k * L.length : Nat) : Int) ≤ nTo L K k ∧ nTo L K k ≤ (k * L.length : Nat) := by
  induction k with
  | zero => simp [nTo]
  | succ k ih =>
    have := chg_bd L (ig K k)
    simp only [nTo]
    rw [Nat.succ_mul]
    omega
/-- The keys below the length are the first ones. -/
theorem keys_take {len : Int} {L : List (Int × Int)} (k : Nat) (h : ∀ j, j < k → ig (keysF L) j < len) (hk : k ≤ (keysF L).length) (h2 : k = (keysF L).length ∨ ig (keysF L) k = len) : keysP len L = (keysF L).take k := by
  refine incr_ext (keysP_incr len L) ((keysF_incr L).take) fun z => ?_
  rw [keysP, List.mem_filter]
  have hlt := @ig_lt _ (keysF_incr L)
  constructor
  · rintro ⟨hz, hl⟩
    obtain ⟨i, hi, e⟩ := List.mem_iff_getElem.1 hz
    have hig : ig (keysF L) i = z := by rw [ig_eq _ i hi]; exact e
    have hik : i < k := by
      rcases Nat.lt_or_ge i k with l | l
      · exact l
      · exfalso
        simp at hl
        rcases h2 with h2 | h2
        · omega
        · rcases Nat.lt_or_ge k i with q | q
          · have := hlt q hi; omega
          · have : i = k := by omega
            subst this
            omega
    exact List.mem_iff_getElem.2 ⟨i, by rw [List.length_take]; omega, by rw [List.getElem_take]; exact e⟩
  · intro hz
    obtain ⟨i, hi, e⟩ := List.mem_iff_getElem.1 hz
    rw [List.length_take] at hi
    rw [List.getElem_take] at e
    have hig : ig (keysF L) i = z := by rw [ig_eq _ i (by omega)]; exact e
    refine ⟨List.mem_iff_getElem.2 ⟨i, by omega, e⟩, ?_⟩
    have := h i (by omega)
    simp
    omega
end Go.Proofs.Ytfllfabinfmogaa
