/-
  PLAIN: what the spots tell: each place is covered as often as its spot says; the lengths; the worst spot.
-/
import Derived.Test.YtfllfabinfmogaaSpotP
import Derived.Test.YtfllfabinfmogaaMem
namespace Go.Proofs.Ytfllfabinfmogaa

/-- What holds of the spots of some ascending places. -/
def SpotInv (L : List (Int × Int)) (K : List Int) (S : List (Int × Int)) : Prop :=
  (∀ i, i < S.length → (og S i).2 = cov L (og S i).1 ∧ (og S i).1 ∈ K) ∧
  (∀ i j, i < j → j < S.length → (og S i).1 < (og S j).1) ∧
  (∀ i, i + 1 < S.length → (og S i).2 ≠ (og S (i + 1)).2) ∧
  (∀ t ∈ K, ∀ i, i < S.length → (og S i).1 ≤ t → (i + 1 < S.length → t < (og S (i + 1)).1) → cov L t = (og S i).2) ∧
  (∀ k0 K', K = k0 :: K' → 0 < S.length ∧ (og S 0).1 = k0)
theorem last_og {S : List (Int × Int)} {p : Int × Int} (h : S.getLast? = some p) : 0 < S.length ∧ p = og S (S.length - 1) := by
  have hn : S ≠ [] := by intro e; rw [e] at h; cases h
  have hl : 0 < S.length := List.length_pos_iff.2 hn
  refine ⟨hl, ?_⟩
  rw [List.getLast?_eq_getElem?] at h
  unfold og
  rw [h]
  rfl
theorem inv_snoc {L : List (Int × Int)} {K : List Int} {S : List (Int × Int)} {t : Int} (h : SpotInv L K S) (hS : K = [] → S = []) (ht : ∀ z ∈ K, z < t) : SpotInv L (K ++ [t]) (spotS L S t) := by
  obtain ⟨a, b, c, d, e⟩ := h
  unfold spotS
  split
  · rename_i hn
    have hS0 : S = [] := by simpa using hn
    have hK : K = [] := by
      cases K with
      | nil => rfl
      | cons k0 K' => have := (e k0 K' rfl).1; rw [hS0] at this; simp at this
    subst hS0 hK
    refine ⟨fun i hi => ?_, fun i j hij hj => ?_, fun i hi => ?_, fun z hz i hi h1 h2 => ?_, fun k0 K' hk => ?_⟩
    · obtain rfl : i = 0 := by simpa using hi
      exact ⟨rfl, by simp [og]⟩
    · simp at hj; omega
    · simp at hi
    · obtain rfl : i = 0 := by simpa using hi
      simp at hz
      subst hz
      rfl
    · simp at hk
      exact ⟨by simp, hk.1⟩
  · rename_i p hp
    obtain ⟨hl, hpe⟩ := last_og hp
    split
    · rename_i hc
      refine ⟨fun i hi => ⟨(a i hi).1, List.mem_append_left _ (a i hi).2⟩, b, c, fun z hz i hi h1 h2 => ?_, fun k0 K' hk => ?_⟩
      · rcases List.mem_append.1 hz with hz | hz
        · exact d z hz i hi h1 h2
        · obtain rfl : z = t := by simpa using hz
          have hi2 : i = S.length - 1 := by
            rcases Nat.lt_or_ge (i + 1) S.length with l | l
            · have := h2 l; have := ht _ (a (i + 1) l).2; omega
            · omega
          rw [hi2, ← hpe]
          exact hc.symm
      · cases K with
        | nil => rw [hS rfl] at hl; simp at hl
        | cons k1 K1 =>
          simp at hk
          obtain ⟨rfl, _⟩ := hk
          exact e k1 K1 rfl
    · rename_i hc
      have old : ∀ i, i < S.length → og (S ++ [(t, cov L t)]) i = og S i := fun i hi => og_old S _ i hi
      have new : og (S ++ [(t, cov L t)]) S.length = (t, cov L t) := og_new S _
      refine ⟨fun i hi => ?_, fun i j hij hj => ?_, fun i hi => ?_, fun z hz i hi h1 h2 => ?_, fun k0 K' hk => ?_⟩
      · rcases (show i < S.length ∨ i = S.length by simp at hi; omega) with l | l
        · rw [old i l]; exact ⟨(a i l).1, List.mem_append_left _ (a i l).2⟩
        · rw [l, new]; exact ⟨rfl, by simp⟩
      · rcases (show j < S.length ∨ j = S.length by simp at hj; omega) with l | l
        · rw [old i (by omega), old j l]; exact b i j hij l
        · rw [old i (by omega), l, new]; exact ht _ (a i (by omega)).2
      · rcases (show i + 1 < S.length ∨ i + 1 = S.length by simp at hi; omega) with l | l
        · rw [old i (by omega), old (i + 1) l]; exact c i l
        · rw [old i (by omega), l, new]
          have hi2 : i = S.length - 1 := by omega
          rw [hi2, ← hpe]
          exact hc
      · rcases (show i < S.length ∨ i = S.length by simp at hi; omega) with l | l
        · rw [old i l] at h1 ⊢
          rcases List.mem_append.1 hz with hz | hz
          · refine d z hz i l h1 fun hi1 => ?_
            have := h2 (by simp; omega)
            rwa [old (i + 1) hi1] at this
          · obtain rfl : z = t := by simpa using hz
            exfalso
            have h3 := h2 (by simp; omega)
            rcases (show i + 1 < S.length ∨ i + 1 = S.length by omega) with l2 | l2
            · rw [old (i + 1) l2] at h3
              have := ht _ (a (i + 1) l2).2
              omega
            · rw [l2, new] at h3
              simp at h3
        · rw [l, new] at h1 ⊢
          rcases List.mem_append.1 hz with hz | hz
          · have := ht z hz; simp at h1; omega
          · obtain rfl : z = t := by simpa using hz
            rfl
      · cases K with
        | nil => rw [hS rfl] at hl; simp at hl
        | cons k1 K1 =>
          simp at hk
          obtain ⟨rfl, _⟩ := hk
          obtain ⟨q1, q2⟩ := e k1 K1 rfl
          exact ⟨by simp, by rw [old 0 q1]; exact q2⟩
theorem inv_take (L : List (Int × Int)) (K : List Int) (hK : K.Pairwise (· < ·)) : ∀ k, k ≤ K.length → SpotInv L (K.take k) (spotK L (K.take k)) ∧ (K.take k = [] → spotK L (K.take k) = [])
  | 0, _ => by
    refine ⟨⟨fun i hi => ?_, fun i j _ hj => ?_, fun i hi => ?_, fun z hz => ?_, fun k0 K' h => ?_⟩, fun _ => rfl⟩
    · simp [spotK] at hi
    · simp [spotK] at hj
    · simp [spotK] at hi
    · simp at hz
    · simp at h
  | k + 1, hk => by
    have ih := inv_take L K hK k (by omega)
    have e : K.take (k + 1) = K.take k ++ [K[k]] := List.take_succ_eq_append_getElem (by omega)
    rw [e, spotK_snoc]
    refine ⟨inv_snoc ih.1 ih.2 fun z hz => ?_, fun h => absurd h (List.append_ne_nil_of_right_ne_nil _ (List.cons_ne_nil _ _))⟩
    obtain ⟨j, hj, rfl⟩ := List.mem_iff_getElem.1 hz
    rw [List.getElem_take]
    have hj' : j < k := by rw [List.length_take] at hj; omega
    exact List.pairwise_iff_getElem.1 hK j k (by omega) (by omega) hj'
theorem spots_inv (len : Int) (L : List (Int × Int)) : SpotInv L (keysP len L) (spotsP len L) := by
  have h := (inv_take L (keysP len L) (keysP_incr len L) (keysP len L).length (Nat.le_refl _)).1
  rwa [List.take_length] at h

theorem covB_const {s : Int × Int} {k x : Int} (hk : k ≤ x) (h1 : ¬ (k < s.1 ∧ s.1 ≤ x)) (h2 : ¬ (k < s.2 ∧ s.2 ≤ x)) : covB x s = covB k s := by
  unfold covB
  rw [Bool.eq_iff_iff]
  simp
  omega
theorem cov_const {L : List (Int × Int)} {k x : Int} (hk : k ≤ x) (h : ∀ s ∈ L, ¬ (k < s.1 ∧ s.1 ≤ x) ∧ ¬ (k < s.2 ∧ s.2 ≤ x)) : cov L x = cov L k := by
  unfold cov
  rw [List.filter_congr fun s hs => covB_const hk (h s hs).1 (h s hs).2]
theorem max_le {x : Int} : ∀ (K : List Int), (∃ z ∈ K, z ≤ x) → ∃ k ∈ K, k ≤ x ∧ ∀ z ∈ K, z ≤ x → z ≤ k
  | [], h => by obtain ⟨z, hz, _⟩ := h; cases hz
  | y :: K, h => by
    by_cases c : ∃ z ∈ K, z ≤ x
    · obtain ⟨k, hk, kx, hm⟩ := max_le K c
      by_cases hy : y ≤ x ∧ k < y
      · refine ⟨y, List.mem_cons_self .., hy.1, fun z hz zx => ?_⟩
        rcases List.mem_cons.1 hz with e | e
        · omega
        · have := hm z e zx; omega
      · refine ⟨k, List.mem_cons_of_mem _ hk, kx, fun z hz zx => ?_⟩
        rcases List.mem_cons.1 hz with e | e
        · omega
        · exact hm z e zx
    · obtain ⟨z, hz, zx⟩ := h
      have hy : y ≤ x := by
        rcases List.mem_cons.1 hz with e | e
        · omega
        · exact absurd ⟨z, e, zx⟩ c
      refine ⟨y, List.mem_cons_self .., hy, fun z' hz' zx' => ?_⟩
      rcases List.mem_cons.1 hz' with e | e
      · omega
      · exact absurd ⟨z', e, zx'⟩ c
/-- Where the i-th spot ends. -/
def spotEnd (len : Int) (S : List (Int × Int)) (i : Nat) : Int := if i + 1 < S.length then (og S (i + 1)).1 else len
/-- EACH PLACE is covered as often as its spot says. -/
theorem spot_at {len : Int} {L : List (Int × Int)} {i : Nat} {x : Int} (hi : i < (spotsP len L).length) (h1 : (og (spotsP len L) i).1 ≤ x) (h2 : x < spotEnd len (spotsP len L) i) (hx : x < len) : cov L x = (og (spotsP len L) i).2 := by
  obtain ⟨a, b, c, d, e⟩ := spots_inv len L
  obtain ⟨k, hk, kx, hm⟩ := max_le (x := x) (keysP len L) ⟨_, (a i hi).2, h1⟩
  have hki : (og (spotsP len L) i).1 ≤ k := hm _ (a i hi).2 h1
  rw [← d k hk i hi hki fun hi1 => by unfold spotEnd at h2; rw [if_pos hi1] at h2; omega]
  refine cov_const kx fun s hs => ⟨fun ⟨p, q⟩ => ?_, fun ⟨p, q⟩ => ?_⟩
  · have := hm s.1 (keysP_mem.2 ⟨.inr ⟨s, hs, .inl rfl⟩, by omega⟩) q
    omega
  · have := hm s.2 (keysP_mem.2 ⟨.inr ⟨s, hs, .inr rfl⟩, by omega⟩) q
    omega
theorem keys_head {len : Int} {L : List (Int × Int)} (hl : 0 < len) (ok : ∀ s ∈ L, 0 ≤ s.1 ∧ 0 ≤ s.2) : ∃ K', keysP len L = 0 :: K' := by
  have h0 : (0 : Int) ∈ keysP len L := keysP_mem.2 ⟨.inl rfl, hl⟩
  have hi := keysP_incr len L
  cases hK : keysP len L with
  | nil => rw [hK] at h0; cases h0
  | cons k0 K' =>
    rw [hK] at h0 hi
    have hk0 : k0 ∈ keysP len L := by rw [hK]; exact List.mem_cons_self ..
    have hk : 0 ≤ k0 := by
      rcases (keysP_mem.1 hk0).1 with e | ⟨s, hs, e | e⟩
      · omega
      · have := (ok s hs).1; omega
      · have := (ok s hs).2; omega
    rw [List.pairwise_cons] at hi
    rcases List.mem_cons.1 h0 with e | e
    · exact ⟨K', by rw [e]⟩
    · have := hi.1 0 e; omega
theorem spot_bd {len : Int} {L : List (Int × Int)} {i : Nat} (ok : ∀ s ∈ L, 0 ≤ s.1 ∧ 0 ≤ s.2) (hi : i < (spotsP len L).length) : 0 ≤ (og (spotsP len L) i).1 ∧ (og (spotsP len L) i).1 < len ∧ 0 ≤ (og (spotsP len L) i).2 := by
  obtain ⟨a, _⟩ := spots_inv len L
  obtain ⟨h1, h2⟩ := a i hi
  have h3 := keysP_mem.1 h2
  refine ⟨?_, h3.2, by rw [h1]; exact cov_nonneg _ _⟩
  rcases h3.1 with e | ⟨s, hs, e | e⟩
  · omega
  · have := (ok s hs).1; omega
  · have := (ok s hs).2; omega
theorem spotEnd_gt {len : Int} {L : List (Int × Int)} {i : Nat} (ok : ∀ s ∈ L, 0 ≤ s.1 ∧ 0 ≤ s.2) (hi : i < (spotsP len L).length) : (og (spotsP len L) i).1 < spotEnd len (spotsP len L) i ∧ spotEnd len (spotsP len L) i ≤ len := by
  unfold spotEnd
  split
  · rename_i h
    exact ⟨(spots_inv len L).2.1 i (i + 1) (by omega) h, by have := (spot_bd ok h).2.1; omega⟩
  · have := (spot_bd ok hi).2.1; omega

/-- The lengths that are covered, up to a place. -/
def areaTo (L : List (Int × Int)) : Nat → Int
  | 0 => 0
  | n + 1 => areaTo L n + cov L n
theorem area_cons (s : Int × Int) (L : List (Int × Int)) (n : Nat) : areaTo (s :: L) n = areaTo L n + areaTo [s] n := by
  induction n with
  | zero => rfl
  | succ n ih =>
    simp only [areaTo, ih]
    rw [cov_cons L s, cov_cons [] s]
    simp only [cov_nil]
    omega
theorem area_one (s : Int × Int) (h0 : 0 ≤ s.1) (h1 : s.1 < s.2) (n : Nat) : areaTo [s] n = (if s.2 ≤ n then s.2 else n) - (if s.1 ≤ n then s.1 else n) := by
  induction n with
  | zero =>
    simp only [areaTo]
    split <;> split <;> omega
  | succ n ih =>
    simp only [areaTo, ih, cov_cons [] s, cov_nil, covB]
    by_cases a : s.1 ≤ (n : Int) <;> by_cases b : (n : Int) < s.2 <;> simp [a, b] <;> (repeat' split) <;> omega
def lensSum (L : List (Int × Int)) : Int := (L.map fun s => s.2 - s.1).sum
theorem area_all (L : List (Int × Int)) (n : Nat) (ok : SpansOK n L) : areaTo L n = lensSum L := by
  induction L with
  | nil =>
    induction n with
    | zero => rfl
    | succ n ih => simp only [areaTo]; rw [ih (fun s hs => by cases hs)]; rfl
  | cons s L ih =>
    have h := ok s (List.mem_cons_self ..)
    rw [area_cons, ih fun r hr => ok r (List.mem_cons_of_mem _ hr), area_one s h.1 h.2.1]
    rw [if_pos h.2.2, if_pos (by omega)]
    simp only [lensSum, List.map_cons, List.sum_cons]
    omega
theorem area_step (L : List (Int × Int)) (a n : Nat) (c : Int) (h : ∀ x : Int, a ≤ x → x < a + n → cov L x = c) : areaTo L (a + n) = areaTo L a + n * c := by
  induction n with
  | zero => simp
  | succ n ih =>
    have e : areaTo L (a + (n + 1)) = areaTo L (a + n) + cov L ((a + n : Nat) : Int) := rfl
    rw [e, ih fun x h1 h2 => h x h1 (by omega), h ((a + n : Nat) : Int) (by omega) (by omega)]
    have : ((n + 1 : Nat) : Int) * c = n * c + c := by rw [Int.natCast_succ, Int.add_mul, Int.one_mul]
    omega
/-- One spot further. -/
theorem area_spot {len : Int} {L : List (Int × Int)} {i : Nat} (ok : ∀ s ∈ L, 0 ≤ s.1 ∧ 0 ≤ s.2) (hi : i < (spotsP len L).length) :
    areaTo L (spotEnd len (spotsP len L) i).toNat = areaTo L (og (spotsP len L) i).1.toNat + (spotEnd len (spotsP len L) i - (og (spotsP len L) i).1) * (og (spotsP len L) i).2 := by
  obtain ⟨b1, b2, _⟩ := spot_bd ok hi
  obtain ⟨e1, e2⟩ := spotEnd_gt ok hi
  have h := area_step L (og (spotsP len L) i).1.toNat (spotEnd len (spotsP len L) i - (og (spotsP len L) i).1).toNat (og (spotsP len L) i).2 fun x h1 h2 => spot_at hi (by omega) (by omega) (by omega)
  rw [show (og (spotsP len L) i).1.toNat + (spotEnd len (spotsP len L) i - (og (spotsP len L) i).1).toNat = (spotEnd len (spotsP len L) i).toNat by omega] at h
  rw [h, Int.toNat_of_nonneg (by omega)]

/-- The worst of the first spots. -/
def worstTo (S : List (Int × Int)) : Nat → Nat
  | 0 => 0
  | k + 1 => if (og S (worstTo S k)).2 < (og S k).2 then k else worstTo S k
theorem worst_lt (S : List (Int × Int)) (k : Nat) : worstTo S k = 0 ∨ worstTo S k < k := by
  induction k with
  | zero => exact .inl rfl
  | succ k ih =>
    simp only [worstTo]
    split
    · exact .inr (by omega)
    · rcases ih with e | e
      · exact .inl e
      · exact .inr (by omega)
theorem worst_max (S : List (Int × Int)) (k : Nat) : ∀ j, j < k → (og S j).2 ≤ (og S (worstTo S k)).2 := by
  induction k with
  | zero => intro j h; omega
  | succ k ih =>
    intro j hj
    simp only [worstTo]
    rcases (show j < k ∨ j = k by omega) with l | l
    · have := ih j l
      split <;> omega
    · subst l
      split <;> omega
end Go.Proofs.Ytfllfabinfmogaa
