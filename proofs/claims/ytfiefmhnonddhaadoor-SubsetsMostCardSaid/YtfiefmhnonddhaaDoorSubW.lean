/-
  PLAIN: the order of a list changes neither its sums nor how many parts its balanced partitions have.
-/
import Derived.Test.YtfiefmhnonddhaaDoorSubV
namespace Go.Proofs.YtfiefmhnonddhaaDoor
/-- The sums of all subsets, as a property. -/
def InS : List Int → Int → Prop
  | [], x => x = 0
  | y :: r, x => InS r x ∨ InS r (x - y)
theorem inS_iff : ∀ (l : List Int) (x : Int), InS l x ↔ ∃ s, s < 2 ^ l.length ∧ sumN l s = x
  | [], x => ⟨fun h => ⟨0, by decide, by rw [h]; rfl⟩, fun ⟨s, _, e⟩ => e.symm⟩
  | y :: r, x => by
    show InS r x ∨ InS r (x - y) ↔ _
    rw [inS_iff r x, inS_iff r (x - y), List.length_cons, Nat.pow_succ]
    constructor
    · rintro (⟨s, h, e⟩ | ⟨s, h, e⟩)
      · refine ⟨2 * s, by omega, ?_⟩
        unfold sumN
        rw [if_neg (by omega), show 2 * s / 2 = s by omega]; exact e
      · refine ⟨2 * s + 1, by omega, ?_⟩
        unfold sumN
        rw [if_pos (by omega), show (2 * s + 1) / 2 = s by omega]; omega
    · rintro ⟨s, h, e⟩
      unfold sumN at e
      split at e
      · exact .inr ⟨s / 2, by omega, by omega⟩
      · exact .inl ⟨s / 2, by omega, e⟩
theorem inS_perm {l m : List Int} (h : l.Perm m) : ∀ x, InS l x ↔ InS m x := by
  induction h with
  | nil => exact fun _ => Iff.rfl
  | cons y _ ih => exact fun x => or_congr (ih x) (ih (x - y))
  | swap a b r =>
    intro x
    show ((InS r x ∨ InS r (x - a)) ∨ InS r (x - b) ∨ InS r (x - b - a)) ↔ ((InS r x ∨ InS r (x - b)) ∨ InS r (x - a) ∨ InS r (x - a - b))
    rw [show x - b - a = x - a - b by omega]
    constructor
    · rintro ((h | h) | h | h) <;> simp [h]
    · rintro ((h | h) | h | h) <;> simp [h]
  | trans _ _ i1 i2 => exact fun x => (i1 x).trans (i2 x)
theorem sum_neg : ∀ (l : List Int) (s : Nat), sumN (l.map fun x => -x) s = -sumN l s
  | [], _ => rfl
  | x :: r, s => by
    rw [List.map_cons]
    unfold sumN
    rw [sum_neg r (s / 2)]
    split <;> omega
/-- The subset of those numbers below n that have a property. -/
def maskN : Nat → (Nat → Bool) → Nat
  | 0, _ => 0
  | n + 1, p => maskN n p ||| (if p n = true then 2 ^ n else 0)
theorem mask_bit (p : Nat → Bool) : ∀ (n j : Nat), (maskN n p).testBit j = (decide (j < n) && p j)
  | 0, j => by simp [maskN]
  | n + 1, j => by
    unfold maskN
    rw [Nat.testBit_or, mask_bit p n j]
    by_cases e : j = n
    · subst e
      by_cases c : p j = true
      · simp [c]
      · simp [c]
    · have : decide (j < n + 1) = decide (j < n) := by
        by_cases q : j < n
        · rw [decide_eq_true q, decide_eq_true (by omega)]
        · rw [decide_eq_false q, decide_eq_false (by omega)]
      rw [this]
      have t : (if p n = true then 2 ^ n else 0 : Nat).testBit j = false := by
        split
        · rw [Nat.testBit_two_pow]; simp; omega
        · simp
      rw [t, Bool.or_false]
theorem bits_ext {a b : Nat} (h : ∀ j, a.testBit j = b.testBit j) : a = b := Nat.eq_of_testBit_eq h
theorem bit_lt {s n j : Nat} (h : s < 2 ^ n) (hj : s.testBit j = true) : j < n := by
  rcases Nat.lt_or_ge j n with l | l
  · exact l
  · rw [Nat.testBit_lt_two_pow (Nat.lt_of_lt_of_le h (Nat.pow_le_pow_right (by decide) l))] at hj; cases hj
theorem full_bit (n j : Nat) : (2 ^ n - 1).testBit j = decide (j < n) := Nat.testBit_two_pow_sub_one n j
/-- The sum over the numbers with an index of the subset. -/
def pairS : List (Int × Nat) → Nat → Int
  | [], _ => 0
  | x :: r, k => (if x.2 = k then x.1 else 0) + pairS r k
theorem pairS_perm {a b : List (Int × Nat)} (h : a.Perm b) (k : Nat) : pairS a k = pairS b k := by
  induction h with
  | nil => rfl
  | cons x _ ih => simp only [pairS, ih]
  | swap x y r => simp only [pairS]; omega
  | trans _ _ i1 i2 => exact i1.trans i2
theorem pairS_app (a b : List (Int × Nat)) (k : Nat) : pairS (a ++ b) k = pairS a k + pairS b k := by
  induction a with
  | nil => simp [pairS]
  | cons x r ih => rw [List.cons_append, pairS, pairS, ih]; omega
/-- Colours: a list's numbers, each with the number of its part. -/
def Coloured (l : List Int) (m : Nat) : Prop := ∃ L : List (Int × Nat), L.map Prod.fst = l ∧ (∀ x ∈ L, x.2 < m) ∧ ∀ k, k < m → (∃ x ∈ L, x.2 = k) ∧ pairS L k = 0
theorem lift_perm {l m : List Int} (h : l.Perm m) : ∀ L : List (Int × Nat), L.map Prod.fst = l → ∃ M, L.Perm M ∧ M.map Prod.fst = m := by
  induction h with
  | nil => intro L e; exact ⟨L, List.Perm.refl _, e⟩
  | cons x _ ih =>
    intro L e
    cases L with
    | nil => cases e
    | cons y r =>
      simp only [List.map_cons, List.cons.injEq] at e
      obtain ⟨M, p, q⟩ := ih r e.2
      exact ⟨y :: M, p.cons y, by rw [List.map_cons, q, e.1]⟩
  | swap a b r =>
    intro L e
    match L, e with
    | x :: y :: t, e =>
      simp only [List.map_cons, List.cons.injEq] at e
      exact ⟨y :: x :: t, List.Perm.swap y x t, by rw [List.map_cons, List.map_cons, e.1, e.2.1, e.2.2]⟩
  | trans _ _ i1 i2 =>
    intro L e
    obtain ⟨M, p, q⟩ := i1 L e
    obtain ⟨K, p2, q2⟩ := i2 M q
    exact ⟨K, p.trans p2, q2⟩
theorem coloured_perm {l l' : List Int} {m : Nat} (h : l.Perm l') (c : Coloured l m) : Coloured l' m := by
  obtain ⟨L, e, a, b⟩ := c
  obtain ⟨M, p, q⟩ := lift_perm h L e
  refine ⟨M, q, fun x hx => a x (p.mem_iff.2 hx), fun k hk => ?_⟩
  obtain ⟨⟨x, hx, ex⟩, z⟩ := b k hk
  exact ⟨⟨x, p.mem_iff.1 hx, ex⟩, by rw [← pairS_perm p]; exact z⟩
/-- The sum of a colour over an indexed list. -/
theorem pairS_sum : ∀ (l : List Int) (f : Nat → Nat) (k s : Nat), (∀ j, j < l.length → s.testBit j = decide (f j = k)) → pairS ((l.zipIdx).map fun x => (x.1, f x.2)) k = sumN l s := by
  have g : ∀ (l : List Int) (o : Nat) (f : Nat → Nat) (k s : Nat), (∀ j, j < l.length → s.testBit j = decide (f (o + j) = k)) → pairS ((l.zipIdx o).map fun x => (x.1, f x.2)) k = sumN l s := by
    intro l
    induction l with
    | nil => intro o f k s _; rfl
    | cons x r ih =>
      intro o f k s h
      rw [List.zipIdx_cons, List.map_cons, pairS]
      have i := ih (o + 1) f k (s / 2) (fun j hj => by
        have := h (j + 1) (by simpa using hj)
        rw [Nat.testBit_succ] at this
        rw [this, show o + (j + 1) = o + 1 + j by omega])
      rw [i]
      have h0 := h 0 (by simp)
      rw [Nat.testBit_zero, Nat.add_zero] at h0
      rw [show sumN (x :: r) s = if s % 2 = 1 then x + sumN r (s / 2) else sumN r (s / 2) from rfl]
      by_cases c : f o = k
      · rw [decide_eq_true c] at h0
        rw [if_pos c, if_pos (of_decide_eq_true h0)]
      · rw [decide_eq_false c] at h0
        rw [if_neg c, if_neg (of_decide_eq_false h0)]
        omega
  intro l f k s h
  exact g l 0 f k s fun j hj => by rw [Nat.zero_add]; exact h j hj
/-- From a partition to colours. -/
theorem part_col {Z : Nat → Prop} {u m : Nat} (h : PartN Z u m) : ∃ f : Nat → Nat, (∀ i, u.testBit i = true → f i < m) ∧ ∀ k, k < m → ∃ s, Z s ∧ s ≠ 0 ∧ ∀ i, s.testBit i = true ↔ u.testBit i = true ∧ f i = k := by
  induction h with
  | nil => exact ⟨fun _ => 0, fun i hi => by simp at hi, fun k hk => by omega⟩
  | @cons s i m s0 zs ds _ ih =>
    obtain ⟨f, f1, f2⟩ := ih
    refine ⟨fun j => if s.testBit j = true then m else f j, fun j hj => ?_, fun k hk => ?_⟩
    · simp only
      split
      · omega
      · rename_i c
        rw [Nat.testBit_or, Bool.or_eq_true] at hj
        have := f1 j (hj.resolve_left c)
        omega
    · by_cases e : k = m
      · subst e
        refine ⟨s, zs, s0, fun j => ?_⟩
        simp only [Nat.testBit_or, Bool.or_eq_true]
        constructor
        · intro h; exact ⟨.inl h, by rw [if_pos h]⟩
        · rintro ⟨h, q⟩
          by_cases c : s.testBit j = true
          · exact c
          · rw [if_neg c] at q
            have := f1 j (h.resolve_left c)
            omega
      · obtain ⟨t, zt, t0, ht⟩ := f2 k (by omega)
        refine ⟨t, zt, t0, fun j => ?_⟩
        simp only [Nat.testBit_or, Bool.or_eq_true]
        rw [ht j]
        constructor
        · rintro ⟨a, b⟩
          have : ¬ s.testBit j = true := fun c => ds j ⟨c, a⟩
          exact ⟨.inr a, by rw [if_neg this]; exact b⟩
        · rintro ⟨a, b⟩
          by_cases c : s.testBit j = true
          · rw [if_pos c] at b; omega
          · rw [if_neg c] at b
            exact ⟨a.resolve_left c, b⟩
theorem coloured_of {l : List Int} {m : Nat} (h : PartN (fun s => sumN l s = 0) (2 ^ l.length - 1) m) : Coloured l m := by
  obtain ⟨f, f1, f2⟩ := part_col h
  refine ⟨(l.zipIdx).map fun x => (x.1, f x.2), by simp [List.map_map, Function.comp_def], fun x hx => ?_, fun k hk => ?_⟩
  · obtain ⟨y, hy, e⟩ := List.mem_map.1 hx
    rw [← e]
    have := List.snd_lt_of_mem_zipIdx hy
    refine f1 y.2 ?_
    rw [full_bit, decide_eq_true (by omega)]
  · obtain ⟨s, zs, s0, hs⟩ := f2 k hk
    have hb : ∀ j, j < l.length → s.testBit j = decide (f j = k) := fun j hj => by
      have := hs j
      rw [full_bit, decide_eq_true hj] at this
      by_cases c : f j = k
      · rw [decide_eq_true c]; exact this.2 ⟨rfl, c⟩
      · rw [decide_eq_false c]
        cases q : s.testBit j
        · rfl
        · exact absurd (this.1 q).2 c
    refine ⟨?_, by rw [pairS_sum l f k s hb]; exact zs⟩
    obtain ⟨j, hj⟩ := bit_some s0
    have q := (hs j).1 hj
    rw [full_bit] at q
    have jl : j < l.length := of_decide_eq_true q.1
    exact ⟨(l[j], f j), List.mem_map.2 ⟨(l[j], j), by rw [List.mem_zipIdx_iff_getElem?]; exact List.getElem?_eq_getElem jl, rfl⟩, q.2⟩
/-- From colours to a partition. -/
theorem of_coloured {l : List Int} {m : Nat} (h : Coloured l m) : PartN (fun s => sumN l s = 0) (2 ^ l.length - 1) m := by
  obtain ⟨L, e, a, b⟩ := h
  have hl : L.length = l.length := by rw [← e, List.length_map]
  let f : Nat → Nat := fun i => ((L[i]?).getD (0, m)).2
  have eL : (l.zipIdx).map (fun x => (x.1, f x.2)) = L := by
    refine List.ext_getElem (by simp [hl]) fun i h1 h2 => ?_
    simp only [List.getElem_map, List.getElem_zipIdx, Nat.zero_add]
    have g : l[i]'(by omega) = (L[i]'h2).1 := by
      simp only [← e, List.getElem_map]
    rw [g]
    show ((L[i]'h2).1, ((L[i]?).getD (0, m)).2) = _
    rw [List.getElem?_eq_getElem h2]
    rfl
  have P : ∀ j, j ≤ m → PartN (fun s => sumN l s = 0) (maskN l.length fun i => decide (f i < j)) j := by
    intro j
    induction j with
    | zero =>
      intro _
      have : (maskN l.length fun i => decide (f i < 0)) = 0 := bits_ext fun j => by rw [mask_bit]; simp
      rw [this]
      exact PartN.nil
    | succ j ih =>
      intro hj
      obtain ⟨⟨x, hx, ex⟩, z⟩ := b j (by omega)
      have hz : sumN l (maskN l.length fun i => decide (f i = j)) = 0 := by
        rw [← pairS_sum l f j _ (fun i hi => by rw [mask_bit, decide_eq_true hi, Bool.true_and]), eL]
        exact z
      have h0 : (maskN l.length fun i => decide (f i = j)) ≠ 0 := fun q => by
        obtain ⟨i, hi, ei⟩ := List.getElem_of_mem hx
        have := congrArg (fun x => Nat.testBit x i) q
        simp only [mask_bit, Nat.zero_testBit] at this
        rw [decide_eq_true (by omega)] at this
        have fe : f i = j := by
          show ((L[i]?).getD (0, m)).2 = j
          rw [List.getElem?_eq_getElem hi, ei]
          exact ex
        rw [decide_eq_true fe] at this
        cases this
      have d : Dis (maskN l.length fun i => decide (f i = j)) (maskN l.length fun i => decide (f i < j)) := fun i ⟨p, q⟩ => by
        rw [mask_bit, Bool.and_eq_true, decide_eq_true_eq, decide_eq_true_eq] at p q
        omega
      have := PartN.cons h0 hz d (ih (by omega))
      have eq : (maskN l.length fun i => decide (f i = j)) ||| (maskN l.length fun i => decide (f i < j)) = maskN l.length fun i => decide (f i < j + 1) := bits_ext fun i => by
        rw [Nat.testBit_or, mask_bit, mask_bit, mask_bit]
        by_cases c : f i = j
        · simp [c]
        · by_cases c' : f i < j
          · simp [c, c', show f i < j + 1 by omega]
          · simp [c, c', show ¬ f i < j + 1 by omega]
      rwa [eq] at this
  have := P m (Nat.le_refl _)
  have full : (maskN l.length fun i => decide (f i < m)) = 2 ^ l.length - 1 := bits_ext fun i => by
    rw [mask_bit, full_bit]
    by_cases c : i < l.length
    · have : f i < m := by
        show ((L[i]?).getD (0, m)).2 < m
        rw [List.getElem?_eq_getElem (by omega)]
        exact a _ (List.getElem_mem _)
      simp [c, this]
    · simp [c]
  rwa [full] at this
theorem part_perm {l l' : List Int} {m : Nat} (h : l.Perm l') (p : PartN (fun s => sumN l s = 0) (2 ^ l.length - 1) m) : PartN (fun s => sumN l' s = 0) (2 ^ l'.length - 1) m := of_coloured (coloured_perm h (coloured_of p))
/-- A number that is added with its opposite makes a part more. -/
theorem part_more {l : List Int} {m : Nat} (x : Int) (p : PartN (fun s => sumN l s = 0) (2 ^ l.length - 1) m) : PartN (fun s => sumN (l ++ [x, -x]) s = 0) (2 ^ (l ++ [x, -x]).length - 1) (m + 1) := by
  obtain ⟨L, e, a, b⟩ := coloured_of p
  refine of_coloured ⟨L ++ [(x, m), (-x, m)], by simp [e], fun y hy => ?_, fun k hk => ?_⟩
  · rcases List.mem_append.1 hy with h | h
    · have := a y h; omega
    · simp only [List.mem_cons, List.not_mem_nil, or_false] at h
      rcases h with h | h <;> rw [h] <;> exact Nat.lt_succ_self m
  · rw [pairS_app]
    by_cases c : k = m
    · subst c
      have : pairS L k = 0 := by
        have g : ∀ M : List (Int × Nat), (∀ x ∈ M, x.2 < k) → pairS M k = 0 := by
          intro M
          induction M with
          | nil => intro _; rfl
          | cons y r ih =>
            intro h
            have := h y (by simp)
            rw [pairS, if_neg (by omega), ih fun z hz => h z (by simp [hz])]; rfl
        exact g L a
      refine ⟨⟨(x, k), by simp, rfl⟩, ?_⟩
      rw [this]
      simp [pairS]
      omega
    · obtain ⟨⟨y, hy, ey⟩, z⟩ := b k (by omega)
      refine ⟨⟨y, by simp [hy], ey⟩, ?_⟩
      rw [z]
      simp only [pairS]
      rw [if_neg (fun q => c q.symm), if_neg (fun q => c q.symm)]
      rfl
end Go.Proofs.YtfiefmhnonddhaaDoor
