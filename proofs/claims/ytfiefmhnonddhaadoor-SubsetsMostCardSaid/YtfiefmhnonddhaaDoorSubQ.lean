/-
  PLAIN: the first subset with a sum; all sums; the nearest sum; sums come in pairs.
-/
import Derived.Test.YtfiefmhnonddhaaDoorSubP
namespace Go.Proofs.YtfiefmhnonddhaaDoor
theorem ltL_ext : ∀ l1 l2 : List Int, l1.Pairwise (· < ·) → l2.Pairwise (· < ·) → (∀ x, x ∈ l1 ↔ x ∈ l2) → l1 = l2
  | [], [], _, _, _ => rfl
  | [], y :: b, _, _, h => absurd ((h y).2 (by simp)) (by simp)
  | x :: a, [], _, _, h => absurd ((h x).1 (by simp)) (by simp)
  | x :: a, y :: b, h1, h2, h => by
    have p1 := List.pairwise_cons.1 h1
    have p2 := List.pairwise_cons.1 h2
    have e : x = y := by
      rcases List.mem_cons.1 ((h x).1 (by simp)) with e | e
      · exact e
      · rcases List.mem_cons.1 ((h y).2 (by simp)) with g | g
        · exact g.symm
        · have := p1.1 y g
          have := p2.1 x e
          omega
    subst e
    rw [ltL_ext a b p1.2 p2.2 fun z => ?_]
    constructor
    · intro hz
      rcases List.mem_cons.1 ((h z).1 (List.mem_cons_of_mem _ hz)) with e | e
      · have := p1.1 z hz; omega
      · exact e
    · intro hz
      rcases List.mem_cons.1 ((h z).2 (List.mem_cons_of_mem _ hz)) with e | e
      · have := p2.1 z hz; omega
      · exact e
def goodB (l : List Int) (sum least : Int) (i : Nat) : Bool := decide (sumN l i = sum) && decide (least ≤ (sizN l.length i : Int))
def betterB (n : Nat) (st : Nat × Bool) (i : Nat) : Bool := !st.2 || (decide (sizN n i < sizN n st.1) || (decide (sizN n i = sizN n st.1) && befN n i st.1))
/-- The search for the first subset with a sum, of at least some size: what is found among the first i subsets. -/
def fstTo (l : List Int) (sum least : Int) : Nat → Nat × Bool
  | 0 => (0, false)
  | i + 1 => if goodB l sum least i = true ∧ betterB l.length (fstTo l sum least i) i = true then (i, true) else fstTo l sum least i
/-- The same as the reference has it. -/
def rfstTo (l : List Int) (sum least : Int) : Nat → Int
  | 0 => -1
  | i + 1 => if (sizN l.length i : Int) < least ∨ sumN l i ≠ sum then rfstTo l sum least i else
    if rfstTo l sum least i < 0 ∨ sizN l.length i < sizN l.length (rfstTo l sum least i).toNat ∨ (sizN l.length i = sizN l.length (rfstTo l sum least i).toNat ∧ earlB (idxN l.length 0 i) (idxN l.length 0 (rfstTo l sum least i).toNat) = true) then i else rfstTo l sum least i
theorem rfst_eq (l : List Int) (sum least : Int) (i : Nat) : rfstTo l sum least i = if (fstTo l sum least i).2 = true then ((fstTo l sum least i).1 : Int) else -1 := by
  induction i with
  | zero => rfl
  | succ i ih =>
    rw [rfstTo, fstTo, ih]
    generalize fstTo l sum least i = st
    obtain ⟨b, o⟩ := st
    by_cases g : (sizN l.length i : Int) < least ∨ sumN l i ≠ sum
    · have : goodB l sum least i = false := by
        unfold goodB
        rcases g with g | g
        · rw [decide_eq_false (show ¬ least ≤ (sizN l.length i : Int) by omega), Bool.and_false]
        · rw [decide_eq_false g]; rfl
      rw [if_pos g, this]
      simp
    · have hg : goodB l sum least i = true := by
        unfold goodB
        rw [not_or] at g
        rw [decide_eq_true (show sumN l i = sum from Classical.not_not.1 g.2), decide_eq_true (show least ≤ (sizN l.length i : Int) by omega)]
        rfl
      rw [if_neg g, hg]
      cases o with
      | false =>
        simp [betterB]
      | true =>
        simp only [betterB, Bool.not_true, Bool.false_or, if_true, true_and, Bool.or_eq_true, Bool.and_eq_true, decide_eq_true_eq, Int.toNat_natCast]
        have nb : ¬ (b : Int) < 0 := by omega
        simp only [nb, false_or]
        by_cases c : sizN l.length i = sizN l.length b
        · rw [bef_earl l.length 0 i b c]
          split <;> rfl
        · simp only [c, false_and, or_false]
          split <;> rfl
theorem fst_lt (l : List Int) (sum least : Int) (i : Nat) : (fstTo l sum least i).2 = true → (fstTo l sum least i).1 < i ∧ goodB l sum least (fstTo l sum least i).1 = true := by
  induction i with
  | zero => intro h; cases h
  | succ i ih =>
    rw [fstTo]
    split
    · rename_i c; exact fun _ => ⟨by simp, c.1⟩
    · intro h; have := ih h; exact ⟨by omega, this.2⟩
theorem fst_some (l : List Int) (sum least : Int) (i : Nat) : (fstTo l sum least i).2 = true ↔ ∃ s, s < i ∧ goodB l sum least s = true := by
  constructor
  · intro h; exact ⟨_, fst_lt l sum least i h⟩
  · induction i with
    | zero => rintro ⟨s, h, _⟩; omega
    | succ i ih =>
      rintro ⟨s, h, g⟩
      rw [fstTo]
      split
      · rfl
      · rename_i c
        rcases Nat.lt_or_ge s i with k | k
        · exact ih ⟨s, k, g⟩
        · obtain rfl : s = i := by omega
          cases e : (fstTo l sum least s).2
          · exact absurd ⟨g, by unfold betterB; rw [e]; rfl⟩ c
          · rfl
/-- All sums, subset after subset. -/
def allS (l : List Int) : List Int := (List.range (2 ^ l.length)).map (sumN l)
theorem allS_len (l : List Int) : (allS l).length = 2 ^ l.length := by simp [allS]
theorem allS_at (l : List Int) (i : Nat) (h : i < 2 ^ l.length) : (allS l)[i]? = some (sumN l i) := by simp [allS, List.getElem?_map, List.getElem?_range h]
theorem allS_mem (l : List Int) (x : Int) : x ∈ allS l ↔ ∃ s, s < 2 ^ l.length ∧ sumN l s = x := by simp [allS]
/-- The reference's list of sums: set in, one after the other. -/
def insU (x : Int) : List Int → List Int
  | [] => [x]
  | y :: r => if y < x then y :: insU x r else if y = x then y :: r else x :: y :: r
theorem insU_mem (x z : Int) : ∀ r, z ∈ insU x r ↔ z = x ∨ z ∈ r
  | [] => by simp [insU]
  | y :: r => by
    unfold insU
    split
    · rw [List.mem_cons, insU_mem x z r, List.mem_cons]
      constructor
      · rintro (h | h | h) <;> simp [h]
      · rintro (h | h | h) <;> simp [h]
    · split
      · rename_i e; subst e; simp
      · simp
theorem insU_lt (x : Int) : ∀ r : List Int, r.Pairwise (· < ·) → (insU x r).Pairwise (· < ·)
  | [], _ => by simp [insU]
  | y :: r, h => by
    have p := List.pairwise_cons.1 h
    unfold insU
    split
    · refine List.pairwise_cons.2 ⟨fun z hz => ?_, insU_lt x r p.2⟩
      rcases (insU_mem x z r).1 hz with e | e
      · omega
      · exact p.1 z e
    · split
      · exact h
      · refine List.pairwise_cons.2 ⟨fun z hz => ?_, h⟩
        rcases List.mem_cons.1 hz with e | e
        · omega
        · have := p.1 z e; omega
def rsumsTo (l : List Int) : Nat → List Int
  | 0 => []
  | i + 1 => insU (sumN l i) (rsumsTo l i)
theorem rsums_ok (l : List Int) (i : Nat) : (rsumsTo l i).Pairwise (· < ·) ∧ ∀ x, x ∈ rsumsTo l i ↔ ∃ s, s < i ∧ sumN l s = x := by
  induction i with
  | zero => exact ⟨List.Pairwise.nil, fun x => by simp [rsumsTo]⟩
  | succ i ih =>
    refine ⟨insU_lt _ _ ih.1, fun x => ?_⟩
    rw [rsumsTo, insU_mem, ih.2]
    constructor
    · rintro (h | ⟨s, h, e⟩)
      · exact ⟨i, by omega, h.symm⟩
      · exact ⟨s, by omega, e⟩
    · rintro ⟨s, h, e⟩
      rcases Nat.lt_or_ge s i with k | k
      · exact .inr ⟨s, k, e⟩
      · obtain rfl : s = i := by omega
        exact .inl e.symm
/-- The distance of two numbers. -/
def farI (a b : Int) : Int := max (a - b) (b - a)
/-- The nearest of a list: the smaller one of two that are as near. -/
def nearStep (sum best n : Int) : Int := if farI n sum < farI best sum ∨ (farI n sum = farI best sum ∧ n < best) then n else best
def Nearest (S : List Int) (sum m : Int) : Prop := m ∈ S ∧ ∀ x ∈ S, farI m sum < farI x sum ∨ (farI m sum = farI x sum ∧ m ≤ x)
theorem nearest_unique {S : List Int} {sum a b : Int} (ha : Nearest S sum a) (hb : Nearest S sum b) : a = b := by
  have h1 := ha.2 b hb.1
  have h2 := hb.2 a ha.1
  omega
theorem nearest_same {S T : List Int} {sum m : Int} (h : ∀ x, x ∈ S ↔ x ∈ T) (n : Nearest S sum m) : Nearest T sum m := ⟨(h m).1 n.1, fun x hx => n.2 x ((h x).2 hx)⟩
def nearTo (S : List Int) (sum : Int) : Nat → Int
  | 0 => (S[0]?).getD 0
  | i + 1 => nearStep sum (nearTo S sum i) ((S[i]?).getD 0)
theorem near_ok (S : List Int) (sum : Int) (h0 : 0 < S.length) (i : Nat) (hi : i ≤ S.length) : nearTo S sum i ∈ S ∧ ∀ k, k < i → ∀ x, S[k]? = some x → farI (nearTo S sum i) sum < farI x sum ∨ (farI (nearTo S sum i) sum = farI x sum ∧ nearTo S sum i ≤ x) := by
  induction i with
  | zero => exact ⟨by unfold nearTo; rw [List.getElem?_eq_getElem h0]; exact List.getElem_mem h0, fun k hk => absurd hk (Nat.not_lt_zero _)⟩
  | succ i ih =>
    obtain ⟨i1, i2⟩ := ih (by omega)
    have hx : (S[i]?).getD 0 ∈ S := by rw [List.getElem?_eq_getElem (by omega)]; exact List.getElem_mem (by omega)
    rw [nearTo]
    unfold nearStep
    split
    · rename_i c
      refine ⟨hx, fun k hk x hkx => ?_⟩
      rcases Nat.lt_or_ge k i with q | q
      · have := i2 k q x hkx; omega
      · obtain rfl : k = i := by omega
        rw [hkx] at c ⊢
        right; exact ⟨rfl, Int.le_refl _⟩
    · rename_i c
      refine ⟨i1, fun k hk x hkx => ?_⟩
      rcases Nat.lt_or_ge k i with q | q
      · exact i2 k q x hkx
      · obtain rfl : k = i := by omega
        rw [hkx] at c
        simp only [Option.getD_some] at c
        omega
theorem near_nearest (S : List Int) (sum : Int) (h0 : 0 < S.length) : Nearest S sum (nearTo S sum S.length) := by
  obtain ⟨a, b⟩ := near_ok S sum h0 S.length (Nat.le_refl _)
  refine ⟨a, fun x hx => ?_⟩
  obtain ⟨k, hk, e⟩ := List.getElem_of_mem hx
  exact b k hk x (by rw [List.getElem?_eq_getElem hk, e])
/-- The reference's: over the sums in order, the first one that is nearest. -/
def rnearTo (S : List Int) (sum : Int) : Nat → Int
  | 0 => (S[0]?).getD 0
  | i + 1 => if farI ((S[i + 1]?).getD 0) sum < farI (rnearTo S sum i) sum then (S[i + 1]?).getD 0 else rnearTo S sum i
theorem rnear_ok {S : List Int} (hs : S.Pairwise (· < ·)) (sum : Int) (h0 : 0 < S.length) (i : Nat) (hi : i < S.length) : (∃ j, j ≤ i ∧ S[j]? = some (rnearTo S sum i)) ∧ ∀ k, k ≤ i → ∀ x, S[k]? = some x → farI (rnearTo S sum i) sum < farI x sum ∨ (farI (rnearTo S sum i) sum = farI x sum ∧ rnearTo S sum i ≤ x) := by
  have lt : ∀ j k, j < k → ∀ x y, S[j]? = some x → S[k]? = some y → x < y := fun j k jk x y hx hy => by
    obtain ⟨hj, e1⟩ := List.getElem?_eq_some_iff.1 hx
    obtain ⟨hk, e2⟩ := List.getElem?_eq_some_iff.1 hy
    rw [← e1, ← e2]
    exact List.pairwise_iff_getElem.1 hs j k hj hk jk
  induction i with
  | zero =>
    refine ⟨⟨0, Nat.le_refl _, by unfold rnearTo; rw [List.getElem?_eq_getElem h0]; rfl⟩, fun k hk x hx => ?_⟩
    obtain rfl : k = 0 := by omega
    unfold rnearTo
    rw [hx]
    right; exact ⟨rfl, Int.le_refl _⟩
  | succ i ih =>
    obtain ⟨⟨j, ji, ej⟩, i2⟩ := ih (by omega)
    have gx : S[i + 1]? = some ((S[i + 1]?).getD 0) := by rw [List.getElem?_eq_getElem hi]; rfl
    rw [rnearTo]
    split
    · rename_i c
      refine ⟨⟨i + 1, Nat.le_refl _, gx⟩, fun k hk x hx => ?_⟩
      rcases Nat.lt_or_ge k (i + 1) with q | q
      · have := i2 k (by omega) x hx; omega
      · obtain rfl : k = i + 1 := by omega
        rw [hx]
        right; exact ⟨rfl, Int.le_refl _⟩
    · rename_i c
      refine ⟨⟨j, by omega, ej⟩, fun k hk x hx => ?_⟩
      rcases Nat.lt_or_ge k (i + 1) with q | q
      · exact i2 k (by omega) x hx
      · obtain rfl : k = i + 1 := by omega
        rw [hx] at c
        simp only [Option.getD_some] at c
        have := lt j (i + 1) (by omega) _ _ ej hx
        omega
theorem rnear_nearest {S : List Int} (hs : S.Pairwise (· < ·)) (sum : Int) (h0 : 0 < S.length) : Nearest S sum (rnearTo S sum (S.length - 1)) := by
  obtain ⟨⟨j, _, ej⟩, b⟩ := rnear_ok hs sum h0 (S.length - 1) (by omega)
  refine ⟨List.mem_of_getElem? ej, fun x hx => ?_⟩
  obtain ⟨k, hk, e⟩ := List.getElem_of_mem hx
  exact b k (by omega) x (by rw [List.getElem?_eq_getElem hk, e])
def totalL : List Int → Int
  | [] => 0
  | x :: r => x + totalL r
/-- A subset and the rest. -/
theorem sum_rest : ∀ (l : List Int) (s : Nat), s < 2 ^ l.length → sumN l s + sumN l (2 ^ l.length - 1 - s) = totalL l
  | [], s, _ => by simp [sumN, totalL]
  | x :: r, s, h => by
    rw [List.length_cons, Nat.pow_succ] at h ⊢
    have ih := sum_rest r (s / 2) (by omega)
    have e : (2 ^ r.length * 2 - 1 - s) / 2 = 2 ^ r.length - 1 - s / 2 := by omega
    unfold sumN totalL
    rw [e]
    rcases Nat.mod_two_eq_zero_or_one s with m | m
    · rw [if_neg (by omega), if_pos (by omega)]; omega
    · rw [if_pos m, if_neg (by omega)]; omega
/-- Sums come in pairs. -/
theorem sums_pairs {l P : List Int} (hp : P.Pairwise (· < ·)) (hm : ∀ x, x ∈ P ↔ ∃ s, s < 2 ^ l.length ∧ sumN l s = x) (i : Nat) (hi : i < P.length) : (P[i]?).getD 0 + (P[P.length - 1 - i]?).getD 0 = totalL l := by
  have e : P = (P.map fun x => totalL l - x).reverse := by
    refine ltL_ext _ _ hp ?_ fun x => ?_
    · rw [List.pairwise_reverse, List.pairwise_map]
      exact hp.imp fun h => by omega
    · rw [List.mem_reverse, List.mem_map]
      constructor
      · intro h
        obtain ⟨s, hs, es⟩ := (hm x).1 h
        have := sum_rest l s hs
        exact ⟨sumN l (2 ^ l.length - 1 - s), (hm _).2 ⟨_, by omega, rfl⟩, by omega⟩
      · rintro ⟨y, hy, ey⟩
        obtain ⟨s, hs, es⟩ := (hm y).1 hy
        have := sum_rest l s hs
        exact (hm x).2 ⟨2 ^ l.length - 1 - s, by omega, by omega⟩
  have g : P[i]? = ((P.map fun x => totalL l - x).reverse)[i]? := by rw [← e]
  rw [List.getElem?_reverse (by rw [List.length_map]; exact hi), List.length_map, List.getElem?_map, List.getElem?_eq_getElem (show P.length - 1 - i < P.length by omega), Option.map_some] at g
  rw [g, List.getElem?_eq_getElem (show P.length - 1 - i < P.length by omega)]
  simp only [Option.getD_some]
  omega
end Go.Proofs.YtfiefmhnonddhaaDoor
