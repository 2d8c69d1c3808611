/-
  PLAIN: subsets of indices as numbers: their indices, sums and sizes; the lowest index; which of two comes first.
-/
import Derived.Lib.TrailingZeros
import Derived.WalkKit
namespace Go.Proofs.YtfiefmhnonddhaaDoor
/-- The indices of a subset, from k on. -/
def idxN : Nat → Nat → Nat → List Int
  | 0, _, _ => []
  | n + 1, k, s => if s % 2 = 1 then (k : Int) :: idxN n (k + 1) (s / 2) else idxN n (k + 1) (s / 2)
/-- The sum of a subset. -/
def sumN : List Int → Nat → Int
  | [], _ => 0
  | x :: r, s => if s % 2 = 1 then x + sumN r (s / 2) else sumN r (s / 2)
/-- How many indices a subset has. -/
def sizN : Nat → Nat → Nat
  | 0, _ => 0
  | n + 1, s => s % 2 + sizN n (s / 2)
/-- Whether the least index that only one of both has is the first one's. -/
def befN : Nat → Nat → Nat → Bool
  | 0, _, _ => false
  | n + 1, s, t => if s % 2 = t % 2 then befN n (s / 2) (t / 2) else decide (s % 2 = 1)
/-- A subset without its lowest index. -/
def lowN (s : Nat) : Nat := s &&& (s - 1)
theorem and_mod2 (a b : Nat) : (a &&& b) % 2 = if a % 2 = 1 ∧ b % 2 = 1 then 1 else 0 := by
  have h := Nat.testBit_and a b 0
  simp only [Nat.testBit_zero] at h
  have ha := Nat.mod_two_eq_zero_or_one a
  have hb := Nat.mod_two_eq_zero_or_one b
  have hc := Nat.mod_two_eq_zero_or_one (a &&& b)
  rcases ha with ha | ha <;> rcases hb with hb | hb <;> rcases hc with hc | hc <;> simp [ha, hb, hc] at h ⊢
theorem low_odd {s : Nat} (h : s % 2 = 1) : lowN s = s - 1 := by
  unfold lowN
  have d : (s &&& (s - 1)) / 2 = s / 2 := by
    rw [Nat.and_div_two, show (s - 1) / 2 = s / 2 by omega, Nat.and_self]
  have m := and_mod2 s (s - 1)
  rw [if_neg (by omega)] at m
  omega
theorem low_even {s : Nat} (h : s % 2 = 0) (_ : s ≠ 0) : lowN s = 2 * lowN (s / 2) := by
  unfold lowN
  have d : (s &&& (s - 1)) / 2 = (s / 2) &&& (s / 2 - 1) := by
    rw [Nat.and_div_two, show (s - 1) / 2 = s / 2 - 1 by omega]
  have m := and_mod2 s (s - 1)
  rw [if_neg (by omega)] at m
  omega
theorem low_lt {s : Nat} (h0 : s ≠ 0) : lowN s < s := by
  unfold lowN
  have := @Nat.and_le_right s (s - 1)
  omega
theorem ctz_odd {f s : Nat} (h : s % 2 = 1) : Lib.ctzFrom (f + 1) s = 0 := by unfold Lib.ctzFrom; rw [if_pos h]
theorem ctz_even {f s : Nat} (h : s % 2 = 0) : Lib.ctzFrom (f + 1) s = Lib.ctzFrom f (s / 2) + 1 := by
  show (if s % 2 = 1 then 0 else 1 + Lib.ctzFrom f (s / 2)) = _
  rw [if_neg (by omega)]; omega
theorem idx_low : ∀ (n k s : Nat), s ≠ 0 → s < 2 ^ n → ∀ f, n ≤ f → idxN n k s = ((k + Lib.ctzFrom f s : Nat) : Int) :: idxN n k (lowN s)
  | 0, k, s, h0, h, f, hf => by simp at h; omega
  | n + 1, k, s, h0, h, f, hf => by
    obtain ⟨f, rfl⟩ : ∃ g, f = g + 1 := ⟨f - 1, by omega⟩
    have h2 : s / 2 < 2 ^ n := by rw [Nat.pow_succ] at h; omega
    rcases Nat.mod_two_eq_zero_or_one s with e | e
    · rw [ctz_even e, low_even e h0]
      have ih := idx_low n (k + 1) (s / 2) (by omega) h2 f (by omega)
      unfold idxN
      rw [if_neg (by omega), if_neg (by omega), ih, show 2 * lowN (s / 2) / 2 = lowN (s / 2) by omega, show k + 1 + Lib.ctzFrom f (s / 2) = k + (Lib.ctzFrom f (s / 2) + 1) by omega]
    · rw [ctz_odd e, low_odd e]
      unfold idxN
      rw [if_pos e, if_neg (by omega), show (s - 1) / 2 = s / 2 by omega]
      rfl
theorem sum_low : ∀ (l : List Int) (s : Nat), s ≠ 0 → s < 2 ^ l.length → ∀ f, l.length ≤ f → sumN l s = sumN l (lowN s) + (l[Lib.ctzFrom f s]?).getD 0 ∧ Lib.ctzFrom f s < l.length
  | [], s, h0, h, f, hf => by simp at h; omega
  | x :: r, s, h0, h, f, hf => by
    obtain ⟨f, rfl⟩ : ∃ g, f = g + 1 := ⟨f - 1, by simp at hf; omega⟩
    have h2 : s / 2 < 2 ^ r.length := by rw [List.length_cons, Nat.pow_succ] at h; omega
    rcases Nat.mod_two_eq_zero_or_one s with e | e
    · rw [ctz_even e, low_even e h0]
      obtain ⟨i1, i2⟩ := sum_low r (s / 2) (by omega) h2 f (by simp at hf; omega)
      unfold sumN
      rw [if_neg (by omega), if_neg (by omega), show 2 * lowN (s / 2) / 2 = lowN (s / 2) by omega, i1, List.getElem?_cons_succ, List.length_cons]
      exact ⟨rfl, by omega⟩
    · rw [ctz_odd e, low_odd e]
      unfold sumN
      rw [if_pos e, if_neg (by omega), show (s - 1) / 2 = s / 2 by omega, List.length_cons, List.getElem?_cons_zero]
      exact ⟨by show x + _ = _ + x; omega, by omega⟩
theorem idx_zero : ∀ (n k : Nat), idxN n k 0 = []
  | 0, _ => rfl
  | n + 1, k => by unfold idxN; rw [if_neg (by decide)]; exact idx_zero n (k + 1)
theorem sum_zero : ∀ l : List Int, sumN l 0 = 0
  | [] => rfl
  | x :: r => by unfold sumN; rw [if_neg (by decide)]; exact sum_zero r
theorem idx_len : ∀ (n k s : Nat), (idxN n k s).length = sizN n s
  | 0, _, _ => rfl
  | n + 1, k, s => by
    unfold idxN sizN
    have := idx_len n (k + 1) (s / 2)
    rcases Nat.mod_two_eq_zero_or_one s with e | e
    · rw [if_neg (by omega), this]; omega
    · rw [if_pos e, List.length_cons, this]; omega
theorem siz_le : ∀ (n s : Nat), sizN n s ≤ n
  | 0, _ => Nat.le_refl _
  | n + 1, s => by unfold sizN; have := siz_le n (s / 2); omega
theorem idx_ge : ∀ (n k s : Nat), ∀ x ∈ idxN n k s, (k : Int) ≤ x ∧ x < (k + n : Nat)
  | 0, k, s, x, h => by cases h
  | n + 1, k, s, x, h => by
    have ih := idx_ge n (k + 1) (s / 2) x
    unfold idxN at h
    split at h
    · rcases List.mem_cons.1 h with e | e
      · rw [e]; omega
      · have := ih e; omega
    · have := ih h; omega
/-- Whether a list comes before another one. -/
def earlB : List Int → List Int → Bool
  | x :: a, y :: b => if x = y then earlB a b else decide (x < y)
  | a, b => decide (a.length < b.length)
/-- Of two subsets of one size: the order of their lists. -/
theorem bef_earl : ∀ (n k s t : Nat), sizN n s = sizN n t → earlB (idxN n k s) (idxN n k t) = befN n s t
  | 0, k, s, t, _ => rfl
  | n + 1, k, s, t, h => by
    have hs := Nat.mod_two_eq_zero_or_one s
    have ht := Nat.mod_two_eq_zero_or_one t
    unfold sizN at h
    unfold idxN befN
    rcases hs with hs | hs <;> rcases ht with ht | ht
    · rw [if_neg (by omega), if_neg (by omega), if_pos (by omega)]
      exact bef_earl n (k + 1) (s / 2) (t / 2) (by omega)
    · rw [if_neg (by omega), if_pos ht, if_neg (by omega)]
      have l : (idxN n (k + 1) (s / 2)).length = sizN n (s / 2) := idx_len _ _ _
      cases e : idxN n (k + 1) (s / 2) with
      | nil => rw [e] at l; simp at l; omega
      | cons x a =>
        have := idx_ge n (k + 1) (s / 2) x (by rw [e]; simp)
        unfold earlB
        rw [if_neg (by omega), decide_eq_false (by omega), decide_eq_false (by omega)]
    · rw [if_pos hs, if_neg (by omega), if_neg (by omega)]
      have l : (idxN n (k + 1) (t / 2)).length = sizN n (t / 2) := idx_len _ _ _
      cases e : idxN n (k + 1) (t / 2) with
      | nil => rw [e] at l; simp at l; omega
      | cons x a =>
        have := idx_ge n (k + 1) (t / 2) x (by rw [e]; simp)
        unfold earlB
        rw [if_neg (by omega), decide_eq_true (by omega), decide_eq_true (by omega)]
    · rw [if_pos hs, if_pos ht, if_pos (by omega)]
      unfold earlB
      rw [if_pos rfl]
      exact bef_earl n (k + 1) (s / 2) (t / 2) (by omega)
/-- What the code asks: the lowest index of s ^ t is one of s. -/
theorem bef_code : ∀ (n s t f : Nat), s < 2 ^ n → t < 2 ^ n → n ≤ f → befN n s t = (decide (s ^^^ t ≠ 0) && s.testBit (Lib.ctzFrom f (s ^^^ t)))
  | 0, s, t, f, hs, ht, _ => by
    simp at hs ht
    subst hs; subst ht
    simp [befN]
  | n + 1, s, t, f, hs, ht, hf => by
    obtain ⟨f, rfl⟩ : ∃ g, f = g + 1 := ⟨f - 1, by omega⟩
    have hs2 : s / 2 < 2 ^ n := by rw [Nat.pow_succ] at hs; omega
    have ht2 : t / 2 < 2 ^ n := by rw [Nat.pow_succ] at ht; omega
    have ih := bef_code n (s / 2) (t / 2) f hs2 ht2 (by omega)
    have xd : (s ^^^ t) / 2 = s / 2 ^^^ t / 2 := Nat.xor_div_two
    have xm : (s ^^^ t) % 2 = if s % 2 = t % 2 then 0 else 1 := by
      have h := Nat.testBit_xor s t 0
      simp only [Nat.testBit_zero] at h
      have ha := Nat.mod_two_eq_zero_or_one s
      have hb := Nat.mod_two_eq_zero_or_one t
      have hc := Nat.mod_two_eq_zero_or_one (s ^^^ t)
      rcases ha with ha | ha <;> rcases hb with hb | hb <;> rcases hc with hc | hc <;> simp [ha, hb, hc] at h ⊢
    unfold befN
    by_cases e : s % 2 = t % 2
    · rw [if_pos e] at xm ⊢
      rw [ih, ctz_even xm, xd, Nat.testBit_succ]
      have : (s / 2 ^^^ t / 2 ≠ 0) ↔ (s ^^^ t ≠ 0) := by rw [← xd]; omega
      simp only [this]
    · rw [if_neg e] at xm ⊢
      rw [ctz_odd xm, Nat.testBit_zero]
      have : s ^^^ t ≠ 0 := by omega
      simp [this]
end Go.Proofs.YtfiefmhnonddhaaDoor
