/-
  PLAIN: the reference's Check asks the same.
-/
import Derived.Test.YtfiefmhnonddhaaDoorSubX
namespace Go.Proofs.YtfiefmhnonddhaaDoor
def rIn (l : List Int) : List Int → Nat × Nat × Int × Int → Option (Nat × Nat × Int × Int)
  | [], st => some st
  | k :: r, st => if k < 0 ∨ (l.length : Int) ≤ k ∨ st.1.testBit k.toNat = true ∨ k < st.2.2.2 then none else rIn l r (st.1 ||| 2 ^ k.toNat, st.2.1 + 1, st.2.2.1 + (l[k.toNat]?).getD 0, k)
def rParts (l : List Int) : List (List Int) → Nat × Nat × Int → Option Nat
  | [], st => some st.2.1
  | [] :: _, _ => none
  | (x :: p) :: r, st =>
    match rIn l (x :: p) (st.1, st.2.1, 0, -1) with
    | none => none
    | some st' => if st'.2.2.1 ≠ 0 ∨ x < st.2.2 then none else rParts l r (st'.1, st'.2.1, x)
def rcheckP (l : List Int) (ps : List (List Int)) : Bool := match rParts l ps (0, 0, -1) with
  | none => false
  | some c => decide (c = l.length)
theorem rIn_eq (l : List Int) : ∀ (p : List Int) (seen cnt : Nat) (sum last : Int), (last = -1 ∨ (0 ≤ last ∧ seen.testBit last.toNat = true)) → rIn l p (seen, cnt, sum, last) = (chkIn l p (seen, sum, last)).map fun st => (st.1, cnt + p.length, st.2.1, st.2.2)
  | [], seen, cnt, sum, last, _ => rfl
  | k :: r, seen, cnt, sum, last, h => by
    unfold rIn chkIn
    by_cases c : k ≤ last ∨ (l.length : Int) ≤ k ∨ seen.testBit k.toNat = true
    · have c' : k < 0 ∨ (l.length : Int) ≤ k ∨ seen.testBit k.toNat = true ∨ k < last := by
        rcases c with c | c | c
        · rcases h with h | ⟨h0, h⟩
          · left; omega
          · by_cases e : k = last
            · right; right; left; rw [e]; exact h
            · right; right; right; omega
        · exact .inr (.inl c)
        · exact .inr (.inr (.inl c))
      rw [if_pos c', if_pos c]
      rfl
    · have c2 := c
      rw [not_or, not_or] at c2
      obtain ⟨c1, c3, c4⟩ := c2
      have k0 : 0 ≤ k := by rcases h with h | h <;> omega
      have c' : ¬ (k < 0 ∨ (l.length : Int) ≤ k ∨ seen.testBit k.toNat = true ∨ k < last) := by
        rw [not_or, not_or, not_or]
        exact ⟨by omega, c3, c4, by omega⟩
      rw [if_neg c', if_neg c]
      have := rIn_eq l r (seen ||| 2 ^ k.toNat) (cnt + 1) (sum + (l[k.toNat]?).getD 0) k (.inr ⟨k0, by rw [Nat.testBit_or, Nat.testBit_two_pow_self, Bool.or_true]⟩)
      rw [this]
      simp only [List.length_cons, show cnt + 1 + r.length = cnt + (r.length + 1) by omega]
theorem siz_one : ∀ (n s k : Nat), k < n → s.testBit k = false → sizN n (s ||| 2 ^ k) = sizN n s + 1
  | 0, s, k, h, _ => by omega
  | n + 1, s, 0, _, b => by
    rw [Nat.testBit_zero] at b
    have e := of_decide_eq_false b
    have o := or_mod2 s (2 ^ 0)
    rw [if_pos (by right; decide)] at o
    rw [sizN_succ, sizN_succ, o, Nat.or_div_two, show (2 : Nat) ^ 0 / 2 = 0 by decide, Nat.or_zero]
    omega
  | n + 1, s, k + 1, h, b => by
    rw [Nat.testBit_succ] at b
    have o := or_mod2 s (2 ^ (k + 1))
    have e : 2 ^ (k + 1) % 2 = 0 := by rw [Nat.pow_succ]; omega
    have d : 2 ^ (k + 1) / 2 = 2 ^ k := by rw [Nat.pow_succ]; omega
    have ih := siz_one n (s / 2) k (by omega) b
    have m := Nat.mod_two_eq_zero_or_one s
    rw [sizN_succ, sizN_succ, Nat.or_div_two, d, ih]
    rcases m with m | m
    · rw [if_neg (by omega)] at o; omega
    · rw [if_pos (by omega)] at o; omega
theorem chkIn_siz (l : List Int) : ∀ (p : List Int) (st st' : Nat × Int × Int), -1 ≤ st.2.2 → chkIn l p st = some st' → sizN l.length st'.1 = sizN l.length st.1 + p.length
  | [], st, st', _, h => by
    obtain rfl : st = st' := by simpa [chkIn] using h
    rfl
  | k :: r, st, st', hl, h => by
    unfold chkIn at h
    split at h
    · cases h
    · rename_i c
      rw [not_or, not_or] at c
      obtain ⟨c1, c2, c3⟩ := c
      have := chkIn_siz l r _ st' (by show -1 ≤ k; omega) h
      simp only at this
      rw [this, siz_one l.length st.1 k.toNat (by omega) (by cases e : st.1.testBit k.toNat <;> simp [e] at c3 ⊢), List.length_cons]
      omega
theorem chkIn_keeps (l : List Int) : ∀ (p : List Int) (st st' : Nat × Int × Int), chkIn l p st = some st' → ∀ j, st.1.testBit j = true → st'.1.testBit j = true
  | [], st, st', h => by
    obtain rfl : st = st' := by simpa [chkIn] using h
    exact fun _ h => h
  | k :: r, st, st', h => by
    unfold chkIn at h
    split at h
    · cases h
    · intro j hj
      exact chkIn_keeps l r _ st' h j (by simp only; rw [Nat.testBit_or, hj]; rfl)
theorem rParts_eq (l : List Int) : ∀ (ps : List (List Int)) (seen : Nat) (b : Int), (b = -1 ∨ (0 ≤ b ∧ seen.testBit b.toNat = true)) → rParts l ps (seen, sizN l.length seen, b) = (chkParts l ps (seen, b)).map (sizN l.length)
  | [], seen, b, _ => rfl
  | [] :: r, seen, b, _ => rfl
  | (x :: p) :: r, seen, b, h => by
    unfold rParts chkParts
    rw [rIn_eq l (x :: p) seen (sizN l.length seen) 0 (-1) (.inl rfl)]
    cases e : chkIn l (x :: p) (seen, 0, -1) with
    | none =>
      simp only [Option.map_none]
      split <;> rfl
    | some st =>
      simp only [Option.map_some]
      have e0 := e
      unfold chkIn at e
      split at e
      · cases e
      · rename_i c
        rw [not_or, not_or] at c
        obtain ⟨c1, c2, c3⟩ := c
        simp only at c1 c3
        have bx : st.1.testBit x.toNat = true := chkIn_keeps l p _ st e x.toNat (by simp only; rw [Nat.testBit_or, Nat.testBit_two_pow_self, Bool.or_true])
        have sz := chkIn_siz l (x :: p) (seen, 0, -1) st (by show (-1 : Int) ≤ -1; decide) e0
        simp only at sz
        have ne : x ≠ b := fun q => by
          rcases h with h | ⟨_, h⟩
          · omega
          · rw [q] at c3; exact c3 h
        by_cases le : x ≤ b
        · rw [if_pos (.inr (by omega)), if_pos le]; rfl
        · rw [if_neg le]
          by_cases z : st.2.1 = 0
          · rw [if_neg (by rw [not_or]; exact ⟨fun q => q z, by omega⟩), if_pos z, ← sz]
            exact rParts_eq l r st.1 x (.inr ⟨by omega, bx⟩)
          · rw [if_pos (.inl z), if_neg z]; rfl
theorem rcheck_eq (l : List Int) (ps : List (List Int)) : rcheckP l ps = checkP l ps := by
  unfold rcheckP checkP
  have h := rParts_eq l ps 0 (-1) (.inl rfl)
  have z : sizN l.length 0 = 0 := by rw [← idx_len l.length 0 0, idx_zero]; rfl
  rw [z] at h
  rw [h]
  cases chkParts l ps (0, -1) <;> rfl
theorem earl_same : ∀ a b : List Int, (earlB a b = false ∧ earlB b a = false) ↔ a = b
  | [], [] => ⟨fun _ => rfl, fun _ => ⟨rfl, rfl⟩⟩
  | [], y :: b => ⟨fun h => by have := h.1; simp [earlB] at this, fun h => by cases h⟩
  | x :: a, [] => ⟨fun h => by have := h.2; simp [earlB] at this, fun h => by cases h⟩
  | x :: a, y :: b => by
    unfold earlB
    by_cases e : x = y
    · subst e
      rw [if_pos rfl, if_pos rfl, earl_same a b]
      simp
    · rw [if_neg e, if_neg (fun q => e q.symm)]
      simp only [decide_eq_false_iff_not, List.cons.injEq]
      constructor
      · intro h; omega
      · intro h; exact absurd h.1 e
end Go.Proofs.YtfiefmhnonddhaaDoor
