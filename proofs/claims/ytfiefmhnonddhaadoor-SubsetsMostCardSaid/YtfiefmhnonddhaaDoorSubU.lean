/-
  PLAIN: what Check asks; parts that it accepts are a balanced partition.
-/
import Derived.Test.YtfiefmhnonddhaaDoorSubS
namespace Go.Proofs.YtfiefmhnonddhaaDoor
/-- One part: the subset seen, the sum, the last index. -/
def chkIn (l : List Int) : List Int → Nat × Int × Int → Option (Nat × Int × Int)
  | [], st => some st
  | k :: r, st => if k ≤ st.2.2 ∨ (l.length : Int) ≤ k ∨ st.1.testBit k.toNat = true then none else chkIn l r (st.1 ||| 2 ^ k.toNat, st.2.1 + (l[k.toNat]?).getD 0, k)
def chkParts (l : List Int) : List (List Int) → Nat × Int → Option Nat
  | [], st => some st.1
  | [] :: _, _ => none
  | (x :: p) :: r, st => if x ≤ st.2 then none else
    match chkIn l (x :: p) (st.1, 0, -1) with
    | none => none
    | some st' => if st'.2.1 = 0 then chkParts l r (st'.1, x) else none
def checkP (l : List Int) (ps : List (List Int)) : Bool := match chkParts l ps (0, -1) with
  | none => false
  | some s => decide (sizN l.length s = l.length)
theorem sum_one : ∀ (l : List Int) (k : Nat), k < l.length → sumN l (2 ^ k) = (l[k]?).getD 0
  | [], k, h => by simp at h
  | x :: r, 0, _ => by
    unfold sumN
    rw [if_pos (by decide)]
    have : (2 : Nat) ^ 0 / 2 = 0 := by decide
    rw [this, sum_zero]
    simp
  | x :: r, k + 1, h => by
    unfold sumN
    have e : 2 ^ (k + 1) % 2 = 0 := by rw [Nat.pow_succ]; omega
    have d : 2 ^ (k + 1) / 2 = 2 ^ k := by rw [Nat.pow_succ]; omega
    rw [if_neg (by omega), d, sum_one r k (by simpa using h)]
    simp
theorem dis_one {s k : Nat} (h : s.testBit k = false) : Dis s (2 ^ k) := fun j ⟨a, b⟩ => by
  rw [Nat.testBit_two_pow] at b
  have : k = j := by simpa using b
  rw [← this, h] at a
  cases a
theorem or_lt {a b n : Nat} (ha : a < 2 ^ n) (hb : b < 2 ^ n) : a ||| b < 2 ^ n := Nat.or_lt_two_pow ha hb
theorem chkIn_ok (l : List Int) : ∀ (p : List Int) (st st' : Nat × Int × Int), -1 ≤ st.2.2 → chkIn l p st = some st' → ∃ u, Dis st.1 u ∧ st'.1 = st.1 ||| u ∧ st'.2.1 = st.2.1 + sumN l u ∧ u < 2 ^ l.length ∧ (p ≠ [] → u ≠ 0)
  | [], st, st', _, h => by
    obtain rfl : st = st' := by simpa [chkIn] using h
    exact ⟨0, fun j => by simp, by simp, by rw [sum_zero]; omega, Nat.two_pow_pos _, fun h => absurd rfl h⟩
  | k :: r, st, st', hl, h => by
    unfold chkIn at h
    split at h
    · cases h
    · rename_i c
      rw [not_or, not_or] at c
      obtain ⟨c1, c2, c3⟩ := c
      have c3' : st.1.testBit k.toNat = false := by cases e : st.1.testBit k.toNat <;> simp [e] at c3 ⊢
      have kl : k.toNat < l.length := by omega
      obtain ⟨u, du, e1, e2, ul, _⟩ := chkIn_ok l r _ st' (by show -1 ≤ k; omega) h
      obtain ⟨d1, d2⟩ := or_dis.1 du
      have pw : 2 ^ k.toNat < 2 ^ l.length := Nat.pow_lt_pow_right (by decide) kl
      refine ⟨2 ^ k.toNat ||| u, (or_dis.2 ⟨(dis_one c3').symm, d1.symm⟩).symm, by rw [e1, Nat.or_assoc], ?_, or_lt pw ul, fun _ q => ?_⟩
      · rw [e2, sum_or l _ _ (dis_and.1 d2), sum_one l _ kl]; simp only; omega
      · have := congrArg (fun x => Nat.testBit x k.toNat) q
        simp only [Nat.testBit_or, Nat.testBit_two_pow_self, Bool.true_or, Nat.zero_testBit] at this
        cases this
theorem chkParts_ok (l : List Int) : ∀ (ps : List (List Int)) (st : Nat × Int) (s : Nat), chkParts l ps st = some s → ∃ u, Dis st.1 u ∧ s = st.1 ||| u ∧ u < 2 ^ l.length ∧ PartN (fun s => sumN l s = 0) u ps.length
  | [], st, s, h => by
    obtain rfl : st.1 = s := by simpa [chkParts] using h
    exact ⟨0, fun j => by simp, by simp, Nat.two_pow_pos _, PartN.nil⟩
  | [] :: r, st, s, h => by simp [chkParts] at h
  | (x :: p) :: r, st, s, h => by
    unfold chkParts at h
    split at h
    · cases h
    · cases e : chkIn l (x :: p) (st.1, 0, -1) with
      | none => rw [e] at h; cases h
      | some st' =>
        rw [e] at h
        simp only at h
        split at h
        · rename_i z
          obtain ⟨u, du, e1, e2, ul, u0⟩ := chkIn_ok l (x :: p) (st.1, 0, -1) st' (by show (-1 : Int) ≤ -1; decide) e
          simp only at du e1 e2
          obtain ⟨v, dv, e3, vl, pv⟩ := chkParts_ok l r (st'.1, x) s h
          simp only at dv e3
          rw [e1] at dv e3
          obtain ⟨d1, d2⟩ := or_dis.1 dv
          refine ⟨u ||| v, (or_dis.2 ⟨du.symm, d1.symm⟩).symm, by rw [e3, Nat.or_assoc], or_lt ul vl, PartN.cons (u0 (by simp)) (by rw [z] at e2; omega) d2 pv⟩
        · cases h
theorem siz_full : ∀ (n s : Nat), s < 2 ^ n → sizN n s = n → s = 2 ^ n - 1
  | 0, s, h, _ => by simp at h ⊢; omega
  | n + 1, s, h, e => by
    unfold sizN at e
    have le := siz_le n (s / 2)
    have := Nat.mod_two_eq_zero_or_one s
    have := siz_full n (s / 2) (by rw [Nat.pow_succ] at h; omega) (by omega)
    have p := Nat.two_pow_pos n
    rw [Nat.pow_succ]
    omega
/-- Parts that Check accepts are a balanced partition of the whole. -/
theorem check_part {l : List Int} {ps : List (List Int)} (h : checkP l ps = true) : PartN (fun s => sumN l s = 0) (2 ^ l.length - 1) ps.length := by
  unfold checkP at h
  split at h
  · cases h
  · rename_i s e
    obtain ⟨u, _, e1, ul, pu⟩ := chkParts_ok l ps (0, -1) s e
    simp only [Nat.zero_or] at e1
    subst e1
    rw [← siz_full l.length s ul (of_decide_eq_true h)]
    exact pu
end Go.Proofs.YtfiefmhnonddhaaDoor
