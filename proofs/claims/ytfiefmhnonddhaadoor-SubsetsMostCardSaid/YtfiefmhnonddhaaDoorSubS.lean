/-
  PLAIN: the subsets of a subset, one after the other; the most parts, and the reference's counts.
-/
import Derived.Test.YtfiefmhnonddhaaDoorSubR
namespace Go.Proofs.YtfiefmhnonddhaaDoor
theorem sub_and {a b : Nat} : Sub a b ↔ a &&& b = a := by
  constructor
  · intro h
    refine Nat.eq_of_testBit_eq fun j => ?_
    rw [Nat.testBit_and]
    have := h j
    cases h1 : a.testBit j <;> cases h2 : b.testBit j <;> simp [h1, h2] at this ⊢
  · intro h j hj
    have := congrArg (fun x => Nat.testBit x j) h
    simp only [Nat.testBit_and, hj, Bool.true_and] at this
    exact this
theorem sub_le {a b : Nat} (h : Sub a b) : a ≤ b := by
  rw [← sub_and.1 h]; exact Nat.and_le_right
theorem sub_half {a b : Nat} (h : Sub a b) : Sub (a / 2) (b / 2) ∧ a % 2 ≤ b % 2 := by
  refine ⟨fun j hj => ?_, ?_⟩
  · have := h (j + 1)
    rw [Nat.testBit_succ, Nat.testBit_succ] at this
    exact this hj
  · have := h 0
    rw [Nat.testBit_zero, Nat.testBit_zero] at this
    have ha := Nat.mod_two_eq_zero_or_one a
    have hb := Nat.mod_two_eq_zero_or_one b
    rcases ha with ha | ha <;> rcases hb with hb | hb <;> simp [ha, hb] at this ⊢
/-- The next smaller subset. -/
theorem sub_next : ∀ (n s left p : Nat), s < 2 ^ n → s ≠ 0 → Sub s left → Sub p left → p < s → p ≤ (s - 1) &&& left
  | 0, s, _, _, h, h0, _, _, _ => by simp at h; omega
  | n + 1, s, left, p, h, h0, hs, hp, lt => by
    obtain ⟨s2, s1⟩ := sub_half hs
    obtain ⟨p2, p1⟩ := sub_half hp
    have d : ((s - 1) &&& left) / 2 = (s - 1) / 2 &&& left / 2 := Nat.and_div_two
    have m := and_mod2 (s - 1) left
    rcases Nat.mod_two_eq_zero_or_one s with e | e
    · have hl : s / 2 ≠ 0 := by omega
      rw [show (s - 1) / 2 = s / 2 - 1 by omega] at d
      have q : p / 2 < s / 2 := by omega
      have ih := sub_next n (s / 2) (left / 2) (p / 2) (by rw [Nat.pow_succ] at h; omega) hl s2 p2 q
      rcases Nat.mod_two_eq_zero_or_one left with l | l
      · rw [if_neg (by omega)] at m; omega
      · rw [if_pos (by omega)] at m; omega
    · rw [show (s - 1) / 2 = s / 2 by omega] at d
      have : s / 2 &&& left / 2 = s / 2 := sub_and.1 s2
      rw [this] at d
      omega
theorem next_sub (s left : Nat) : Sub ((s - 1) &&& left) left := fun j hj => by
  rw [Nat.testBit_and, Bool.and_eq_true] at hj; exact hj.2
theorem next_lt {s left : Nat} (h : s ≠ 0) : (s - 1) &&& left < s := by
  have := @Nat.and_le_left (s - 1) left
  omega
/-- The subsets of a subset, from s downwards, but for the empty one. -/
def subsD (left : Nat) : Nat → Nat → List Nat
  | 0, _ => []
  | f + 1, s => if s = 0 then [] else s :: subsD left f ((s - 1) &&& left)
theorem subsD_mem {left : Nat} : ∀ (f s : Nat), s ≤ f → Sub s left → ∀ p, p ∈ subsD left f s ↔ p ≠ 0 ∧ p ≤ s ∧ Sub p left
  | 0, s, h, hs, p => by
    have : s = 0 := by omega
    subst this
    simp only [subsD, List.not_mem_nil, false_iff]
    rintro ⟨a, b, _⟩; omega
  | f + 1, s, h, hs, p => by
    unfold subsD
    by_cases c : s = 0
    · rw [if_pos c]
      simp only [List.not_mem_nil, false_iff]
      rintro ⟨a, b, _⟩; omega
    · rw [if_neg c, List.mem_cons, subsD_mem f _ (by have := next_lt (left := left) c; omega) (next_sub s left) p]
      have lt := next_lt (left := left) c
      constructor
      · rintro (e | ⟨a, b, d⟩)
        · subst e; exact ⟨c, Nat.le_refl _, hs⟩
        · exact ⟨a, by omega, d⟩
      · rintro ⟨a, b, d⟩
        by_cases e : p = s
        · exact .inl e
        · exact .inr ⟨a, sub_next (s + 1) s left p (Nat.lt_trans (Nat.lt_succ_self s) Nat.lt_two_pow_self) c hs d (by omega), d⟩
/-- The reference's count of a subset: the most parts of a balanced partition of it; -1 if there is none. -/
def CntOf (Z : Nat → Prop) (i : Nat) (c : Int) : Prop := (c = -1 ∧ ∀ m, ¬ PartN Z i m) ∨ ∃ m : Nat, c = m ∧ PartN Z i m ∧ ∀ k, PartN Z i k → k ≤ m
theorem cnt_unique {Z : Nat → Prop} {i : Nat} {a b : Int} (ha : CntOf Z i a) (hb : CntOf Z i b) : a = b := by
  rcases ha with ⟨ea, na⟩ | ⟨m, ea, pa, la⟩ <;> rcases hb with ⟨eb, nb⟩ | ⟨k, eb, pb, lb⟩
  · omega
  · exact absurd pb (na k)
  · exact absurd pa (nb m)
  · have := la k pb
    have := lb m pa
    omega
theorem cnt_most {Z : Nat → Prop} (A : Adds Z) {i m : Nat} (z : Z i) (h : MostOf Z i m) : CntOf Z i m :=
  .inr ⟨m, rfl, (most_whole A z h).1, (most_whole A z h).2⟩
theorem cnt_none {Z : Nat → Prop} (A : Adds Z) {i : Nat} (z : ¬ Z i) : CntOf Z i (-1) := .inl ⟨rfl, fun _ p => z (p.z A)⟩
/-- The reference's recursion: over the parts that have a fixed index. -/
theorem cnt_step {Z : Nat → Prop} {i b : Nat} {c : Int} (ib : i.testBit b = true)
    (hC : ∀ s, Sub s i → s.testBit b = true → Z s → ∃ x, CntOf Z (i ^^^ s) x ∧ (0 ≤ x → x + 1 ≤ c))
    (h1 : c = -1 ∨ ∃ s x, Sub s i ∧ s.testBit b = true ∧ Z s ∧ CntOf Z (i ^^^ s) x ∧ 0 ≤ x ∧ c = x + 1) : CntOf Z i c := by
  have up : ∀ k, PartN Z i k → (k : Int) ≤ c := fun k pk => by
    obtain ⟨s, i', m', sb, s0, zs, ds, e, hp, em⟩ := pk.has b ib
    have ss : Sub s i := fun j hj => by rw [e, Nat.testBit_or, hj]; rfl
    have ex : i ^^^ s = i' := by
      refine Nat.eq_of_testBit_eq fun j => ?_
      rw [e, Nat.testBit_xor, Nat.testBit_or]
      have := ds j
      cases a1 : s.testBit j <;> cases a2 : i'.testBit j <;> simp [a1, a2] at this ⊢
    obtain ⟨x, cx, lx⟩ := hC s ss sb zs
    rw [ex] at cx
    rcases cx with ⟨_, no⟩ | ⟨m, e2, _, le⟩
    · exact absurd hp (no m')
    · have := le m' hp
      have := lx (by omega)
      omega
  rcases h1 with e | ⟨s, x, ss, sb, zs, cx, x0, e⟩
  · exact .inl ⟨e, fun m pm => by have := up m pm; omega⟩
  · right
    rcases cx with ⟨e2, _⟩ | ⟨m, e2, pm, _⟩
    · omega
    · obtain ⟨eq, d, _⟩ := xor_left ss
      have s0 : s ≠ 0 := fun q => by rw [q, Nat.zero_testBit] at sb; cases sb
      have pi := PartN.cons s0 zs d pm
      rw [eq] at pi
      exact ⟨m + 1, by omega, pi, fun k pk => by have := up k pk; omega⟩
theorem sub_xor {s i : Nat} (h : Sub s i) : i ^^^ s = i - s := by
  obtain ⟨e, d, _⟩ := xor_left h
  have a : s ||| (i ^^^ s) = s + (i ^^^ s) := by
    have : ∀ n a b : Nat, a < 2 ^ n → Dis a b → a ||| b = a + b := by
      intro n
      induction n with
      | zero => intro a b ha _; simp at ha; subst ha; simp
      | succ n ih =>
        intro a b ha hd
        have d2 : Dis (a / 2) (b / 2) := fun j hj => hd (j + 1) (by rw [Nat.testBit_succ, Nat.testBit_succ]; exact hj)
        have h2 := ih (a / 2) (b / 2) (by rw [Nat.pow_succ] at ha; omega) d2
        have m := and_mod2 a b
        rw [dis_and.1 hd] at m
        have o := or_mod2 a b
        have q : (a ||| b) / 2 = a / 2 ||| b / 2 := Nat.or_div_two
        rw [h2] at q
        have ea := Nat.mod_two_eq_zero_or_one a
        have eb := Nat.mod_two_eq_zero_or_one b
        rcases ea with ea | ea <;> rcases eb with eb | eb
        · rw [if_neg (by omega)] at o; omega
        · rw [if_pos (by omega)] at o; omega
        · rw [if_pos (by omega)] at o; omega
        · rw [if_pos ⟨ea, eb⟩] at m; omega
    exact this (s + 1) s _ (Nat.lt_trans (Nat.lt_succ_self s) Nat.lt_two_pow_self) d
  omega
end Go.Proofs.YtfiefmhnonddhaaDoor
