/-
  PLAIN: balanced partitions of a subset: how many parts one can have; how often the sum can be 0 while the indices are taken one after the other.
-/
import Derived.Test.YtfiefmhnonddhaaDoorSubQ
namespace Go.Proofs.YtfiefmhnonddhaaDoor
theorem or_mod2 (a b : Nat) : (a ||| b) % 2 = if a % 2 = 1 ∨ b % 2 = 1 then 1 else 0 := by
  have h := Nat.testBit_or a b 0
  simp only [Nat.testBit_zero] at h
  have ha := Nat.mod_two_eq_zero_or_one a
  have hb := Nat.mod_two_eq_zero_or_one b
  have hc := Nat.mod_two_eq_zero_or_one (a ||| b)
  rcases ha with ha | ha <;> rcases hb with hb | hb <;> rcases hc with hc | hc <;> simp [ha, hb, hc] at h ⊢
/-- The sum of two subsets that have no index in common. -/
theorem sum_or : ∀ (l : List Int) (a b : Nat), a &&& b = 0 → sumN l (a ||| b) = sumN l a + sumN l b
  | [], _, _, _ => rfl
  | x :: r, a, b, h => by
    have d : a / 2 &&& b / 2 = 0 := by rw [← Nat.and_div_two, h]
    have ih := sum_or r (a / 2) (b / 2) d
    have m := and_mod2 a b
    have o := or_mod2 a b
    rw [h] at m
    unfold sumN
    rw [Nat.or_div_two, ih]
    rcases Nat.mod_two_eq_zero_or_one a with ha | ha <;> rcases Nat.mod_two_eq_zero_or_one b with hb | hb
    · rw [if_neg (by omega)] at o; rw [if_neg (by omega), if_neg (by omega), if_neg (by omega)]
    · rw [if_pos (by omega)] at o; rw [if_pos o, if_neg (by omega), if_pos hb]; omega
    · rw [if_pos (by omega)] at o; rw [if_pos o, if_pos ha, if_neg (by omega)]; omega
    · rw [if_pos ⟨ha, hb⟩] at m; omega
/-- No index in common; all indices of the one are the other's. -/
def Dis (a b : Nat) : Prop := ∀ j, ¬ (a.testBit j = true ∧ b.testBit j = true)
def Sub (a b : Nat) : Prop := ∀ j, a.testBit j = true → b.testBit j = true
theorem dis_and {a b : Nat} : Dis a b ↔ a &&& b = 0 := by
  constructor
  · intro h
    refine Nat.eq_of_testBit_eq fun j => ?_
    rw [Nat.testBit_and, Nat.zero_testBit]
    have := h j
    cases h1 : a.testBit j <;> cases h2 : b.testBit j <;> simp [h1, h2] at this ⊢
  · intro h j ⟨h1, h2⟩
    have := congrArg (fun x => Nat.testBit x j) h
    simp [Nat.testBit_and, h1, h2] at this
theorem Dis.symm {a b : Nat} (h : Dis a b) : Dis b a := fun j ⟨x, y⟩ => h j ⟨y, x⟩
theorem or_dis {a b c : Nat} : Dis (a ||| b) c ↔ Dis a c ∧ Dis b c := by
  constructor
  · intro h
    exact ⟨fun j ⟨x, y⟩ => h j ⟨by rw [Nat.testBit_or, x]; rfl, y⟩, fun j ⟨x, y⟩ => h j ⟨by rw [Nat.testBit_or, x, Bool.or_true], y⟩⟩
  · rintro ⟨h1, h2⟩ j ⟨x, y⟩
    rw [Nat.testBit_or, Bool.or_eq_true] at x
    rcases x with x | x
    · exact h1 j ⟨x, y⟩
    · exact h2 j ⟨x, y⟩
theorem bit_some {s : Nat} (h : s ≠ 0) : ∃ j, s.testBit j = true := by
  refine Classical.byContradiction fun n => h ?_
  refine Nat.eq_of_testBit_eq fun j => ?_
  rw [Nat.zero_testBit]
  cases c : s.testBit j
  · rfl
  · exact absurd ⟨j, c⟩ n
/-- What is left of a subset. -/
theorem xor_left {s i : Nat} (h : Sub s i) : s ||| (i ^^^ s) = i ∧ Dis s (i ^^^ s) ∧ Sub (i ^^^ s) i := by
  refine ⟨Nat.eq_of_testBit_eq fun j => ?_, fun j => ?_, fun j => ?_⟩
  · rw [Nat.testBit_or, Nat.testBit_xor]
    have := h j
    cases h1 : s.testBit j <;> cases h2 : i.testBit j <;> simp [h1, h2] at this ⊢
  · rw [Nat.testBit_xor]
    have := h j
    cases h1 : s.testBit j <;> cases h2 : i.testBit j <;> simp [h1, h2] at this ⊢
  · rw [Nat.testBit_xor]
    have := h j
    cases h1 : s.testBit j <;> cases h2 : i.testBit j <;> simp [h1, h2] at this ⊢
/-- A balanced partition with m parts. -/
inductive PartN (Z : Nat → Prop) : Nat → Nat → Prop
  | nil : PartN Z 0 0
  | cons {s i m : Nat} : s ≠ 0 → Z s → Dis s i → PartN Z i m → PartN Z (s ||| i) (m + 1)
theorem PartN.union {Z : Nat → Prop} {a b m k : Nat} (ha : PartN Z a m) (hb : PartN Z b k) (d : Dis a b) : PartN Z (a ||| b) (m + k) := by
  induction ha with
  | nil => rw [Nat.zero_or, Nat.zero_add]; exact hb
  | cons s0 zs ds _ ih =>
    obtain ⟨d1, d2⟩ := or_dis.1 d
    rw [Nat.or_assoc, show ∀ x : Nat, x + 1 + k = x + k + 1 from fun x => by omega]
    exact PartN.cons s0 zs (or_dis.2 ⟨ds.symm, d1.symm⟩).symm (ih d2)
theorem PartN.one {Z : Nat → Prop} {s : Nat} (h : s ≠ 0) (z : Z s) : PartN Z s 1 := by
  have := PartN.cons (Z := Z) h z (i := 0) (m := 0) (fun j => by simp) PartN.nil
  rwa [Nat.or_zero] at this
/-- The part that has an index. -/
theorem PartN.has {Z : Nat → Prop} {i m : Nat} (h : PartN Z i m) : ∀ j, i.testBit j = true → ∃ s i' m', s.testBit j = true ∧ s ≠ 0 ∧ Z s ∧ Dis s i' ∧ i = s ||| i' ∧ PartN Z i' m' ∧ m = m' + 1 := by
  induction h with
  | nil => intro j hj; simp at hj
  | @cons s i m s0 zs ds hp ih =>
    intro j hj
    cases c : s.testBit j with
    | true => exact ⟨s, i, m, c, s0, zs, ds, rfl, hp, rfl⟩
    | false =>
      rw [Nat.testBit_or, c, Bool.false_or] at hj
      obtain ⟨p, i', m', pj, p0, zp, dp, e, hp', em⟩ := ih j hj
      subst e; subst em
      obtain ⟨q1, q2⟩ := or_dis.1 ds.symm
      refine ⟨p, s ||| i', m' + 1, pj, p0, zp, (or_dis.2 ⟨q1.symm, dp.symm⟩).symm, ?_, PartN.cons s0 zs q2.symm hp', rfl⟩
      rw [← Nat.or_assoc, ← Nat.or_assoc, Nat.or_comm s p]
theorem PartN.pos {Z : Nat → Prop} {i m : Nat} (h : PartN Z i m) : m = 0 ↔ i = 0 := by
  cases h with
  | nil => exact ⟨fun _ => rfl, fun _ => rfl⟩
  | @cons s i m s0 _ _ _ =>
    refine ⟨fun q => by omega, fun q => absurd ?_ s0⟩
    refine Nat.eq_of_testBit_eq fun j => ?_
    have := congrArg (fun x => Nat.testBit x j) q
    simp only [Nat.testBit_or, Nat.zero_testBit, Bool.or_eq_false_iff] at this
    rw [Nat.zero_testBit]; exact this.1
/-- Sums of 0, as a property of subsets. -/
structure Adds (Z : Nat → Prop) : Prop where
  zero : Z 0
  or : ∀ {a b}, Dis a b → Z a → Z b → Z (a ||| b)
  rest : ∀ {a b}, Dis a b → Z (a ||| b) → Z a → Z b
theorem sum_adds (l : List Int) : Adds fun s => sumN l s = 0 where
  zero := sum_zero l
  or := fun d ha hb => by rw [sum_or l _ _ (dis_and.1 d), ha, hb]; rfl
  rest := fun d h ha => by rw [sum_or l _ _ (dis_and.1 d), ha] at h; omega
theorem PartN.z {Z : Nat → Prop} (A : Adds Z) {i m : Nat} (h : PartN Z i m) : Z i := by
  induction h with
  | nil => exact A.zero
  | cons _ zs ds _ ih => exact A.or ds zs ih
/-- The most parts that a subset of zero sum can have (any other: the most that a subset of it has). -/
def MostOf (Z : Nat → Prop) (i m : Nat) : Prop := (∃ j, Sub j i ∧ PartN Z j m) ∧ ∀ j k, Sub j i → PartN Z j k → k ≤ m
theorem most_unique {Z : Nat → Prop} {i a b : Nat} (ha : MostOf Z i a) (hb : MostOf Z i b) : a = b := by
  obtain ⟨⟨j, sj, pj⟩, h1⟩ := ha
  obtain ⟨⟨k, sk, pk⟩, h2⟩ := hb
  have := h1 k b sk pk
  have := h2 j a sj pj
  omega
theorem most_zero (Z : Nat → Prop) : MostOf Z 0 0 := by
  refine ⟨⟨0, fun _ h => h, PartN.nil⟩, fun j k sj pj => ?_⟩
  have : j = 0 := Nat.eq_of_testBit_eq fun b => by
    rw [Nat.zero_testBit]
    cases c : j.testBit b
    · rfl
    · have := sj b c; simp at this
  exact Nat.le_of_eq (pj.pos.2 this)
/-- Of a subset of zero sum: it is itself divided so. -/
theorem most_whole {Z : Nat → Prop} (A : Adds Z) {i m : Nat} (z : Z i) (h : MostOf Z i m) : PartN Z i m ∧ ∀ k, PartN Z i k → k ≤ m := by
  obtain ⟨⟨j, sj, pj⟩, h1⟩ := h
  refine ⟨?_, fun k pk => h1 i k (fun _ h => h) pk⟩
  obtain ⟨e, d, sx⟩ := xor_left sj
  by_cases c : i ^^^ j = 0
  · rw [c, Nat.or_zero] at e
    rw [← e]; exact pj
  · exfalso
    have zx : Z (i ^^^ j) := A.rest d (by rw [e]; exact z) (pj.z A)
    have p := pj.union (PartN.one c zx) d
    rw [e] at p
    have := h1 i _ (fun _ h => h) p
    omega
/-- A subset without one of its indices. -/
theorem without {i k : Nat} (h : i.testBit k = true) : Sub (2 ^ k) i ∧ Sub (i ^^^ 2 ^ k) i ∧ (i ^^^ 2 ^ k).testBit k = false := by
  have s : Sub (2 ^ k) i := fun j hj => by
    rw [Nat.testBit_two_pow] at hj
    have : k = j := by simpa using hj
    rw [← this]; exact h
  refine ⟨s, (xor_left s).2.2, ?_⟩
  rw [Nat.testBit_xor, h, Nat.testBit_two_pow_self]
  rfl
/-- The recursion: one index is taken last. M: the most of a subset without one index, over all indices. -/
theorem most_step {Z : Nat → Prop} (A : Adds Z) {i M : Nat} (i0 : i ≠ 0) (hM : (∃ k, i.testBit k = true ∧ MostOf Z (i ^^^ 2 ^ k) M) ∧ ∀ k, i.testBit k = true → ∃ m, MostOf Z (i ^^^ 2 ^ k) m ∧ m ≤ M) :
    (Z i → MostOf Z i (M + 1)) ∧ (¬ Z i → MostOf Z i M) := by
  obtain ⟨⟨k, ik, ⟨j, sj, pj⟩, _⟩, all⟩ := hM
  have sji : Sub j i := fun b hb => (without ik).2.1 b (sj b hb)
  -- a subset that lacks an index has no more than M parts
  have low : ∀ j m, Sub j i → j ≠ i → PartN Z j m → m ≤ M := fun j m sj ne pj => by
    have : ∃ b, i.testBit b = true ∧ j.testBit b = false := by
      refine Classical.byContradiction fun n => ne ?_
      refine Nat.eq_of_testBit_eq fun b => ?_
      cases c : i.testBit b
      · cases c' : j.testBit b
        · rfl
        · rw [sj b c'] at c; cases c
      · cases c' : j.testBit b
        · exact absurd ⟨b, c, c'⟩ n
        · rfl
    obtain ⟨b, ib, jb⟩ := this
    obtain ⟨m', ⟨_, h2⟩, le⟩ := all b ib
    have := h2 j m (fun x hx => by
      rw [Nat.testBit_xor, sj x hx, Nat.testBit_two_pow]
      by_cases e : b = x
      · rw [e] at jb; rw [jb] at hx; cases hx
      · simp [e]) pj
    omega
  constructor
  · intro z
    refine ⟨⟨i, fun _ h => h, ?_⟩, fun j m sj pj => ?_⟩
    · obtain ⟨e, d, _⟩ := xor_left sji
      have c : i ^^^ j ≠ 0 := fun c => by
        rw [c, Nat.or_zero] at e
        have := (without ik).2.2
        rw [← e] at this sj ik
        rw [sj k ik] at this
        cases this
      have zx : Z (i ^^^ j) := A.rest d (by rw [e]; exact z) (pj.z A)
      have p := pj.union (PartN.one c zx) d
      rwa [e] at p
    · by_cases c : j = i
      · subst c
        obtain ⟨b, jb⟩ := bit_some i0
        obtain ⟨s, i', m', sb, s0, _, ds, e, hp, em⟩ := pj.has b jb
        have : m' ≤ M := low i' m' (fun x hx => by rw [e, Nat.testBit_or, hx, Bool.or_true]) (fun q => by
          have := ds b
          rw [q] at this
          exact this ⟨sb, jb⟩) hp
        omega
      · have := low j m sj c pj
        omega
  · intro z
    refine ⟨⟨j, sji, pj⟩, fun j m sj pj => ?_⟩
    by_cases c : j = i
    · subst c; exact absurd (pj.z A) z
    · exact low j m sj c pj
end Go.Proofs.YtfiefmhnonddhaaDoor
