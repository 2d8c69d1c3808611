/-
  PLAIN: the balanced partition that Parts picks, part after part; the reference picks the same.
-/
import Derived.Test.YtfiefmhnonddhaaDoorSubU
namespace Go.Proofs.YtfiefmhnonddhaaDoor
def pickStep (n : Nat) (cond : Nat → Bool) (best s : Nat) : Nat := if cond s = true ∧ (best = 0 ∨ earlB (idxN n 0 s) (idxN n 0 best) = true) then s else best
/-- The first one, as a list, of the subsets that meet a condition; 0 if none does. -/
def pick (n left : Nat) (cond : Nat → Bool) : Nat := (subsD left left left).foldl (pickStep n cond) 0
theorem pick_some {n : Nat} {cond : Nat → Bool} : ∀ (L : List Nat) (b : Nat), (∀ s ∈ L, s ≠ 0) → (b = 0 ∨ cond b = true) → ((L.foldl (pickStep n cond) b = 0 ↔ b = 0 ∧ ∀ s ∈ L, cond s = false) ∧ (L.foldl (pickStep n cond) b = b ∨ L.foldl (pickStep n cond) b ∈ L ∧ cond (L.foldl (pickStep n cond) b) = true))
  | [], b, _, _ => ⟨by simp, .inl rfl⟩
  | s :: r, b, h, hb => by
    have s0 := h s (by simp)
    rw [List.foldl_cons]
    have hr : ∀ x ∈ r, x ≠ 0 := fun x hx => h x (by simp [hx])
    by_cases c : cond s = true ∧ (b = 0 ∨ earlB (idxN n 0 s) (idxN n 0 b) = true)
    · have e : pickStep n cond b s = s := by unfold pickStep; rw [if_pos c]
      rw [e]
      obtain ⟨i1, i2⟩ := pick_some r s hr (.inr c.1)
      refine ⟨⟨fun z => absurd (i1.1 z).1 s0, fun z => ?_⟩, ?_⟩
      · have := z.2 s (by simp)
        rw [c.1] at this; cases this
      · right
        rcases i2 with i2 | i2
        · rw [i2]; exact ⟨by simp, c.1⟩
        · exact ⟨by simp [i2.1], i2.2⟩
    · have e : pickStep n cond b s = b := by unfold pickStep; rw [if_neg c]
      rw [e]
      obtain ⟨i1, i2⟩ := pick_some r b hr hb
      refine ⟨⟨fun z => ?_, fun z => i1.2 ⟨z.1, fun x hx => z.2 x (by simp [hx])⟩⟩, i2.imp id fun i2 => ⟨by simp [i2.1], i2.2⟩⟩
      obtain ⟨b0, nr⟩ := i1.1 z
      refine ⟨b0, fun x hx => ?_⟩
      rcases List.mem_cons.1 hx with q | q
      · rw [q]
        cases d : cond s
        · rfl
        · exact absurd ⟨d, .inl b0⟩ c
      · exact nr x q
theorem pick_ok {n left : Nat} {cond : Nat → Bool} (h : ∃ s, s ≠ 0 ∧ Sub s left ∧ cond s = true) : pick n left cond ≠ 0 ∧ Sub (pick n left cond) left ∧ cond (pick n left cond) = true := by
  have mem := subsD_mem (left := left) left left (Nat.le_refl _) (fun _ h => h)
  obtain ⟨i1, i2⟩ := pick_some (n := n) (cond := cond) (subsD left left left) 0 (fun s hs => ((mem s).1 hs).1) (.inl rfl)
  have ne : pick n left cond ≠ 0 := fun z => by
    obtain ⟨s, s0, ss, cs⟩ := h
    have := (i1.1 z).2 s ((mem s).2 ⟨s0, sub_le ss, ss⟩)
    rw [cs] at this; cases this
  rcases i2 with e | ⟨m, c⟩
  · exact absurd e ne
  · exact ⟨ne, ((mem _).1 m).2.2, c⟩
theorem pick_congr {n left : Nat} {c d : Nat → Bool} (h : ∀ s, s ≠ 0 → Sub s left → c s = d s) : pick n left c = pick n left d := by
  have mem := subsD_mem (left := left) left left (Nat.le_refl _) (fun _ h => h)
  have g : ∀ (L : List Nat) (b : Nat), (∀ s ∈ L, c s = d s) → L.foldl (pickStep n c) b = L.foldl (pickStep n d) b := by
    intro L
    induction L with
    | nil => intro b _; rfl
    | cons s r ih =>
      intro b hL
      have e : pickStep n c b s = pickStep n d b s := by unfold pickStep; rw [hL s (by simp)]
      rw [List.foldl_cons, List.foldl_cons, e]
      exact ih _ fun x hx => hL x (by simp [hx])
  exact g _ 0 fun s hs => h s ((mem s).1 hs).1 ((mem s).1 hs).2.2
/-- The condition: a part that has the lowest index, whose sum is 0, and that leaves one part less to be had. -/
def condP (Z : Nat → Bool) (M : Nat → Int) (b left s : Nat) : Bool := s.testBit b && (Z s && decide (M (left ^^^ s) = M left - 1))
/-- The index of the lowest bit. -/
def bitLow (s : Nat) : Nat := Lib.ctzFrom (s + 1) s
/-- The parts that are picked, as subsets. -/
def partsTo (n : Nat) (Z : Nat → Bool) (M : Nat → Int) : Nat → Nat → List Nat
  | 0, _ => []
  | f + 1, left => if left = 0 then [] else pick n left (condP Z M (bitLow left) left) :: partsTo n Z M f (left ^^^ pick n left (condP Z M (bitLow left) left))
theorem bitLow_in {s : Nat} (h : s ≠ 0) : s.testBit (bitLow s) = true := by
  obtain ⟨m, hm, _⟩ := Lib.ctzFrom_spec (s + 1) s (by omega) (Nat.lt_trans (Nat.lt_succ_self s) Nat.lt_two_pow_self)
  unfold bitLow
  generalize Lib.ctzFrom (s + 1) s = k at *
  rw [hm, Nat.mul_comm, Nat.testBit_mul_two_pow]
  simp
/-- What is picked of a subset of zero sum. -/
theorem pick_part {Z : Nat → Bool} (A : Adds fun s => Z s = true) {M : Nat → Int} {n left m b : Nat} (lb : left.testBit b = true) (zl : Z left = true) (hM : ∀ s, Sub s left → Z s = true → ∃ k : Nat, M s = k ∧ MostOf (fun s => Z s = true) s k) (hm : MostOf (fun s => Z s = true) left m) :
    ∃ s, s = pick n left (condP Z M b left) ∧ s ≠ 0 ∧ Sub s left ∧ s.testBit b = true ∧ Z s = true ∧ Z (left ^^^ s) = true ∧ ∃ k, m = k + 1 ∧ MostOf (fun s => Z s = true) (left ^^^ s) k := by
  have Ml : M left = m := by
    obtain ⟨k, e, h⟩ := hM left (fun _ h => h) zl
    rw [e, most_unique h hm]
  obtain ⟨pl, ple⟩ := most_whole A zl hm
  have rest : ∀ s, Sub s left → Z s = true → Z (left ^^^ s) = true := fun s ss zs => by
    obtain ⟨e, d, _⟩ := xor_left ss
    exact A.rest d (by rw [e]; exact zl) zs
  have ex : ∃ s, s ≠ 0 ∧ Sub s left ∧ condP Z M b left s = true := by
    obtain ⟨s, i', m', sb, s0, zs, ds, e, hp, em⟩ := pl.has b lb
    have ss : Sub s left := fun j hj => by rw [e, Nat.testBit_or, hj]; rfl
    refine ⟨s, s0, ss, ?_⟩
    obtain ⟨eq, d, sx⟩ := xor_left ss
    have ei : left ^^^ s = i' := by
      refine Nat.eq_of_testBit_eq fun j => ?_
      rw [e, Nat.testBit_xor, Nat.testBit_or]
      have := ds j
      cases a1 : s.testBit j <;> cases a2 : i'.testBit j <;> simp [a1, a2] at this ⊢
    obtain ⟨k, ek, hk⟩ := hM (left ^^^ s) sx (rest s ss zs)
    obtain ⟨pk, pke⟩ := most_whole A (rest s ss zs) hk
    have l1 := pke m' (by rw [ei]; exact hp)
    have l2 := ple (k + 1) (by
      have := PartN.cons s0 zs d pk
      rwa [eq] at this)
    unfold condP
    rw [sb, zs, Ml, ek, decide_eq_true (by omega)]
    rfl
  obtain ⟨p0, ps, pc⟩ := pick_ok (n := n) ex
  refine ⟨_, rfl, p0, ps, ?_⟩
  generalize pick n left (condP Z M b left) = s at *
  unfold condP at pc
  rw [Bool.and_eq_true, Bool.and_eq_true, decide_eq_true_eq] at pc
  obtain ⟨sb, zs, eM⟩ := pc
  obtain ⟨k, ek, hk⟩ := hM (left ^^^ s) (xor_left ps).2.2 (rest s ps zs)
  exact ⟨sb, zs, rest s ps zs, k, by omega, hk⟩
theorem parts_ok {Z : Nat → Bool} (A : Adds fun s => Z s = true) {M : Nat → Int} {n : Nat} : ∀ (f left m : Nat), left ≤ f → Z left = true → (∀ s, Sub s left → Z s = true → ∃ k : Nat, M s = k ∧ MostOf (fun s => Z s = true) s k) → MostOf (fun s => Z s = true) left m →
    (partsTo n Z M f left).length = m ∧ ∀ s ∈ partsTo n Z M f left, s ≠ 0 ∧ Sub s left ∧ Z s = true
  | 0, left, m, h, z, _, hm => by
    have : left = 0 := by omega
    subst this
    rw [most_unique hm (most_zero _)]
    exact ⟨rfl, fun s hs => by cases hs⟩
  | f + 1, left, m, h, z, hM, hm => by
    unfold partsTo
    by_cases c : left = 0
    · subst c
      rw [if_pos rfl, most_unique hm (most_zero _)]
      exact ⟨rfl, fun s hs => by cases hs⟩
    · rw [if_neg c]
      obtain ⟨s, es, s0, ss, sb, zs, zr, k, ek, hk⟩ := pick_part (n := n) A (bitLow_in c) z hM hm
      rw [← es]
      have sx := (xor_left ss).2.2
      have lt : left ^^^ s ≤ f := by
        rw [sub_xor ss]
        have := sub_le ss
        omega
      obtain ⟨i1, i2⟩ := parts_ok (n := n) A f (left ^^^ s) k lt zr (fun t ht zt => hM t (fun j hj => sx j (ht j hj)) zt) hk
      refine ⟨by rw [List.length_cons, i1]; omega, fun t ht => ?_⟩
      rcases List.mem_cons.1 ht with e | e
      · rw [e]; exact ⟨s0, ss, zs⟩
      · obtain ⟨a, b, d⟩ := i2 t e
        exact ⟨a, fun j hj => sx j (b j hj), d⟩
/-- Two tables that agree on the subsets of zero sum pick the same. -/
theorem parts_congr {Z : Nat → Bool} (A : Adds fun s => Z s = true) {M C : Nat → Int} {n : Nat} (hMC : ∀ s, Z s = true → s < 2 ^ n → M s = C s) : ∀ (f left : Nat), left < 2 ^ n → Z left = true → partsTo n Z M f left = partsTo n Z C f left
  | 0, _, _, _ => rfl
  | f + 1, left, h, z => by
    unfold partsTo
    have rest : ∀ s, Sub s left → Z s = true → Z (left ^^^ s) = true := fun s ss zs => by
      obtain ⟨e, d, _⟩ := xor_left ss
      exact A.rest d (by rw [e]; exact z) zs
    have lt : ∀ s, Sub s left → left ^^^ s < 2 ^ n := fun s ss => Nat.lt_of_le_of_lt (sub_le (xor_left ss).2.2) h
    have e : pick n left (condP Z M (bitLow left) left) = pick n left (condP Z C (bitLow left) left) := pick_congr fun s _ ss => by
      unfold condP
      cases zs : Z s
      · rfl
      · rw [hMC _ (rest s ss zs) (lt s ss), hMC left z h]
    rw [e]
    split
    · rfl
    · generalize hp : pick n left (condP Z C (bitLow left) left) = s
      congr 1
      by_cases ex : ∃ s, s ≠ 0 ∧ Sub s left ∧ condP Z C (bitLow left) left s = true
      · obtain ⟨_, ps, pc⟩ := pick_ok (n := n) ex
        rw [hp] at ps pc
        unfold condP at pc
        rw [Bool.and_eq_true, Bool.and_eq_true] at pc
        exact parts_congr A hMC f _ (lt s ps) (rest s ps pc.2.1)
      · have mem := subsD_mem (left := left) left left (Nat.le_refl _) (fun _ h => h)
        have s0 : s = 0 := by
          rw [← hp]
          refine (pick_some (n := n) (subsD left left left) 0 (fun s hs => ((mem s).1 hs).1) (.inl rfl)).1.2 ⟨rfl, fun t ht => ?_⟩
          cases c : condP Z C (bitLow left) left t
          · rfl
          · exact absurd ⟨t, ((mem t).1 ht).1, ((mem t).1 ht).2.2, c⟩ ex
        rw [s0, Nat.xor_zero]
        exact parts_congr A hMC f left h z
end Go.Proofs.YtfiefmhnonddhaaDoor
