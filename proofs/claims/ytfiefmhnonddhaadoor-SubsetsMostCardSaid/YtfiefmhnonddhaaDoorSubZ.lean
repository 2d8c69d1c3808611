/-
  PLAIN: the entries of the code's table and of the reference's.
-/
import Derived.Test.YtfiefmhnonddhaaDoorSubY
namespace Go.Proofs.YtfiefmhnonddhaaDoor
theorem fold_max {α : Type} (g : α → Int) : ∀ (L : List α) (a : Int), a ≤ L.foldl (fun a k => max a (g k)) a ∧ (∀ k ∈ L, g k ≤ L.foldl (fun a k => max a (g k)) a) ∧ (L.foldl (fun a k => max a (g k)) a = a ∨ ∃ k ∈ L, g k = L.foldl (fun a k => max a (g k)) a)
  | [], a => ⟨Int.le_refl _, (fun k hk => by cases hk), .inl rfl⟩
  | x :: r, a => by
    obtain ⟨h1, h2, h3⟩ := fold_max g r (max a (g x))
    rw [List.foldl_cons]
    refine ⟨by omega, fun k hk => ?_, ?_⟩
    · rcases List.mem_cons.1 hk with e | e
      · rw [e]; omega
      · exact h2 k e
    · rcases h3 with h3 | ⟨k, hk, e⟩
      · rw [h3]
        rcases Int.le_total a (g x) with c | c
        · exact .inr ⟨x, by simp, by omega⟩
        · left; omega
      · exact .inr ⟨k, by simp [hk], e⟩
/-- The code's entry of a subset. -/
def mostE (n : Nat) (Z : Nat → Bool) (M : Nat → Int) (i : Nat) : Int := (idxN n 0 i).foldl (fun a k => max a (M (i ^^^ 2 ^ k.toNat))) 0 + if Z i = true then 1 else 0
theorem most_entry {Z : Nat → Bool} (A : Adds fun s => Z s = true) {M : Nat → Int} {n i : Nat} (i0 : i ≠ 0) (hi : i < 2 ^ n) (hM : ∀ j, j < i → ∃ k : Nat, M j = k ∧ MostOf (fun s => Z s = true) j k) : ∃ m : Nat, mostE n Z M i = m ∧ MostOf (fun s => Z s = true) i m := by
  have sm : ∀ k, i.testBit k = true → i ^^^ 2 ^ k < i := fun k hk => by
    have w := without hk
    rw [sub_xor w.1]
    have := sub_le w.1
    have := Nat.two_pow_pos k
    omega
  have mem : ∀ x, x ∈ idxN n 0 i ↔ 0 ≤ x ∧ i.testBit x.toNat = true := fun x => by
    rw [idx_mem]
    constructor
    · rintro ⟨j, _, e, b⟩
      have : x.toNat = j := by omega
      rw [this]; exact ⟨by omega, b⟩
    · rintro ⟨h, b⟩; exact ⟨x.toNat, bit_lt hi b, by omega, b⟩
  obtain ⟨h1, h2, h3⟩ := fold_max (fun k : Int => M (i ^^^ 2 ^ k.toNat)) (idxN n 0 i) 0
  unfold mostE
  generalize (idxN n 0 i).foldl (fun a k => max a (M (i ^^^ 2 ^ k.toNat))) 0 = F at *
  have hex : ∃ k, i.testBit k = true ∧ MostOf (fun s => Z s = true) (i ^^^ 2 ^ k) F.toNat := by
    rcases h3 with h3 | ⟨k, hk, e⟩
    · obtain ⟨b, hb⟩ := bit_some i0
      obtain ⟨m, em, hm⟩ := hM _ (sm b hb)
      have := h2 (b : Int) ((mem _).2 ⟨by omega, by simpa using hb⟩)
      simp only [Int.toNat_natCast] at this
      rw [em] at this
      have e : F.toNat = m := by omega
      rw [e]
      exact ⟨b, hb, hm⟩
    · obtain ⟨k0, kb⟩ := (mem k).1 hk
      obtain ⟨m, em, hm⟩ := hM _ (sm _ kb)
      have e2 : F.toNat = m := by omega
      rw [e2]
      exact ⟨k.toNat, kb, hm⟩
  have hall : ∀ k, i.testBit k = true → ∃ m, MostOf (fun s => Z s = true) (i ^^^ 2 ^ k) m ∧ m ≤ F.toNat := fun k hk => by
    obtain ⟨m, em, hm⟩ := hM _ (sm k hk)
    have := h2 (k : Int) ((mem _).2 ⟨by omega, by simpa using hk⟩)
    have e : M (i ^^^ 2 ^ (k : Int).toNat) = m := em
    exact ⟨m, hm, by omega⟩
  obtain ⟨s1, s2⟩ := most_step A i0 ⟨hex, hall⟩
  cases z : Z i
  · exact ⟨F.toNat, by rw [if_neg (by decide)]; omega, s2 (by rw [z]; decide)⟩
  · exact ⟨F.toNat + 1, by rw [if_pos rfl]; omega, s1 z⟩
/-- The reference's entry of a subset. -/
def cntStep (Z : Nat → Bool) (C : Nat → Int) (i b : Nat) (best : Int) (p : Nat) : Int := if p.testBit b = true ∧ Z p = true ∧ 0 ≤ C (i - p) ∧ best < C (i - p) + 1 then C (i - p) + 1 else best
def cntE (Z : Nat → Bool) (C : Nat → Int) (i b : Nat) : Int := (subsD i i i).foldl (cntStep Z C i b) (-1)
theorem cnt_fold {Z : Nat → Bool} {C : Nat → Int} {i b : Nat} : ∀ (L : List Nat) (a : Int), a ≤ L.foldl (cntStep Z C i b) a ∧ (∀ p ∈ L, p.testBit b = true → Z p = true → 0 ≤ C (i - p) → C (i - p) + 1 ≤ L.foldl (cntStep Z C i b) a) ∧ (L.foldl (cntStep Z C i b) a = a ∨ ∃ p ∈ L, p.testBit b = true ∧ Z p = true ∧ 0 ≤ C (i - p) ∧ L.foldl (cntStep Z C i b) a = C (i - p) + 1)
  | [], a => ⟨Int.le_refl _, (fun p hp => by cases hp), .inl rfl⟩
  | x :: r, a => by
    obtain ⟨h1, h2, h3⟩ := cnt_fold (Z := Z) (C := C) (i := i) (b := b) r (cntStep Z C i b a x)
    rw [List.foldl_cons]
    have up : a ≤ cntStep Z C i b a x := by unfold cntStep; split <;> omega
    refine ⟨by omega, fun p hp pb zp c0 => ?_, ?_⟩
    · rcases List.mem_cons.1 hp with e | e
      · have : C (i - x) + 1 ≤ cntStep Z C i b a x := by
          rw [e] at pb zp c0
          unfold cntStep
          split
          · omega
          · rename_i n
            have : ¬ a < C (i - x) + 1 := fun q => n ⟨pb, zp, c0, q⟩
            omega
        rw [e]; omega
      · exact h2 p e pb zp c0
    · rcases h3 with h3 | ⟨p, hp, q⟩
      · rw [h3]
        unfold cntStep
        split
        · rename_i c; exact .inr ⟨x, by simp, c.1, c.2.1, c.2.2.1, rfl⟩
        · exact .inl rfl
      · exact .inr ⟨p, by simp [hp], q⟩
theorem cnt_entry {Z : Nat → Bool} {C : Nat → Int} {i b : Nat} (ib : i.testBit b = true) (hC : ∀ j, j < i → CntOf (fun s => Z s = true) j (C j)) : CntOf (fun s => Z s = true) i (cntE Z C i b) := by
  have mem := subsD_mem (left := i) i i (Nat.le_refl _) (fun _ h => h)
  obtain ⟨_, h2, h3⟩ := cnt_fold (Z := Z) (C := C) (i := i) (b := b) (subsD i i i) (-1)
  have sm : ∀ s, Sub s i → s.testBit b = true → i - s < i := fun s ss sb => by
    have : s ≠ 0 := fun q => by rw [q, Nat.zero_testBit] at sb; cases sb
    have := sub_le ss
    omega
  refine cnt_step ib (fun s ss sb zs => ⟨C (i - s), by rw [sub_xor ss]; exact hC _ (sm s ss sb), fun c0 => ?_⟩) ?_
  · have s0 : s ≠ 0 := fun q => by rw [q, Nat.zero_testBit] at sb; cases sb
    exact h2 s ((mem s).2 ⟨s0, sub_le ss, ss⟩) sb zs c0
  · rcases h3 with h3 | ⟨p, hp, pb, zp, c0, e⟩
    · exact .inl h3
    · have sp := ((mem p).1 hp).2.2
      exact .inr ⟨p, C (i - p), sp, pb, zp, by rw [sub_xor sp]; exact hC _ (sm p sp pb), c0, e⟩
/-- Both tables agree where the sum is 0. -/
theorem tables_agree {Z : Nat → Bool} (A : Adds fun s => Z s = true) {M C : Nat → Int} {s : Nat} (z : Z s = true) (hM : ∃ k : Nat, M s = k ∧ MostOf (fun s => Z s = true) s k) (hC : CntOf (fun s => Z s = true) s (C s)) : M s = C s := by
  obtain ⟨k, e, hk⟩ := hM
  rw [e]
  exact cnt_unique (cnt_most A z hk) hC
end Go.Proofs.YtfiefmhnonddhaaDoor
