/-
  PLAIN: the code's table of how many parts a subset has; bits of words; the picking, one step after the other.
-/
import Derived.Test.YtfiefmhnonddhaaDoorCheckA
namespace Go.Proofs.YtfiefmhnonddhaaDoor
open Go.RowKit

theorem bits_andNot_u32 (a b : Nat) (ha : a < 4294967296) (hb : b < 4294967296) (hs : Sub b a) : bits .andNot .u32 (a : Int) (b : Int) = ((a ^^^ b : Nat) : Int) := by
  have hx : a ^^^ b < 2 ^ 32 := Nat.xor_lt_two_pow (by omega) (by omega)
  have h1 : (BitVec.ofInt 32 (a : Int)).toNat = a := by
    rw [BitVec.ofInt_natCast, BitVec.toNat_ofNat]; exact Nat.mod_eq_of_lt (by omega)
  have h2 : (BitVec.ofInt 32 (b : Int)).toNat = b := by
    rw [BitVec.ofInt_natCast, BitVec.toNat_ofNat]; exact Nat.mod_eq_of_lt (by omega)
  show IntKind.u32.wrap ((BitVec.ofInt 32 (a : Int) &&& ~~~ BitVec.ofInt 32 (b : Int)).toNat : Int) = _
  have e : (BitVec.ofInt 32 (a : Int) &&& ~~~ BitVec.ofInt 32 (b : Int)).toNat = a ^^^ b := by
    rw [BitVec.toNat_and, BitVec.toNat_not, h1, h2]
    refine Nat.eq_of_testBit_eq fun j => ?_
    rw [Nat.testBit_and, Nat.testBit_xor, show 2 ^ 32 - 1 - b = 2 ^ 32 - (b + 1) by omega, Nat.testBit_two_pow_sub_succ (by omega)]
    have := hs j
    cases h3 : a.testBit j <;> cases h4 : b.testBit j <;> simp [h3, h4] at this ⊢
    exact bit_lt (show a < 2 ^ 32 by omega) h3
  rw [e, Go.Proofs.wrap_u32']
  omega
theorem bits_andNot_i64 (a b : Nat) (ha : a < 65536) (hb : b < 65536) (hs : Sub b a) : bits .andNot .i64 (a : Int) (b : Int) = ((a ^^^ b : Nat) : Int) := by
  have hx : a ^^^ b < 2 ^ 16 := Nat.xor_lt_two_pow (by omega) (by omega)
  have h1 : (BitVec.ofInt 64 (a : Int)).toNat = a := by
    rw [BitVec.ofInt_natCast, BitVec.toNat_ofNat]; exact Nat.mod_eq_of_lt (by omega)
  have h2 : (BitVec.ofInt 64 (b : Int)).toNat = b := by
    rw [BitVec.ofInt_natCast, BitVec.toNat_ofNat]; exact Nat.mod_eq_of_lt (by omega)
  show IntKind.i64.wrap ((BitVec.ofInt 64 (a : Int) &&& ~~~ BitVec.ofInt 64 (b : Int)).toNat : Int) = _
  have e : (BitVec.ofInt 64 (a : Int) &&& ~~~ BitVec.ofInt 64 (b : Int)).toNat = a ^^^ b := by
    rw [BitVec.toNat_and, BitVec.toNat_not, h1, h2]
    refine Nat.eq_of_testBit_eq fun j => ?_
    rw [Nat.testBit_and, Nat.testBit_xor, show 2 ^ 64 - 1 - b = 2 ^ 64 - (b + 1) by omega, Nat.testBit_two_pow_sub_succ (by omega)]
    have := hs j
    cases h3 : a.testBit j <;> cases h4 : b.testBit j <;> simp [h3, h4] at this ⊢
    exact bit_lt (show a < 2 ^ 64 by omega) h3
  rw [e, IntKind.wrap_i64]
  omega
/-- One bit less, whether it was there or not. -/
theorem bits_clear_u32 (a k : Nat) (ha : a < 65536) (hk : k < 16) : ∃ c : Nat, bits .andNot .u32 (a : Int) ((2 ^ k : Nat) : Int) = (c : Int) ∧ c ≤ a ∧ ∀ j, c.testBit j = (a.testBit j && !decide (j = k)) := by
  have hp : 2 ^ k < 65536 := Nat.lt_of_lt_of_le (Nat.pow_lt_pow_right (by decide) hk) (by decide)
  have h1 : (BitVec.ofInt 32 (a : Int)).toNat = a := by
    rw [BitVec.ofInt_natCast, BitVec.toNat_ofNat]; exact Nat.mod_eq_of_lt (by omega)
  have h2 : (BitVec.ofInt 32 ((2 ^ k : Nat) : Int)).toNat = 2 ^ k := by
    rw [BitVec.ofInt_natCast, BitVec.toNat_ofNat]; exact Nat.mod_eq_of_lt (by omega)
  have e : (BitVec.ofInt 32 (a : Int) &&& ~~~ BitVec.ofInt 32 ((2 ^ k : Nat) : Int)).toNat = a &&& (2 ^ 32 - 1 - 2 ^ k) := by
    rw [BitVec.toNat_and, BitVec.toNat_not, h1, h2]
  have hle : a &&& (2 ^ 32 - 1 - 2 ^ k) ≤ a := Nat.and_le_left
  refine ⟨a &&& (2 ^ 32 - 1 - 2 ^ k), ?_, hle, fun j => ?_⟩
  · show IntKind.u32.wrap ((BitVec.ofInt 32 (a : Int) &&& ~~~ BitVec.ofInt 32 ((2 ^ k : Nat) : Int)).toNat : Int) = _
    rw [e, Go.Proofs.wrap_u32']
    omega
  · rw [Nat.testBit_and, show 2 ^ 32 - 1 - 2 ^ k = 2 ^ 32 - (2 ^ k + 1) by omega, Nat.testBit_two_pow_sub_succ (by omega), Nat.testBit_two_pow]
    cases h3 : a.testBit j
    · rfl
    · have := bit_lt (show a < 2 ^ 32 by omega) h3
      rw [decide_eq_true this]
      simp only [Bool.true_and]
      by_cases e : k = j
      · rw [decide_eq_true e, decide_eq_true e.symm]
      · rw [decide_eq_false e, decide_eq_false (fun h => e h.symm)]
theorem low_two (x : Nat) (h0 : x ≠ 0) (hx : x < 65536) : x &&& ((4294967296 - x) % 4294967296) = 2 ^ bitLow x ∧ bitLow x < 16 := by
  obtain ⟨hlow, hk⟩ := Lib.lowest_bit 32 x h0 (by omega)
  have e1 : (4294967296 - x) % 4294967296 = 2 ^ 32 - x := by omega
  have hc : Lib.ctz 32 x = bitLow x := by
    unfold Lib.ctz bitLow
    rw [if_neg h0]
    have h1 := idx_low 32 0 x h0 (by omega) 32 (by omega)
    have hlt : x < 2 ^ (x + 1) := Nat.lt_trans (Nat.lt_succ_self x) Nat.lt_two_pow_self
    rcases Nat.le_total 32 (x + 1) with c | c
    · have h2 := idx_low 32 0 x h0 (by omega) (x + 1) c
      rw [h1] at h2
      simp only [List.cons.injEq] at h2
      omega
    · have h3 := idx_low (x + 1) 0 x h0 hlt (x + 1) (by omega)
      have h4 := idx_low (x + 1) 0 x h0 hlt 32 c
      rw [h3] at h4
      simp only [List.cons.injEq] at h4
      omega
  rw [e1, hlow, hc]
  refine ⟨rfl, ?_⟩
  exact bit_lt (show x < 2 ^ 16 by omega) (bitLow_in h0)
theorem and_two (s b : Nat) : ((s &&& 2 ^ b : Nat) : Int) = 0 ↔ s.testBit b = false := by
  constructor
  · intro h
    have h2 : s &&& 2 ^ b = 0 := by omega
    have := congrArg (fun x => x.testBit b) h2
    simp only [Nat.testBit_and, Nat.testBit_two_pow, Nat.zero_testBit] at this
    simpa using this
  · intro h
    have : s &&& 2 ^ b = 0 := Nat.eq_of_testBit_eq fun j => by
      rw [Nat.testBit_and, Nat.testBit_two_pow, Nat.zero_testBit]
      by_cases e : b = j
      · rw [← e, h]; rfl
      · rw [decide_eq_false e, Bool.and_false]
    rw [this]; rfl

/-- A sum is zero. -/
def zeroB (L : List Int) (s : Nat) : Bool := decide (sumN L s = 0)
theorem zero_adds (L : List Int) : Adds fun s => zeroB L s = true := by
  have e : (fun s => zeroB L s = true) = fun s => sumN L s = 0 := funext fun s => by unfold zeroB; rw [decide_eq_true_eq]
  rw [e]
  exact sum_adds L
/-- The code's table, up to i. -/
def mostTo (L : List Int) : Nat → List Int
  | 0 => [0]
  | i + 1 => mostTo L i ++ [mostE L.length (zeroB L) (ig (mostTo L i)) (i + 1)]
theorem mostTo_len (L : List Int) : ∀ i, (mostTo L i).length = i + 1
  | 0 => rfl
  | i + 1 => by rw [mostTo, List.length_append, mostTo_len L i]; rfl
theorem mostTo_ok (L : List Int) : ∀ i, i < 2 ^ L.length → ∀ j, j ≤ i → ∃ k : Nat, ig (mostTo L i) j = k ∧ k ≤ j ∧ MostOf (fun s => zeroB L s = true) j k
  | 0, _, j, hj => by
    obtain rfl : j = 0 := by omega
    exact ⟨0, rfl, Nat.le_refl _, most_zero _⟩
  | i + 1, h, j, hj => by
    have ih := mostTo_ok L i (by omega)
    rcases Nat.lt_or_ge j (i + 1) with l | l
    · rw [mostTo, ig_old _ _ _ (by rw [mostTo_len]; exact l)]
      exact ih j (by omega)
    · obtain rfl : j = i + 1 := by omega
      have e : ig (mostTo L (i + 1)) (i + 1) = mostE L.length (zeroB L) (ig (mostTo L i)) (i + 1) := by
        rw [mostTo]
        have := ig_new (mostTo L i) (mostE L.length (zeroB L) (ig (mostTo L i)) (i + 1))
        rwa [mostTo_len] at this
      obtain ⟨m, em, hm⟩ := most_entry (zero_adds L) (M := ig (mostTo L i)) (show i + 1 ≠ 0 by omega) h fun j hj => by
        obtain ⟨k, e, _, hk⟩ := ih j (by omega)
        exact ⟨k, e, hk⟩
      rw [e]
      refine ⟨m, em, ?_, hm⟩
      unfold mostE at em
      obtain ⟨h1, h2, h3⟩ := fold_max (fun k : Int => ig (mostTo L i) ((i + 1) ^^^ 2 ^ k.toNat)) (idxN L.length 0 (i + 1)) 0
      have hF : (idxN L.length 0 (i + 1)).foldl (fun a k => max a (ig (mostTo L i) ((i + 1) ^^^ 2 ^ k.toNat))) 0 ≤ i := by
        rcases h3 with h3 | ⟨k, hk, e3⟩
        · rw [h3]; omega
        · rw [← e3]
          obtain ⟨b, hb, eb, tb⟩ := (idx_mem _ _ _ _).1 hk
          have hb2 : k.toNat = b := by omega
          rw [hb2]
          have w := without tb
          have hlt : (i + 1) ^^^ 2 ^ b < i + 1 := by
            rw [sub_xor w.1]
            have := Nat.two_pow_pos b
            omega
          obtain ⟨k2, e2, hk2, _⟩ := ih _ (show (i + 1) ^^^ 2 ^ b ≤ i by omega)
          rw [e2]
          omega
      generalize (idxN L.length 0 (i + 1)).foldl (fun a k => max a (ig (mostTo L i) ((i + 1) ^^^ 2 ^ k.toNat))) 0 = F at *
      by_cases z : zeroB L (i + 1) = true
      · rw [if_pos z] at em; omega
      · rw [if_neg z] at em; omega
/-- The code's table. -/
def mostL (L : List Int) (s : Nat) : Int := ig (mostTo L (2 ^ L.length - 1)) s
theorem mostL_ok (L : List Int) (s : Nat) (h : s < 2 ^ L.length) : ∃ k : Nat, mostL L s = k ∧ k ≤ s ∧ MostOf (fun s => zeroB L s = true) s k := mostTo_ok L _ (by omega) s (by omega)
/-- The table in memory: what is done, the entry under way, zeros. -/
def rowM (T : List Int) (c : Int) (m : Nat) : List Int := T ++ c :: List.replicate m 0
theorem rowM_len (T : List Int) (c : Int) (m : Nat) : (rowM T c m).length = T.length + 1 + m := by simp [rowM]; omega
theorem rowM_old (T : List Int) (c : Int) (m j : Nat) (h : j < T.length) : ig (rowM T c m) j = ig T j := by unfold ig rowM; rw [List.getElem?_append_left h]
theorem rowM_cur (T : List Int) (c : Int) (m : Nat) : ig (rowM T c m) T.length = c := by unfold ig rowM; rw [List.getElem?_append_right (Nat.le_refl _)]; simp
theorem rowM_set (T : List Int) (c d : Int) (m : Nat) : (rowM T c m).set T.length d = rowM T d m := by unfold rowM; rw [List.set_append_right _ _ (Nat.le_refl _)]; simp
theorem rowM_next (T : List Int) (c : Int) (m : Nat) : rowM T c (m + 1) = rowM (T ++ [c]) 0 m := by unfold rowM; simp [List.replicate_succ]
/-- The entry under way, after some indices. -/
def maxTo (M : Nat → Int) (i : Nat) (ks : List Int) : Int := ks.foldl (fun a k => max a (M (i ^^^ 2 ^ k.toNat))) 0
theorem maxTo_snoc (M : Nat → Int) (i : Nat) (ks : List Int) (k : Int) : maxTo M i (ks ++ [k]) = max (maxTo M i ks) (M (i ^^^ 2 ^ k.toNat)) := by unfold maxTo; rw [List.foldl_append]; rfl
theorem take_snoc {p : List Int} {m : Nat} (h : m < p.length) : p.take (m + 1) = p.take m ++ [ig p m] := by
  rw [List.take_succ_eq_append_getElem h, ig_eq p m h]
theorem idx_at {n i m : Nat} (h : m < (idxN n 0 i).length) : ∃ k : Nat, ig (idxN n 0 i) m = k ∧ k < n ∧ i.testBit k = true := by
  have := (idx_mem n 0 i _).1 (List.getElem_mem h)
  obtain ⟨j, hj, e, b⟩ := this
  exact ⟨j, by rw [ig_eq _ _ h, e]; simp, hj, b⟩
end Go.Proofs.YtfiefmhnonddhaaDoor
