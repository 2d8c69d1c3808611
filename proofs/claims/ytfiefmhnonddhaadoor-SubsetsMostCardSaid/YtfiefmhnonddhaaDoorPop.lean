/-
  THE WALK of math/bits.OnesCount32 at a number below 65536.
-/
import Derived.Test.YtfiefmhnonddhaaDoorTz
import Derived.Laws.BitsLemmas
import Derived.Deep.Cut
namespace Go.Proofs.YtfiefmhnonddhaaDoor
open Go.RowKit Go.Shelf

theorem u32_and (a b : Nat) (ha : a < 4294967296) (hb : b < 4294967296) : bits .and .u32 (a : Int) (b : Int) = ((a &&& b : Nat) : Int) := bits_and_u32_nat a b ha hb

theorem siz_split : ∀ (n m s : Nat), sizN (n + m) s = sizN n (s % 2 ^ n) + sizN m (s / 2 ^ n)
  | 0, m, s => by simp [sizN]
  | n + 1, m, s => by
    rw [show n + 1 + m = (n + m) + 1 by omega, sizN_succ, sizN_succ, siz_split n m (s / 2)]
    have e1 : s % 2 ^ (n + 1) / 2 = s / 2 % 2 ^ n := by rw [Nat.pow_succ, Nat.mul_comm, Nat.mod_mul_right_div_self]
    have e2 : s % 2 ^ (n + 1) % 2 = s % 2 := by rw [Nat.pow_succ, Nat.mul_comm]; exact Nat.mod_mul_right_mod _ _ _
    have e3 : s / 2 / 2 ^ n = s / 2 ^ (n + 1) := by rw [Nat.div_div_eq_div_mul, Nat.pow_succ, Nat.mul_comm 2]
    rw [e1, e2, e3]
    omega
theorem siz_zero : ∀ n : Nat, sizN n 0 = 0
  | 0 => rfl
  | n + 1 => by rw [sizN_succ, siz_zero n]
theorem siz_more {n m s : Nat} (h : s < 2 ^ n) (hm : n ≤ m) : sizN m s = sizN n s := by
  obtain ⟨k, rfl⟩ : ∃ k, m = n + k := ⟨m - n, by omega⟩
  rw [siz_split n k s, Nat.mod_eq_of_lt h, Nat.div_eq_of_lt h, siz_zero, Nat.add_zero]

set_option maxHeartbeats 1000000 in
theorem ones_any (s : Nat) (hs : s < 65536) (w : World) :
    Calls Tryd.prog 63 #[.int .u32 s] w fun e w' => e = .returned (.int .i64 (sizN 16 s : Nat)) ∧ Below w.heap.size w w' := by
  have e1 : (s : Int) / 16777216 = 0 := by omega
  have e2 : (s : Int) / 65536 = 0 := by omega
  have e3 : (s : Int) / 256 = ((s / 256 : Nat) : Int) := by omega
  have b0 : bits .and .u32 0 255 = 0 := by decide +kernel
  have b1 : bits .and .u32 ((s / 256 : Nat) : Int) 255 = ((s / 256 : Nat) : Int) := by
    have := u32_and (s / 256) 255 (by omega) (by omega)
    have h2 : s / 256 &&& 255 = s / 256 := by rw [Nat.and_two_pow_sub_one_eq_mod (n := 8)]; omega
    rw [h2] at this
    exact this
  have b2 : bits .and .u32 (s : Int) 255 = ((s % 256 : Nat) : Int) := by
    have := u32_and s 255 (by omega) (by omega)
    rw [Nat.and_two_pow_sub_one_eq_mod (n := 8)] at this
    exact this
  go_enter Tryd.func63, Tryd.ntmps63
  generalize hS : (ByteArray.mk _) = S
  have hz : S.size = 256 := by rw [← hS]; decide +kernel
  have hv : ∀ i : Fin 256, ((S.data[i.val]?).getD 0).toNat = sizN 8 i.val := by
    subst hS
    decide +kernel
  clear hS
  have hq : ∀ (x : Nat) (w : World), x < 256 → (Instr.index 9 (.string S) (.int .u32 x)).run Tryd.prog w = .ok (.int .u8 (sizN 8 x : Nat)) w := fun x w hx => by
    rw [run_index_string w _ S .u32 x Tryd.underlying9, dif_pos ⟨by omega, by rw [hz]; omega⟩]
    have := hv ⟨x, hx⟩
    have hx' : x < S.data.size := by
      have : S.data.size = S.size := rfl
      omega
    simp only [Array.getElem?_eq_getElem hx', Option.getD_some] at this
    rw [← this]
    rfl
  have l1 := siz_le 8 (s / 256)
  have l2 := siz_le 8 (s % 256)
  have hsum : sizN 16 s = sizN 8 (s / 256) + sizN 8 (s % 256) := by
    have : sizN 16 s = sizN 8 (s % 256) + sizN 8 (s / 256) := siz_split 8 8 s
    omega
  obtain ⟨k1, hk1⟩ : ∃ k : Nat, sizN 8 (s / 256) = k := ⟨_, rfl⟩
  obtain ⟨k2, hk2⟩ : ∃ k : Nat, sizN 8 (s % 256) = k := ⟨_, rfl⟩
  have q0 : ∀ w, (Instr.index 9 (.string S) (.int .u32 0)).run Tryd.prog w = .ok (.int .u8 0) w := fun w => hq 0 w (by omega)
  have q1 := fun w => hq (s / 256) w (by omega)
  have q2 := fun w => hq (s % 256) w (by omega)
  clear hq hv hz
  rw [hk1] at q1 l1
  rw [hk2] at q2 l2
  obtain ⟨x1, hx1⟩ : ∃ x : Int, ((s / 256 : Nat) : Int) = x := ⟨_, rfl⟩
  obtain ⟨x2, hx2⟩ : ∃ x : Int, ((s % 256 : Nat) : Int) = x := ⟨_, rfl⟩
  rw [hx1] at q1 b1 e3
  rw [hx2] at q2 b2
  have HF := Lib.hid hsum
  have w1 : (k1 : Int) % 256 = k1 := by omega
  have w2 : ((k1 : Int) + k2) % 256 = k1 + k2 := by omega
  rw [hsum, hk1, hk2]
  clear hsum hk1 hk2 hx1 hx2
  go_upto_region 1 with (fail)
  go_quiet (fail)
  go_wp2
  go_ret
  exact ⟨ret_int (Int.natCast_add k1 k2).symm, below_drewN (Below.refl _ _) _⟩

set_option maxHeartbeats 1000000 in
theorem size_any (n s : Nat) (hn : n ≤ 16) (hs : s < 2 ^ n) (w : World) :
    Calls Tryd.prog 51 #[.int .u32 s] w fun e w' => e = .returned (.int .i64 (sizN n s : Nat)) ∧ Below w.heap.size w w' := by
  have h16 : s < 65536 := Nat.lt_of_lt_of_le hs (Nat.pow_le_pow_right (by decide) hn)
  have HC := Lib.hid (ones_any s h16 w)
  rw [siz_more hs hn] at HC
  go_enter Tryd.func51, Tryd.ntmps51
  go_wp2_with (go_at_call 63; (with_reducible refine HC.out.mono ?_); rintro e w1 ⟨rfl, hb1⟩)
  go_ret
  exact ⟨rfl, hb1⟩

theorem u32_xor (a b : Nat) (ha : a < 4294967296) (hb : b < 4294967296) : bits .xor .u32 (a : Int) (b : Int) = ((a ^^^ b : Nat) : Int) := by
  have hx : a ^^^ b < 2 ^ 32 := Nat.xor_lt_two_pow (by omega) (by omega)
  have h1 : (BitVec.ofInt 32 (a : Int)).toNat = a := by
    rw [BitVec.ofInt_natCast, BitVec.toNat_ofNat]; exact Nat.mod_eq_of_lt (by omega)
  have h2 : (BitVec.ofInt 32 (b : Int)).toNat = b := by
    rw [BitVec.ofInt_natCast, BitVec.toNat_ofNat]; exact Nat.mod_eq_of_lt (by omega)
  show IntKind.u32.wrap ((BitVec.ofInt 32 (a : Int) ^^^ BitVec.ofInt 32 (b : Int)).toNat : Int) = _
  rw [BitVec.toNat_xor, h1, h2, wrap_u32']
  omega
theorem bef_bits (n s t : Nat) (hn : n ≤ 16) (hs : s < 2 ^ n) (ht : t < 2 ^ n) : ((s &&& (s ^^^ t)) &&& ((4294967296 - (s ^^^ t)) % 4294967296) ≠ 0) ↔ befN n s t = true := by
  have h16 : 2 ^ n ≤ 65536 := Nat.pow_le_pow_right (by decide) hn
  have hd : s ^^^ t < 2 ^ n := Nat.xor_lt_two_pow hs ht
  rw [bef_code n s t 32 hs ht (by omega)]
  by_cases h0 : s ^^^ t = 0
  · simp [h0]
  · obtain ⟨hlow, hk⟩ := Lib.lowest_bit 32 (s ^^^ t) h0 (by omega)
    have e1 : (4294967296 - (s ^^^ t)) % 4294967296 = 2 ^ 32 - (s ^^^ t) := by omega
    rw [e1, Nat.and_assoc, hlow]
    have hc : Lib.ctz 32 (s ^^^ t) = Lib.ctzFrom 32 (s ^^^ t) := by unfold Lib.ctz; rw [if_neg h0]
    rw [hc] at *
    rw [decide_eq_true h0, Bool.true_and]
    constructor
    · intro h
      cases hb : s.testBit (Lib.ctzFrom 32 (s ^^^ t))
      · exact absurd (Nat.eq_of_testBit_eq fun j => by
          rw [Nat.testBit_and, Nat.testBit_two_pow, Nat.zero_testBit]
          by_cases e : Lib.ctzFrom 32 (s ^^^ t) = j
          · rw [← e, hb]; rfl
          · rw [decide_eq_false e, Bool.and_false]) h
      · rfl
    · intro h e
      have := congrArg (fun x => x.testBit (Lib.ctzFrom 32 (s ^^^ t))) e
      simp only [Nat.testBit_and, Nat.testBit_two_pow, Nat.zero_testBit] at this
      rw [h] at this
      simp at this

set_option maxHeartbeats 1000000 in
theorem before_any (n s t : Nat) (hn : n ≤ 16) (hs : s < 2 ^ n) (ht : t < 2 ^ n) (w : World) :
    Calls Tryd.prog 62 #[.int .u32 s, .int .u32 t] w fun e w' => e = .returned (.bool (befN n s t)) ∧ w = w' := by
  have h16 : 2 ^ n ≤ 65536 := Nat.pow_le_pow_right (by decide) hn
  have hd : s ^^^ t < 2 ^ n := Nat.xor_lt_two_pow hs ht
  have hkey := bef_bits n s t hn hs ht
  have x1 : bits .xor .u32 (s : Int) (t : Int) = ((s ^^^ t : Nat) : Int) := u32_xor s t (by omega) (by omega)
  have x2 : bits .and .u32 (s : Int) ((s ^^^ t : Nat) : Int) = ((s &&& (s ^^^ t) : Nat) : Int) := u32_and s _ (by omega) (by omega)
  have x3 : -((s ^^^ t : Nat) : Int) % 4294967296 = (((4294967296 - (s ^^^ t)) % 4294967296 : Nat) : Int) := by omega
  have ha : s &&& (s ^^^ t) < 4294967296 := Nat.lt_of_le_of_lt Nat.and_le_left (by omega)
  have x4 : bits .and .u32 ((s &&& (s ^^^ t) : Nat) : Int) (((4294967296 - (s ^^^ t)) % 4294967296 : Nat) : Int) = (((s &&& (s ^^^ t)) &&& ((4294967296 - (s ^^^ t)) % 4294967296) : Nat) : Int) := u32_and _ _ ha (by omega)
  have hR : ∀ R, befN n s t = R → (((((s &&& (s ^^^ t)) &&& ((4294967296 - (s ^^^ t)) % 4294967296) : Nat) : Int) == 0) = !R) := fun R h => by
    rw [h] at hkey
    cases R
    · simp only [Bool.false_eq_true, iff_false, Decidable.not_not] at hkey
      rw [hkey]; rfl
    · simp only [iff_true] at hkey
      exact beq_eq_false_iff_ne.2 (by omega)
  obtain ⟨R, hRe⟩ : ∃ R, befN n s t = R := ⟨_, rfl⟩
  have x5 := hR R hRe
  rw [hRe]
  generalize (((s &&& (s ^^^ t)) &&& ((4294967296 - (s ^^^ t)) % 4294967296) : Nat) : Int) = m3 at *
  generalize (((4294967296 - (s ^^^ t)) % 4294967296 : Nat) : Int) = m2 at *
  generalize ((s &&& (s ^^^ t) : Nat) : Int) = m1 at *
  generalize ((s ^^^ t : Nat) : Int) = m0 at *
  clear hR hkey hRe ha hd
  go_enter Tryd.func62, Tryd.ntmps62
  go_wp2
  go_ret
  exact ⟨ret_bool (by show (!(m3 == 0)) = R; rw [x5, Bool.not_not]), rfl⟩
end Go.Proofs.YtfiefmhnonddhaaDoor
