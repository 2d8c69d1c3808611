/-
  THE WALK of the reference's comparison of two fractions (02) that are not negative: its first region.
  PLAIN: a long division of two words by one, digit by digit (bits.Div64).
  PLAIN: the shift that makes a divisor great (bits.Div64), and what it does to two words.
  THE WALKS of ratio.plus, minus, less at words of 128 bits.
-/
import Derived.Deep.RegionHeld3
import Derived.Deep.DeepCutAuto
import Derived.Test.YtbgkgahmicepdaaRows
import Derived.Laws.Bits64b
import Derived.WalkKit
import Derived.Test.YtbgkgahmicepdaaZ6
import Derived.Test.YtbgkgahmicepdaaZ5
namespace Go.Proofs.Ytbgkgahmicepdaa
open Go.RowKit Go.Shelf
def FU (w : World) (B : Nat) (n d : Int) : Prop := w.cell? ⟨B, 0, none⟩ = some (.int .u64 n) ∧ w.cell? ⟨B, 1, none⟩ = some (.int .u64 d)
def cmpP (x y : Int) : Int := if x = y then 0 else if x < y then -1 else 1

def regionIn (n : Nat) : Code → Option Code
 | .region k xs b => bif Nat.beq k n then some (.region k xs b) else none
 | .seq a b => match regionIn n a with
  | some c => some c
  | none => regionIn n b
 | .loop c => regionIn n c
 | .block _ c => regionIn n c
 | .scope c => regionIn n c
 | .cond _ a b => match regionIn n a with
  | some c => some c
  | none => regionIn n b
 | _ => none
end Go.Proofs.Ytbgkgahmicepdaa
namespace Go.Proofs.Ytbgkgahmicepdaa
section
variable {u y1 y0 d : Int}
theorem dig_mul (k y1 y0 : Int) : k * (y1 * 4294967296 + y0) = k * y1 * 4294967296 + k * y0 := by rw [Int.mul_add, Int.mul_assoc]
theorem dig_lt (hy : 0 < y1 * 4294967296 + y0) (hu : u < y1 * 4294967296 + y0) (d1 : d < 4294967296) : (u * 4294967296 + d) / (y1 * 4294967296 + y0) < 4294967296 := by
 refine Int.ediv_lt_of_lt_mul hy ?_
 generalize y1 * 4294967296 + y0 = y at *
 omega
theorem dig_nonneg (hy : 0 < y1 * 4294967296 + y0) (u0 : 0 ≤ u) (d0 : 0 ≤ d) : 0 ≤ (u * 4294967296 + d) / (y1 * 4294967296 + y0) := Int.ediv_nonneg (by omega) (by omega)
theorem dig_start (h1 : 2147483648 ≤ y1) (h2 : 0 ≤ y0) (h3 : y0 < 4294967296) (u0 : 0 ≤ u) (hu : u < y1 * 4294967296 + y0) (d0 : 0 ≤ d) (d1 : d < 4294967296) :
  (u * 4294967296 + d) / (y1 * 4294967296 + y0) ≤ u / y1 ∧ u / y1 ≤ 4294967297 ∧ 0 ≤ u - u / y1 * y1 ∧ u - u / y1 * y1 < y1 := by
 have hy : 0 < y1 * 4294967296 + y0 := by omega
 refine ⟨?_, ?_, ?_, ?_⟩
 ·rw [Int.le_ediv_iff_mul_le (by omega)]
  have a := Int.ediv_mul_le (u * 4294967296 + d) (show y1 * 4294967296 + y0 ≠ 0 by omega)
  have b := dig_nonneg (y1 := y1) (y0 := y0) hy u0 d0
  rw [dig_mul] at a
  generalize (u * 4294967296 + d) / (y1 * 4294967296 + y0) = q at *
  have c := Int.mul_nonneg b h2
  generalize q * y1 = P at *
  generalize q * y0 = R at *
  omega
 ·have : u / y1 < 4294967298 := Int.ediv_lt_of_lt_mul (by omega) (by omega)
  omega
 ·have := Int.ediv_mul_le u (show y1 ≠ 0 by omega)
  omega
 ·have := Int.lt_ediv_add_one_mul_self u (show 0 < y1 by omega)
  rw [Int.add_mul, Int.one_mul] at this
  omega
structure Dig (u y1 y0 d k r : Int) : Prop where
 rest : r = u - k * y1
 low : (u * 4294967296 + d) / (y1 * 4294967296 + y0) ≤ k
 high : k ≤ 4294967297
 pos : 0 ≤ r
 less : r < 4294967296
theorem Dig.start (h1 : 2147483648 ≤ y1) (h1' : y1 < 4294967296) (h2 : 0 ≤ y0) (h3 : y0 < 4294967296) (u0 : 0 ≤ u) (hu : u < y1 * 4294967296 + y0) (d0 : 0 ≤ d) (d1 : d < 4294967296) : Dig u y1 y0 d (u / y1) (u - u / y1 * y1) := by
 obtain ⟨a, b, c, e⟩ := dig_start h1 h2 h3 u0 hu d0 d1
 exact ⟨rfl, a, b, c, by omega⟩
theorem Dig.pred {k r : Int} (h : Dig u y1 y0 d k r) (hy : 0 < y1 * 4294967296 + y0) (hu : u < y1 * 4294967296 + y0) (d1 : d < 4294967296) (hc : 4294967296 ≤ k ∨ 4294967296 * r + d < k * y0) : (u * 4294967296 + d) / (y1 * 4294967296 + y0) ≤ k - 1 := by
 rcases hc with hc | hc
 ·have := dig_lt hy hu d1
  omega
 ·have : (u * 4294967296 + d) / (y1 * 4294967296 + y0) < k := by
   refine Int.ediv_lt_of_lt_mul hy ?_
   rw [dig_mul]
   have := h.rest
   generalize k * y1 = P at *
   generalize k * y0 = R at *
   omega
  omega
theorem Dig.next {k r : Int} (h : Dig u y1 y0 d k r) (h1 : 0 < y1) (hy : 0 < y1 * 4294967296 + y0) (hu : u < y1 * 4294967296 + y0) (d1 : d < 4294967296) (hc : 4294967296 ≤ k ∨ 4294967296 * r + d < k * y0) (hr : r + y1 < 4294967296) : Dig u y1 y0 d (k - 1) (r + y1) := by
 refine ⟨?_, h.pred hy hu d1 hc, ?_, ?_, hr⟩
 ·have := h.rest
  rw [Int.sub_mul, Int.one_mul]
  omega
 ·have := h.high; omega
 ·have := h.pos; omega
theorem Dig.done {k r : Int} (h : Dig u y1 y0 d k r) (hy : 0 < y1 * 4294967296 + y0) (hc : k * y0 ≤ 4294967296 * r + d) : k = (u * 4294967296 + d) / (y1 * 4294967296 + y0) := by
 refine Int.le_antisymm ?_ h.low
 rw [Int.le_ediv_iff_mul_le hy, dig_mul]
 have := h.rest
 generalize k * y1 = P at *
 generalize k * y0 = R at *
 omega
theorem Dig.out {k r : Int} (h : Dig u y1 y0 d k r) (hy : 0 < y1 * 4294967296 + y0) (hu : u < y1 * 4294967296 + y0) (h2 : 0 ≤ y0) (h3 : y0 < 4294967296) (d0 : 0 ≤ d) (d1 : d < 4294967296) (hc : 4294967296 ≤ k ∨ 4294967296 * r + d < k * y0) (hr : 4294967296 ≤ r + y1) : k - 1 = (u * 4294967296 + d) / (y1 * 4294967296 + y0) := by
 have hp := h.pred hy hu d1 hc
 have hh := h.high
 have hrest : r + y1 = u - (k - 1) * y1 := by rw [Int.sub_mul, Int.one_mul, h.rest]; omega
 refine Int.le_antisymm ?_ hp
 rw [Int.le_ediv_iff_mul_le hy]
 have hk : k - 1 ≤ 4294967295 := by
  rcases (show k - 1 ≤ 4294967295 ∨ k - 1 = 4294967296 by omega) with e | e
  ·exact e
  ·rw [e] at hrest; omega
 have hm : (k - 1) * y0 ≤ 4294967295 * 4294967295 := Int.mul_le_mul hk (by omega) h2 (by omega)
 rw [dig_mul]
 generalize (k - 1) * y1 = P at *
 generalize (k - 1) * y0 = R at *
 omega
theorem Dig.small {k r : Int} (h : Dig u y1 y0 d k r) (hk : 0 ≤ k) (h2 : 0 ≤ y0) (h3 : y0 < 4294967296) (d0 : 0 ≤ d) (d1 : d < 4294967296) : 0 ≤ k * y0 ∧ k * y0 < 18446744073709551616 ∧ 0 ≤ 4294967296 * r + d ∧ 4294967296 * r + d < 18446744073709551616 := by
 have h4 := h.high
 have h5 := h.pos
 have h6 := h.less
 have a := Int.mul_nonneg hk h2
 have b : k * y0 ≤ 4294967297 * 4294967295 := Int.mul_le_mul h4 (by omega) h2 (by omega)
 generalize k * y0 = R at *
 omega
end
theorem two_digits {N v s y u32 u1 u0 q1 u21 q0 r : Int} (hs : 0 < s) (hv : 0 < v) (hy : y = v * s) (hN : N * s = (u32 * 4294967296 + u1) * 4294967296 + u0)
  (h1 : q1 = (u32 * 4294967296 + u1) / y) (h2 : u21 = (u32 * 4294967296 + u1) % y) (h3 : q0 = (u21 * 4294967296 + u0) / y) (h4 : r = (u21 * 4294967296 + u0) % y) :
  q1 * 4294967296 + q0 = N / v ∧ r / s = N % v := by
 have hy0 : 0 < y := by rw [hy]; exact Int.mul_pos hv hs
 have e1 := Int.mul_ediv_add_emod (u32 * 4294967296 + u1) y
 have e2 := Int.mul_ediv_add_emod (u21 * 4294967296 + u0) y
 rw [← h1, ← h2] at e1
 rw [← h3, ← h4] at e2
 have b1 := Int.emod_nonneg (u21 * 4294967296 + u0) (show y ≠ 0 by omega)
 have b2 := Int.emod_lt_of_pos (u21 * 4294967296 + u0) hy0
 rw [← h4] at b1 b2
 have eM : N * s = r + y * (q1 * 4294967296 + q0) := by
  rw [hN, Int.mul_add, ← Int.mul_assoc]
  generalize y * q1 = A at *
  generalize y * q0 = C at *
  omega
 have d1 : (N * s) / y = q1 * 4294967296 + q0 := by
  rw [eM, Int.add_mul_ediv_left _ _ (by omega), Int.ediv_eq_zero_of_lt b1 b2, Int.zero_add]
 have d2 : (N * s) % y = r := by
  rw [eM, Int.add_mul_emod_self_left, Int.emod_eq_of_lt b1 b2]
 rw [hy] at d1 d2
 rw [Int.mul_ediv_mul_of_pos_left _ _ hs] at d1
 rw [Int.mul_comm N s, Int.mul_comm v s, Int.mul_emod_mul_of_pos _ _ hs] at d2
 refine ⟨d1.symm, ?_⟩
 rw [← d2, Int.mul_ediv_cancel_left _ (by omega)]
end Go.Proofs.Ytbgkgahmicepdaa
namespace Go.Proofs.Ytbgkgahmicepdaa
open Go.RowKit
theorem pow_split {s : Nat} (hs : s ≤ 64) : (2 : Int) ^ s * 2 ^ (64 - s) = 18446744073709551616 := by
 rw [← Int.pow_add, show s + (64 - s) = 64 by omega]
 rfl
section
variable {hi lo v P Q : Int}
theorem norm_hi (hP : 0 < P) (h0 : 0 ≤ hi) (h1 : hi < v) : 0 ≤ hi * P ∧ hi * P + P ≤ v * P := by
 refine ⟨Int.mul_nonneg h0 (by omega), ?_⟩
 have : (hi + 1) * P ≤ v * P := Int.mul_le_mul_of_nonneg_right (by omega) (by omega)
 rw [Int.add_mul, Int.one_mul] at this
 exact this
theorem norm_lo (hP : 0 < P) (hQ : 0 < Q) (hPQ : P * Q = 18446744073709551616) (l0 : 0 ≤ lo) (l1 : lo < 18446744073709551616) : 0 ≤ lo / Q ∧ lo / Q < P ∧ lo * P = lo / Q * 18446744073709551616 + lo * P % 18446744073709551616 := by
 have a : 0 ≤ lo / Q := Int.ediv_nonneg l0 (by omega)
 have b : lo / Q < P := Int.ediv_lt_of_lt_mul hQ (by rw [hPQ]; exact l1)
 refine ⟨a, b, ?_⟩
 have e : lo * P = lo / Q * (P * Q) + lo % Q * P := by
  have e1 := Int.mul_ediv_add_emod lo Q
  calc lo * P = (Q * (lo / Q) + lo % Q) * P := by rw [e1]
   _ = lo / Q * (P * Q) + lo % Q * P := by
    rw [Int.add_mul]
    congr 1
    ac_rfl
 have c : 0 ≤ lo % Q * P := Int.mul_nonneg (Int.emod_nonneg _ (by omega)) (by omega)
 have d : lo % Q * P < Q * P := Int.mul_lt_mul_of_pos_right (Int.emod_lt_of_pos _ hQ) hP
 rw [Int.mul_comm Q P, hPQ] at d
 rw [hPQ] at e
 omega
theorem norm_all (hP : 0 < P) (hQ : 0 < Q) (hPQ : P * Q = 18446744073709551616) (l0 : 0 ≤ lo) (l1 : lo < 18446744073709551616) :
  (hi * 18446744073709551616 + lo) * P = ((hi * P + lo / Q) * 4294967296 + lo * P % 18446744073709551616 / 4294967296) * 4294967296 + lo * P % 18446744073709551616 % 4294967296 := by
 have h := (norm_lo hP hQ hPQ l0 l1).2.2
 rw [Int.add_mul, h, show hi * 18446744073709551616 * P = hi * P * 18446744073709551616 by ac_rfl]
 generalize hi * P = A
 generalize lo / Q = C
 generalize lo * P = D
 omega
end
theorem or_join (a r : Int) (s : Nat) (a0 : 0 ≤ a) (r0 : 0 ≤ r) (r1 : r < 2 ^ s) (h : a * 2 ^ s + r < 18446744073709551616) : bits .or .u64 (a * 2 ^ s) r = a * 2 ^ s + r := by
 obtain ⟨a, rfl⟩ := Int.eq_ofNat_of_zero_le a0
 obtain ⟨r, rfl⟩ := Int.eq_ofNat_of_zero_le r0
 have e : ((a : Int) * 2 ^ s) = ((a * 2 ^ s : Nat) : Int) := by rw [Int.natCast_mul, Int.natCast_pow]; rfl
 have hr : r < 2 ^ s := by
  have e2 : ((2 : Int) ^ s) = ((2 ^ s : Nat) : Int) := by rw [Int.natCast_pow]; rfl
  rw [e2] at r1
  omega
 rw [e] at h ⊢
 rw [bits_or_u64_nat _ _ (by omega) (by omega), Nat.mul_comm, ← Nat.two_pow_add_eq_or_of_lt hr]
 omega
theorem and_half (x : Int) (h0 : 0 ≤ x) (h1 : x < 18446744073709551616) : bits .and .u64 x 4294967295 = x % 4294967296 := by
 obtain ⟨n, rfl⟩ := Int.eq_ofNat_of_zero_le h0
 have h := bits_and_u64_nat n 4294967295 (by omega) (by omega)
 have e : n &&& 4294967295 = n % 4294967296 := Nat.and_two_pow_sub_one_eq_mod n 32
 rw [e] at h
 exact h.trans (by omega)
end Go.Proofs.Ytbgkgahmicepdaa
namespace Go.Proofs.Ytbgkgahmicepdaa
open Go.RowKit Go.Shelf
theorem add64g (x y c : Int) (hx : 0 ≤ x) (hx' : x < 18446744073709551616) (hy : 0 ≤ y) (hy' : y < 18446744073709551616) (hc : 0 ≤ c ∧ c ≤ 1) (w : World) : (callFunc 72 #[.int .u64 x, .int .u64 y, .int .u64 c]).run Try.prog w =
  .ok (.value (.tuple #[.int .u64 ((x + y + c) % 18446744073709551616), .int .u64 ((x + y + c) / 18446744073709551616)])) w := by
 obtain ⟨x, rfl⟩ := Int.eq_ofNat_of_zero_le hx
 obtain ⟨y, rfl⟩ := Int.eq_ofNat_of_zero_le hy
 obtain ⟨c, rfl⟩ := Int.eq_ofNat_of_zero_le hc.1
 rw [run_callFunc_extern Try.func72 (by kernel_rfl) (by kernel_rfl) (by kernel_rfl) (e := add64Entry) (by kernel_rfl), run_add64 x y c (by omega) (by omega) (by omega) (by omega)]
 rfl
theorem sub64g (x y b : Int) (hx : 0 ≤ x) (hx' : x < 18446744073709551616) (hy : 0 ≤ y) (hy' : y < 18446744073709551616) (hb : 0 ≤ b ∧ b ≤ 1) (w : World) : (callFunc 73 #[.int .u64 x, .int .u64 y, .int .u64 b]).run Try.prog w =
  .ok (.value (.tuple #[.int .u64 ((x - y - b) % 18446744073709551616), .int .u64 (if x < y + b then 1 else 0)])) w := by
 obtain ⟨x, rfl⟩ := Int.eq_ofNat_of_zero_le hx
 obtain ⟨y, rfl⟩ := Int.eq_ofNat_of_zero_le hy
 obtain ⟨b, rfl⟩ := Int.eq_ofNat_of_zero_le hb.1
 rw [run_callFunc_extern Try.func73 (by kernel_rfl) (by kernel_rfl) (by kernel_rfl) (e := sub64Entry) (by kernel_rfl), run_sub64 x y b (by omega) w]
 have e : (((x + 18446744073709551616 - y - b) % 18446744073709551616 : Nat) : Int) = ((x : Int) - y - b) % 18446744073709551616 := by omega
 rw [e]
 by_cases q : x < y + b
 ·rw [if_pos q, if_pos (by omega)]; rfl
 ·rw [if_neg q, if_neg (by omega)]; rfl
def hiW (a : Int) : Int := a / 18446744073709551616
def loW (a : Int) : Int := a % 18446744073709551616
theorem hi_lo (a : Int) : hiW a * 18446744073709551616 + loW a = a := by unfold hiW loW; omega
theorem lo_bd (a : Int) : 0 ≤ loW a ∧ loW a < 18446744073709551616 := by unfold loW; omega
theorem hi_bd {a : Int} (h0 : 0 ≤ a) (h1 : a < 340282366920938463463374607431768211456) : 0 ≤ hiW a ∧ hiW a < 18446744073709551616 := by unfold hiW; omega
theorem plus_words {a b ah al bh bl : Int} (e1 : ah * 18446744073709551616 + al = a) (e2 : bh * 18446744073709551616 + bl = b) (h1 : 0 ≤ al ∧ al < 18446744073709551616) (h2 : 0 ≤ bl ∧ bl < 18446744073709551616) (h3 : 0 ≤ ah) (h4 : 0 ≤ bh) (h : a + b < 340282366920938463463374607431768211456) :
  (al + bl + 0) % 18446744073709551616 = loW (a + b) ∧ (ah + bh + (al + bl + 0) / 18446744073709551616) % 18446744073709551616 = hiW (a + b) ∧ 0 ≤ (al + bl + 0) / 18446744073709551616 ∧ (al + bl + 0) / 18446744073709551616 ≤ 1 := by
 unfold hiW loW
 omega
theorem minus_words {a b ah al bh bl : Int} (e1 : ah * 18446744073709551616 + al = a) (e2 : bh * 18446744073709551616 + bl = b) (h1 : 0 ≤ al ∧ al < 18446744073709551616) (h2 : 0 ≤ bl ∧ bl < 18446744073709551616) (h3 : 0 ≤ bh) (h4 : ah < 18446744073709551616) (h : b ≤ a) :
  (al - bl - 0) % 18446744073709551616 = loW (a - b) ∧ (ah - bh - (if al < bl + 0 then 1 else 0)) % 18446744073709551616 = hiW (a - b) := by
 unfold hiW loW
 split <;> omega
set_option maxHeartbeats 2000000 in
theorem plus_wide (a b : Int) (ha : 0 ≤ a) (hb : 0 ≤ b) (h : a + b < 340282366920938463463374607431768211456) (w : World) :
  Calls Try.prog 53 #[.agg #[.int .u64 (hiW a), .int .u64 (loW a)], .agg #[.int .u64 (hiW b), .int .u64 (loW b)]] w fun e w' => e = .returned (.agg #[.int .u64 (hiW (a + b)), .int .u64 (loW (a + b))]) ∧ Below w.heap.size w w' := by
 have e1 := hi_lo a
 have e2 := hi_lo b
 have a1 := lo_bd a
 have b1 := lo_bd b
 have a2 := hi_bd ha (by omega)
 have b2 := hi_bd hb (by omega)
 obtain ⟨p1, p2, p3, p4⟩ := plus_words e1 e2 a1 b1 a2.1 b2.1 h
 generalize hiW a = ah at *
 generalize loW a = al at *
 generalize hiW b = bh at *
 generalize loW b = bl at *
 generalize hiW (a + b) = sh at *
 generalize loW (a + b) = sl at *
 obtain ⟨c, hc⟩ : ∃ c, (al + bl + 0) / 18446744073709551616 = c := ⟨_, rfl⟩
 rw [hc] at p2 p3 p4
 have z1 := fun w => add64g al bl 0 a1.1 a1.2 b1.1 b1.2 (by omega) w
 have z2 := fun w => add64g ah bh c a2.1 a2.2 b2.1 b2.2 (by omega) w
 rw [p1, hc] at z1
 rw [p2] at z2
 clear p1 p2 p3 p4 hc e1 e2
 go_enter Try.func53, Try.ntmps53
 go_wp2_with (first | simp only [z1] | simp only [z2])
 refine bodyPost_ret (v := .agg #[.int .u64 sh, .int .u64 sl]) (by simp [results, Try.results53, go_sem]) rfl ⟨rfl, ?_⟩
 exact ((below_new _ _).alloc (by simp) _).alloc (by simp; omega) _
set_option maxHeartbeats 2000000 in
theorem minus_wide (a b : Int) (ha : a < 340282366920938463463374607431768211456) (hb : 0 ≤ b) (h : b ≤ a) (w : World) :
  Calls Try.prog 54 #[.agg #[.int .u64 (hiW a), .int .u64 (loW a)], .agg #[.int .u64 (hiW b), .int .u64 (loW b)]] w fun e w' => e = .returned (.agg #[.int .u64 (hiW (a - b)), .int .u64 (loW (a - b))]) ∧ Below w.heap.size w w' := by
 have e1 := hi_lo a
 have e2 := hi_lo b
 have a1 := lo_bd a
 have b1 := lo_bd b
 have a2 := hi_bd (show 0 ≤ a by omega) ha
 have b2 := hi_bd hb (by omega)
 obtain ⟨p1, p2⟩ := minus_words e1 e2 a1 b1 b2.1 a2.2 h
 generalize hiW a = ah at *
 generalize loW a = al at *
 generalize hiW b = bh at *
 generalize loW b = bl at *
 generalize hiW (a - b) = sh at *
 generalize loW (a - b) = sl at *
 obtain ⟨c, hc⟩ : ∃ c : Int, (if al < bl + 0 then 1 else 0) = c := ⟨_, rfl⟩
 have hc2 : 0 ≤ c ∧ c ≤ 1 := by rw [← hc]; split <;> omega
 rw [hc] at p2
 have z1 := fun w => sub64g al bl 0 a1.1 a1.2 b1.1 b1.2 (by omega) w
 have z2 := fun w => sub64g ah bh c a2.1 a2.2 b2.1 b2.2 hc2 w
 rw [p1, hc] at z1
 obtain ⟨c2, hcc⟩ : ∃ c2 : Int, (if ah < bh + c then 1 else 0) = c2 := ⟨_, rfl⟩
 rw [p2, hcc] at z2
 clear p1 p2 hc hcc e1 e2
 go_enter Try.func54, Try.ntmps54
 go_wp2_with (first | simp only [z1] | simp only [z2])
 refine bodyPost_ret (v := .agg #[.int .u64 sh, .int .u64 sl]) (by simp [results, Try.results54, go_sem]) rfl ⟨rfl, ?_⟩
 exact ((below_new _ _).alloc (by simp) _).alloc (by simp; omega) _
theorem less_words {a b ah al bh bl : Int} (e1 : ah * 18446744073709551616 + al = a) (e2 : bh * 18446744073709551616 + bl = b) (h1 : 0 ≤ al ∧ al < 18446744073709551616) (h2 : 0 ≤ bl ∧ bl < 18446744073709551616) :
  decide (a < b) = (decide (ah < bh) || ((ah == bh) && decide (al < bl))) := by
 rw [Bool.eq_iff_iff, Bool.or_eq_true, Bool.and_eq_true, decide_eq_true_eq, decide_eq_true_eq, decide_eq_true_eq, beq_iff_eq]
 omega
set_option maxHeartbeats 2000000 in
theorem less_wide (a b : Int) (w : World) :
  Calls Try.prog 28 #[.agg #[.int .u64 (hiW a), .int .u64 (loW a)], .agg #[.int .u64 (hiW b), .int .u64 (loW b)]] w fun e w' => e = .returned (.bool (decide (a < b))) ∧ Below w.heap.size w w' := by
 have HR := Lib.hid (less_words (hi_lo a) (hi_lo b) (lo_bd a) (lo_bd b))
 generalize hiW a = ah at *
 generalize loW a = al at *
 generalize hiW b = bh at *
 generalize loW b = bl at *
 by_cases q1 : ah < bh
 ·have g1 : decide (ah < bh) = true := decide_eq_true q1
  rw [g1] at HR
  clear q1
  go_enter Try.func28, Try.ntmps28
  go_wp2_with fail
  go_ret
  exact ⟨by rw [HR.out]; rfl, (below_new _ _).alloc (by simp) _⟩
 have g1 : decide (ah < bh) = false := decide_eq_false q1
 rw [g1] at HR
 clear q1
 by_cases q2 : ah = bh
 ·have g2 : (ah == bh) = true := beq_iff_eq.2 q2
  rw [g2] at HR
  clear q2
  go_enter Try.func28, Try.ntmps28
  go_wp2_with fail
  go_ret
  exact ⟨by rw [HR.out]; rfl, (below_new _ _).alloc (by simp) _⟩
 ·have g2 : (ah == bh) = false := beq_eq_false_iff_ne.2 q2
  rw [g2] at HR
  clear q2
  go_enter Try.func28, Try.ntmps28
  go_wp2_with fail
  go_ret
  exact ⟨by rw [HR.out]; rfl, (below_new _ _).alloc (by simp) _⟩
end Go.Proofs.Ytbgkgahmicepdaa
