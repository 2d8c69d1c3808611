/-
  THE WALKS of ratio.plus, minus, less at words of 128 bits.
-/
import Derived.Test.YtlgpolfbilkmbaaRat3
namespace Go.Proofs.Ytlgpolfbilkmbaa
open Go.RowKit Go.Shelf

theorem add64g (x y c : Int) (hx : 0 ≤ x) (hx' : x < 18446744073709551616) (hy : 0 ≤ y) (hy' : y < 18446744073709551616) (hc : 0 ≤ c ∧ c ≤ 1) (w : World) : (callFunc 83 #[.int .u64 x, .int .u64 y, .int .u64 c]).run Try.prog w =
    .ok (.value (.tuple #[.int .u64 ((x + y + c) % 18446744073709551616), .int .u64 ((x + y + c) / 18446744073709551616)])) w := by
  obtain ⟨x, rfl⟩ := Int.eq_ofNat_of_zero_le hx
  obtain ⟨y, rfl⟩ := Int.eq_ofNat_of_zero_le hy
  obtain ⟨c, rfl⟩ := Int.eq_ofNat_of_zero_le hc.1
  rw [run_callFunc_extern Try.func83 (by kernel_rfl) (by kernel_rfl) (by kernel_rfl) (e := add64Entry) (by kernel_rfl), run_add64 x y c (by omega) (by omega) (by omega) (by omega)]
  rfl
theorem sub64g (x y b : Int) (hx : 0 ≤ x) (hx' : x < 18446744073709551616) (hy : 0 ≤ y) (hy' : y < 18446744073709551616) (hb : 0 ≤ b ∧ b ≤ 1) (w : World) : (callFunc 84 #[.int .u64 x, .int .u64 y, .int .u64 b]).run Try.prog w =
    .ok (.value (.tuple #[.int .u64 ((x - y - b) % 18446744073709551616), .int .u64 (if x < y + b then 1 else 0)])) w := by
  obtain ⟨x, rfl⟩ := Int.eq_ofNat_of_zero_le hx
  obtain ⟨y, rfl⟩ := Int.eq_ofNat_of_zero_le hy
  obtain ⟨b, rfl⟩ := Int.eq_ofNat_of_zero_le hb.1
  rw [run_callFunc_extern Try.func84 (by kernel_rfl) (by kernel_rfl) (by kernel_rfl) (e := sub64Entry) (by kernel_rfl), run_sub64 x y b (by omega) w]
  have e : (((x + 18446744073709551616 - y - b) % 18446744073709551616 : Nat) : Int) = ((x : Int) - y - b) % 18446744073709551616 := by omega
  rw [e]
  by_cases q : x < y + b
  · rw [if_pos q, if_pos (by omega)]; rfl
  · rw [if_neg q, if_neg (by omega)]; rfl
/-- A number of two words. -/
def hiW (a : Int) : Int := a / 18446744073709551616
def loW (a : Int) : Int := a % 18446744073709551616
theorem hi_lo (a : Int) : hiW a * 18446744073709551616 + loW a = a := by unfold hiW loW; omega
theorem lo_bd (a : Int) : 0 ≤ loW a ∧ loW a < 18446744073709551616 := by unfold loW; omega
theorem hi_bd {a : Int} (h0 : 0 ≤ a) (h1 : a < 340282366920938463463374607431768211456) : 0 ≤ hiW a ∧ hiW a < 18446744073709551616 := by unfold hiW; omega
theorem plus_words {a b ah al bh bl : Int} (e1 : ah * 18446744073709551616 + al = a) (e2 : bh * 18446744073709551616 + bl = b) (h1 : 0 ≤ al ∧ al < 18446744073709551616) (h2 : 0 ≤ bl ∧ bl < 18446744073709551616) (h3 : 0 ≤ ah) (h4 : 0 ≤ bh) (h : a + b < 340282366920938463463374607431768211456) :
    (al + bl + 0) % 18446744073709551616 = loW (a + b) ∧ (ah + bh + (al + bl + 0) / 18446744073709551616) % 18446744073709551616 = hiW (a + b) ∧ 0 ≤ (al + bl + 0) / 18446744073709551616 ∧ (al + bl + 0) / 18446744073709551616 ≤ 1 := by
  unfold hiW loW
  omega
theorem minus_words {a b ah al bh bl : Int} (e1 : ah * 18446744073709551616 + al = a) (e2 : bh * 18446744073709551616 + bl = b) (h1 : 0 ≤ al ∧ al < 18446744073709551616) (h2 : 0 ≤ bl ∧ bl < 18446744073709551616) (h3 : 0 ≤ bh) (h4 : ah < 18446744073709551616) (h : b ≤ a) :
    (al - bl - 0) % 18446744073709551616 = loW (a - b) ∧ (ah - bh - (if al < bl + 0 then 1 else 0)) % 18446744073709551616 = hiW (a - b) := by
  unfold hiW loW
  split <;> omega
set_option maxHeartbeats 2000000 in
theorem plus_wide (a b : Int) (ha : 0 ≤ a) (hb : 0 ≤ b) (h : a + b < 340282366920938463463374607431768211456) (w : World) :
    Calls Try.prog 65 #[.agg #[.int .u64 (hiW a), .int .u64 (loW a)], .agg #[.int .u64 (hiW b), .int .u64 (loW b)]] w fun e w' => e = .returned (.agg #[.int .u64 (hiW (a + b)), .int .u64 (loW (a + b))]) ∧ Below w.heap.size w w' := by
  have e1 := hi_lo a
  have e2 := hi_lo b
  have a1 := lo_bd a
  have b1 := lo_bd b
  have a2 := hi_bd ha (by omega)
  have b2 := hi_bd hb (by omega)
  obtain ⟨p1, p2, p3, p4⟩ := plus_words e1 e2 a1 b1 a2.1 b2.1 h
  generalize hiW a = ah at *
  generalize loW a = al at *
  generalize hiW b = bh at *
  generalize loW b = bl at *
  generalize hiW (a + b) = sh at *
  generalize loW (a + b) = sl at *
  obtain ⟨c, hc⟩ : ∃ c, (al + bl + 0) / 18446744073709551616 = c := ⟨_, rfl⟩
  rw [hc] at p2 p3 p4
  have z1 := fun w => add64g al bl 0 a1.1 a1.2 b1.1 b1.2 (by omega) w
  have z2 := fun w => add64g ah bh c a2.1 a2.2 b2.1 b2.2 (by omega) w
  rw [p1, hc] at z1
  rw [p2] at z2
  clear p1 p2 p3 p4 hc e1 e2
  go_enter Try.func65, Try.ntmps65
  go_wp2_with (first | simp only [z1] | simp only [z2])
  refine bodyPost_ret (v := .agg #[.int .u64 sh, .int .u64 sl]) (by simp [results, Try.results65, go_sem]) rfl ⟨rfl, ?_⟩
  exact ((below_new _ _).alloc (by simp) _).alloc (by simp; omega) _
set_option maxHeartbeats 2000000 in
theorem minus_wide (a b : Int) (ha : a < 340282366920938463463374607431768211456) (hb : 0 ≤ b) (h : b ≤ a) (w : World) :
    Calls Try.prog 67 #[.agg #[.int .u64 (hiW a), .int .u64 (loW a)], .agg #[.int .u64 (hiW b), .int .u64 (loW b)]] w fun e w' => e = .returned (.agg #[.int .u64 (hiW (a - b)), .int .u64 (loW (a - b))]) ∧ Below w.heap.size w w' := by
  have e1 := hi_lo a
  have e2 := hi_lo b
  have a1 := lo_bd a
  have b1 := lo_bd b
  have a2 := hi_bd (show 0 ≤ a by omega) ha
  have b2 := hi_bd hb (by omega)
  obtain ⟨p1, p2⟩ := minus_words e1 e2 a1 b1 b2.1 a2.2 h
  generalize hiW a = ah at *
  generalize loW a = al at *
  generalize hiW b = bh at *
  generalize loW b = bl at *
  generalize hiW (a - b) = sh at *
  generalize loW (a - b) = sl at *
  obtain ⟨c, hc⟩ : ∃ c : Int, (if al < bl + 0 then 1 else 0) = c := ⟨_, rfl⟩
  have hc2 : 0 ≤ c ∧ c ≤ 1 := by rw [← hc]; split <;> omega
  rw [hc] at p2
  have z1 := fun w => sub64g al bl 0 a1.1 a1.2 b1.1 b1.2 (by omega) w
  have z2 := fun w => sub64g ah bh c a2.1 a2.2 b2.1 b2.2 hc2 w
  rw [p1, hc] at z1
  obtain ⟨c2, hcc⟩ : ∃ c2 : Int, (if ah < bh + c then 1 else 0) = c2 := ⟨_, rfl⟩
  rw [p2, hcc] at z2
  clear p1 p2 hc hcc e1 e2
  go_enter Try.func67, Try.ntmps67
  go_wp2_with (first | simp only [z1] | simp only [z2])
  refine bodyPost_ret (v := .agg #[.int .u64 sh, .int .u64 sl]) (by simp [results, Try.results67, go_sem]) rfl ⟨rfl, ?_⟩
  exact ((below_new _ _).alloc (by simp) _).alloc (by simp; omega) _
theorem less_words {a b ah al bh bl : Int} (e1 : ah * 18446744073709551616 + al = a) (e2 : bh * 18446744073709551616 + bl = b) (h1 : 0 ≤ al ∧ al < 18446744073709551616) (h2 : 0 ≤ bl ∧ bl < 18446744073709551616) :
    decide (a < b) = (decide (ah < bh) || ((ah == bh) && decide (al < bl))) := by
  rw [Bool.eq_iff_iff, Bool.or_eq_true, Bool.and_eq_true, decide_eq_true_eq, decide_eq_true_eq, decide_eq_true_eq, beq_iff_eq]
  omega
set_option maxHeartbeats 2000000 in
theorem less_wide (a b : Int) (w : World) :
    Calls Try.prog 66 #[.agg #[.int .u64 (hiW a), .int .u64 (loW a)], .agg #[.int .u64 (hiW b), .int .u64 (loW b)]] w fun e w' => e = .returned (.bool (decide (a < b))) ∧ Below w.heap.size w w' := by
  have HR := Lib.hid (less_words (hi_lo a) (hi_lo b) (lo_bd a) (lo_bd b))
  generalize hiW a = ah at *
  generalize loW a = al at *
  generalize hiW b = bh at *
  generalize loW b = bl at *
  by_cases q1 : ah < bh
  · have g1 : decide (ah < bh) = true := decide_eq_true q1
    rw [g1] at HR
    clear q1
    go_enter Try.func66, Try.ntmps66
    go_wp2_with fail
    go_ret
    exact ⟨by rw [HR.out]; rfl, (below_new _ _).alloc (by simp) _⟩
  have g1 : decide (ah < bh) = false := decide_eq_false q1
  rw [g1] at HR
  clear q1
  by_cases q2 : ah = bh
  · have g2 : (ah == bh) = true := beq_iff_eq.2 q2
    rw [g2] at HR
    clear q2
    go_enter Try.func66, Try.ntmps66
    go_wp2_with fail
    go_ret
    exact ⟨by rw [HR.out]; rfl, (below_new _ _).alloc (by simp) _⟩
  · have g2 : (ah == bh) = false := beq_eq_false_iff_ne.2 q2
    rw [g2] at HR
    clear q2
    go_enter Try.func66, Try.ntmps66
    go_wp2_with fail
    go_ret
    exact ⟨by rw [HR.out]; rfl, (below_new _ _).alloc (by simp) _⟩
end Go.Proofs.Ytlgpolfbilkmbaa
