/-
  THE WALK of the law BricksWindows.
-/
import Derived.Test.YtgijekinlkpbkaaFacts
namespace Go.Proofs.Ytgijekinlkpbkaa
open Go.RowKit Go.Shelf
section
variable {w w1 : World} {u v : Value} {s t : TypeId}
theorem start_cell2 (h : Below ((w.alloc (.cells #[u] s)).alloc (.cells #[v] t)).heap.size ((w.alloc (.cells #[u] s)).alloc (.cells #[v] t)) w1) : w1.cell? ⟨w.heap.size, 0, none⟩ = some u ∧ w1.cell? ⟨w.heap.size + 1, 0, none⟩ = some v :=
  ⟨(h.cell (p := ⟨w.heap.size, 0, none⟩) (by simp; omega)).trans (by go_simp), (h.cell (p := ⟨w.heap.size + 1, 0, none⟩) (by simp)).trans (by go_simp)⟩
theorem start_lt2 {o p : Obj} (h : Below ((w.alloc o).alloc p).heap.size ((w.alloc o).alloc p) w1) : w.heap.size < w1.heap.size ∧ w.heap.size + 1 < w1.heap.size := by
  have := h.size
  simp at this
  omega
theorem lt2_grow {m n : Nat} (h : m < w.heap.size ∧ n < w.heap.size) (hb : Below w.heap.size w w1) : m < w1.heap.size ∧ n < w1.heap.size := by
  have := hb.size
  omega
end
theorem below_new2 (w : World) (o p : Obj) : Below w.heap.size w ((w.alloc o).alloc p) := (below_new w o).alloc (by simp) p
theorem mono_in2 {w w' : World} (o p : Obj) (h : Below ((w.alloc o).alloc p).heap.size ((w.alloc o).alloc p) w') : Below w.heap.size w w' := (below_new2 w o p).trans (h.mono (by simp; omega))
def inW (low high n : Int) : Bool := decide (low ≤ n) && decide (n ≤ high)
theorem ent_win (args : Array Value) (w : World) : (callFunc 26 args).run Try.prog w = .ok (.enter 26 args) w := enters_of Try.func26 (by kernel_rfl) rfl args w
set_option maxHeartbeats 4000000 in
theorem winC_any (b1 b2 : Nat) (low high n : Int) (w : World) (q1 : w.cell? ⟨b1, 0, none⟩ = some (.int .i64 low)) (q2 : w.cell? ⟨b2, 0, none⟩ = some (.int .i64 high)) :
    Calls Try.prog 26 #[.int .i64 n, .pointer (some ⟨b1, 0, none⟩), .pointer (some ⟨b2, 0, none⟩)] w fun e w' => e = .returned (.bool (inW low high n)) ∧ w = w' := by
  have HR : Hid (inW low high n = (decide (low ≤ n) && decide (n ≤ high))) := Lib.hid rfl
  by_cases p1 : low ≤ n
  · have g1 : decide (low ≤ n) = true := decide_eq_true p1
    rw [g1] at HR
    clear p1
    go_enter Try.func26, Try.ntmps26
    go_wp2_with fail
    go_ret
    exact ⟨ret_bool (by rw [HR.out]; rfl), rfl⟩
  · have g1 : decide (low ≤ n) = false := decide_eq_false p1
    rw [g1] at HR
    clear p1
    go_enter Try.func26, Try.ntmps26
    go_wp2_with fail
    go_ret
    exact ⟨ret_bool (by rw [HR.out]; rfl), rfl⟩
theorem asks_win {w : World} {low high : Int} {b1 b2 : Nat} (y : w.cell? ⟨b1, 0, none⟩ = some (.int .i64 low)) (z : w.cell? ⟨b2, 0, none⟩ = some (.int .i64 high)) (h : b1 < w.heap.size ∧ b2 < w.heap.size) :
    AsksN 26 #[.pointer (some ⟨b1, 0, none⟩), .pointer (some ⟨b2, 0, none⟩)] w.heap.size w (inW low high) := by
  intro W r hb
  exact (winC_any b1 b2 low high r W ((hb.cell (p := ⟨b1, 0, none⟩) h.1).trans y) ((hb.cell (p := ⟨b2, 0, none⟩) h.2).trans z)).mono fun e w' ⟨h1, h2⟩ => ⟨h1, by rw [h2]; exact Below.refl _ _⟩
set_option maxRecDepth 100000 in
set_option maxHeartbeats 32000000 in
theorem windows_law (low high : Int) (d : Nat) (a : Option Addr) (L : List BrickR) (cap : Nat) (w : World) (hd : d ≤ 65535) (hcap : L.length ≤ cap) (hL : Bricks w.heap.size w a L) :
    Calls Try.prog 6 #[.slice a L.length cap, .int .i64 low, .int .i64 high, .int .u16 (d : Int)] w fun e w' => e = .returned (.bool true) ∧ Below w.heap.size w w' := by
  have HL := Lib.hid hL
  clear hL
  cases hf : fewB L
  · have HF := Lib.hid hf
    clear hf
    go_enter Try.func6, Try.ntmps6
    go_wp2_with (first
      | (go_at_call 9; (with_reducible refine (awake_any _).mono ?_); rintro e w1 ⟨rfl, hb⟩; have HB := Lib.hid (mono_in2 _ _ hb); have y := (start_cell2 hb).1; have z := (start_cell2 hb).2; have HZ := Lib.hid (start_lt2 hb); clear hb)
      | (go_at_call 10; (with_reducible refine (few_any _ L _ _ (HL.out.grow HB.out)).mono ?_); rintro e wx ⟨rfl, hb⟩; rw [HF.out]; have y := (hb.cell (p := ⟨w.heap.size, 0, none⟩) HZ.out.1).trans y; have z := (hb.cell (p := ⟨w.heap.size + 1, 0, none⟩) HZ.out.2).trans z; have HZ := Lib.hid (lt2_grow HZ.out hb); have HB := Lib.hid (HB.out.trans (hb.mono HB.out.size)); clear hb))
    go_ret
    exact ⟨rfl, HB.out⟩
  have HF := Lib.hid hf
  obtain ⟨hl, h7⟩ := few_ok hf
  cases hb : brickB L
  · have HR := Lib.hid hb
    clear hf hb h7
    go_enter Try.func6, Try.ntmps6
    go_wp2_with (first
      | (go_at_call 9; (with_reducible refine (awake_any _).mono ?_); rintro e w1 ⟨rfl, hb⟩; have HB := Lib.hid (mono_in2 _ _ hb); have y := (start_cell2 hb).1; have z := (start_cell2 hb).2; have HZ := Lib.hid (start_lt2 hb); clear hb)
      | (go_at_call 10; (with_reducible refine (few_any _ L _ _ (HL.out.grow HB.out)).mono ?_); rintro e wx ⟨rfl, hb⟩; rw [HF.out]; have y := (hb.cell (p := ⟨w.heap.size, 0, none⟩) HZ.out.1).trans y; have z := (hb.cell (p := ⟨w.heap.size + 1, 0, none⟩) HZ.out.2).trans z; have HZ := Lib.hid (lt2_grow HZ.out hb); have HB := Lib.hid (HB.out.trans (hb.mono HB.out.size)); clear hb)
      | (go_at_call 14; (with_reducible refine (right_any _ L _ _ (HL.out.grow HB.out)).mono ?_); rintro e wx ⟨rfl, hb⟩; rw [HR.out]; have y := (hb.cell (p := ⟨w.heap.size, 0, none⟩) HZ.out.1).trans y; have z := (hb.cell (p := ⟨w.heap.size + 1, 0, none⟩) HZ.out.2).trans z; have HZ := Lib.hid (lt2_grow HZ.out hb); have HB := Lib.hid (HB.out.trans (hb.mono HB.out.size)); clear hb))
    go_ret
    exact ⟨rfl, HB.out⟩
  have HR := Lib.hid hb
  obtain ⟨hl8, _, _, hok⟩ := brick_ok hb
  by_cases q1 : low < -1099511627776
  · have g1 : decide (low < -1099511627776) = true := decide_eq_true q1
    clear hf hb hok q1 h7
    go_enter Try.func6, Try.ntmps6
    go_wp2_with (first
      | (go_at_call 9; (with_reducible refine (awake_any _).mono ?_); rintro e w1 ⟨rfl, hb⟩; have HB := Lib.hid (mono_in2 _ _ hb); have y := (start_cell2 hb).1; have z := (start_cell2 hb).2; have HZ := Lib.hid (start_lt2 hb); clear hb)
      | (go_at_call 10; (with_reducible refine (few_any _ L _ _ (HL.out.grow HB.out)).mono ?_); rintro e wx ⟨rfl, hb⟩; rw [HF.out]; have y := (hb.cell (p := ⟨w.heap.size, 0, none⟩) HZ.out.1).trans y; have z := (hb.cell (p := ⟨w.heap.size + 1, 0, none⟩) HZ.out.2).trans z; have HZ := Lib.hid (lt2_grow HZ.out hb); have HB := Lib.hid (HB.out.trans (hb.mono HB.out.size)); clear hb)
      | (go_at_call 14; (with_reducible refine (right_any _ L _ _ (HL.out.grow HB.out)).mono ?_); rintro e wx ⟨rfl, hb⟩; rw [HR.out]; have y := (hb.cell (p := ⟨w.heap.size, 0, none⟩) HZ.out.1).trans y; have z := (hb.cell (p := ⟨w.heap.size + 1, 0, none⟩) HZ.out.2).trans z; have HZ := Lib.hid (lt2_grow HZ.out hb); have HB := Lib.hid (HB.out.trans (hb.mono HB.out.size)); clear hb))
    go_ret
    exact ⟨rfl, HB.out⟩
  have g1 : decide (low < -1099511627776) = false := decide_eq_false q1
  by_cases q2 : 1099511627776 < high
  · have g2 : decide (1099511627776 < high) = true := decide_eq_true q2
    clear hf hb hok q1 q2 h7
    go_enter Try.func6, Try.ntmps6
    go_wp2_with (first
      | (go_at_call 9; (with_reducible refine (awake_any _).mono ?_); rintro e w1 ⟨rfl, hb⟩; have HB := Lib.hid (mono_in2 _ _ hb); have y := (start_cell2 hb).1; have z := (start_cell2 hb).2; have HZ := Lib.hid (start_lt2 hb); clear hb)
      | (go_at_call 10; (with_reducible refine (few_any _ L _ _ (HL.out.grow HB.out)).mono ?_); rintro e wx ⟨rfl, hb⟩; rw [HF.out]; have y := (hb.cell (p := ⟨w.heap.size, 0, none⟩) HZ.out.1).trans y; have z := (hb.cell (p := ⟨w.heap.size + 1, 0, none⟩) HZ.out.2).trans z; have HZ := Lib.hid (lt2_grow HZ.out hb); have HB := Lib.hid (HB.out.trans (hb.mono HB.out.size)); clear hb)
      | (go_at_call 14; (with_reducible refine (right_any _ L _ _ (HL.out.grow HB.out)).mono ?_); rintro e wx ⟨rfl, hb⟩; rw [HR.out]; have y := (hb.cell (p := ⟨w.heap.size, 0, none⟩) HZ.out.1).trans y; have z := (hb.cell (p := ⟨w.heap.size + 1, 0, none⟩) HZ.out.2).trans z; have HZ := Lib.hid (lt2_grow HZ.out hb); have HB := Lib.hid (HB.out.trans (hb.mono HB.out.size)); clear hb))
    go_ret
    exact ⟨rfl, HB.out⟩
  have g2 : decide (1099511627776 < high) = false := decide_eq_false q2
  by_cases q3 : high < low
  · have g3 : decide (high < low) = true := decide_eq_true q3
    clear hf hb hok q1 q2 q3 h7
    go_enter Try.func6, Try.ntmps6
    go_wp2_with (first
      | (go_at_call 9; (with_reducible refine (awake_any _).mono ?_); rintro e w1 ⟨rfl, hb⟩; have HB := Lib.hid (mono_in2 _ _ hb); have y := (start_cell2 hb).1; have z := (start_cell2 hb).2; have HZ := Lib.hid (start_lt2 hb); clear hb)
      | (go_at_call 10; (with_reducible refine (few_any _ L _ _ (HL.out.grow HB.out)).mono ?_); rintro e wx ⟨rfl, hb⟩; rw [HF.out]; have y := (hb.cell (p := ⟨w.heap.size, 0, none⟩) HZ.out.1).trans y; have z := (hb.cell (p := ⟨w.heap.size + 1, 0, none⟩) HZ.out.2).trans z; have HZ := Lib.hid (lt2_grow HZ.out hb); have HB := Lib.hid (HB.out.trans (hb.mono HB.out.size)); clear hb)
      | (go_at_call 14; (with_reducible refine (right_any _ L _ _ (HL.out.grow HB.out)).mono ?_); rintro e wx ⟨rfl, hb⟩; rw [HR.out]; have y := (hb.cell (p := ⟨w.heap.size, 0, none⟩) HZ.out.1).trans y; have z := (hb.cell (p := ⟨w.heap.size + 1, 0, none⟩) HZ.out.2).trans z; have HZ := Lib.hid (lt2_grow HZ.out hb); have HB := Lib.hid (HB.out.trans (hb.mono HB.out.size)); clear hb))
    go_ret
    exact ⟨rfl, HB.out⟩
  have g3 : decide (high < low) = false := decide_eq_false q3
  have H7 := Lib.hid h7
  have hk7 : (sumsP L).length ≤ 1100 := by have := Nat.le_trans (sumsP_len L) (h7 hb); omega
  have HSM : Hid (sumsC L = sumsP L ∧ sumsE L = 0) := Lib.hid (by unfold sumsC sumsE; rw [hb]; exact ⟨rfl, rfl⟩)
  obtain ⟨c1, e1⟩ := win_is (low := low) (high := high) hb (by omega)
  obtain ⟨c2, e2⟩ := win_is (low := low - (d : Int)) (high := high + (d : Int)) hb (by omega)
  have hbest1 := first_best low high L
  have hbest2 := first_best (low - (d : Int)) (high + (d : Int)) L
  have hsome := first_some (low := low) (high := high) (L := L)
  have z1 : IntKind.i64.wrap (d : Int) = (d : Int) := IntWalk.i64_in _ (by omega)
  have z2 : IntKind.i64.wrap (low - (d : Int)) = low - (d : Int) := IntWalk.i64_in _ (by omega)
  have z3 : IntKind.i64.wrap (high + (d : Int)) = high + (d : Int) := IntWalk.i64_in _ (by omega)
  have HC1 := Lib.hid c1
  have HC2 := Lib.hid c2
  cases hq1 : firstP low high L with
  | none =>
    rw [hq1] at e1 hsome c1
    obtain ⟨_, e1⟩ | ⟨e1, _⟩ := e1
    · cases e1
    have HE1 := Lib.hid e1
    have HS1 : Hid (listS (firstP low high L) = []) := Lib.hid (by rw [hq1]; rfl)
    have HG : Hid (num_any (sumsP L) (inW low high) = false) := Lib.hid (by
      rw [num_any_eq, Bool.eq_false_iff]
      intro h1
      rw [List.any_eq_true] at h1
      obtain ⟨x, hx, h2⟩ := h1
      unfold inW at h2
      simp only [Bool.and_eq_true, decide_eq_true_eq] at h2
      have := hsome.2 ⟨x, sumsP_mem.1 hx, h2.1, h2.2⟩
      cases this)
    obtain ⟨S2, hS2⟩ : ∃ S, listS (firstP (low - (d : Int)) (high + (d : Int)) L) = S := ⟨_, rfl⟩
    have HS2 := Lib.hid hS2
    obtain ⟨ez, hez⟩ : ∃ S, winE (low - (d : Int)) (high + (d : Int)) L = S := ⟨_, rfl⟩
    have HE2 := Lib.hid hez
    clear hf hb hok h7 hbest1 hbest2 hsome hq1 e1 e2 c1 c2 q1 q2 q3 hS2 hez
    go_enter Try.func6, Try.ntmps6
    go_wp2_with (first
      | (go_at_call 9; (with_reducible refine (awake_any _).mono ?_); rintro e w1 ⟨rfl, hb⟩; have HB := Lib.hid (mono_in2 _ _ hb); have y := (start_cell2 hb).1; have z := (start_cell2 hb).2; have HZ := Lib.hid (start_lt2 hb); clear hb)
      | (go_at_call 10; (with_reducible refine (few_any _ L _ _ (HL.out.grow HB.out)).mono ?_); rintro e wx ⟨rfl, hb⟩; rw [HF.out]; have y := (hb.cell (p := ⟨w.heap.size, 0, none⟩) HZ.out.1).trans y; have z := (hb.cell (p := ⟨w.heap.size + 1, 0, none⟩) HZ.out.2).trans z; have HZ := Lib.hid (lt2_grow HZ.out hb); have HB := Lib.hid (HB.out.trans (hb.mono HB.out.size)); clear hb)
      | (go_at_call 14; (with_reducible refine (right_any _ L _ _ (HL.out.grow HB.out)).mono ?_); rintro e wx ⟨rfl, hb⟩; rw [HR.out]; have y := (hb.cell (p := ⟨w.heap.size, 0, none⟩) HZ.out.1).trans y; have z := (hb.cell (p := ⟨w.heap.size + 1, 0, none⟩) HZ.out.2).trans z; have HZ := Lib.hid (lt2_grow HZ.out hb); have HB := Lib.hid (HB.out.trans (hb.mono HB.out.size)); clear hb)
      | (go_at_call 13; (with_reducible refine (window_any low high _ L _ _ hcap (HL.out.grow HB.out)).mono ?_); rintro e wx ⟨hx, hb⟩; obtain ⟨v, rfl, hv⟩ := hx.out; rw [HC1.out] at hv; rw [HE1.out]; obtain ⟨ha1a, ha1c, rfl, _, _, _, hS⟩ := RowV.nums hv; rw [HS1.out] at hS ⊢; have HA1 := Lib.hid hS; have y := (hb.cell (p := ⟨w.heap.size, 0, none⟩) HZ.out.1).trans y; have z := (hb.cell (p := ⟨w.heap.size + 1, 0, none⟩) HZ.out.2).trans z; have HZ := Lib.hid (lt2_grow HZ.out hb); have HB := Lib.hid (HB.out.trans (hb.mono HB.out.size)); clear hx hv hS hb)
      | (go_at_call 13; (with_reducible refine (window_any (low - (d : Int)) (high + (d : Int)) _ L _ _ hcap (HL.out.grow HB.out)).mono ?_); rintro e wx ⟨hx, hb⟩; obtain ⟨v, rfl, hv⟩ := hx.out; rw [HC2.out] at hv; rw [HE2.out]; obtain ⟨ha2a, ha2c, rfl, _, _, _, hS⟩ := RowV.nums hv; rw [HS2.out] at hS ⊢; have HA2 := Lib.hid hS; have y := (hb.cell (p := ⟨w.heap.size, 0, none⟩) HZ.out.1).trans y; have z := (hb.cell (p := ⟨w.heap.size + 1, 0, none⟩) HZ.out.2).trans z; have HZ := Lib.hid (lt2_grow HZ.out hb); have HA1 := Lib.hid (HA1.out.grow hb); have HB := Lib.hid (HB.out.trans (hb.mono HB.out.size)); clear hx hv hS hb)
      | (go_at_call 18; (with_reducible refine (sums_any _ L _ _ hcap H7.out (HL.out.grow HB.out)).mono ?_); rintro e wx ⟨hx, hb⟩; obtain ⟨v, rfl, hv⟩ := hx.out; rw [HSM.out.1] at hv; rw [HSM.out.2]; obtain ⟨sa, sc, rfl, _, _, _, hS⟩ := num_of_row hv; have HK := Lib.hid hS; have HA1 := Lib.hid (HA1.out.grow hb); have HA2 := Lib.hid (HA2.out.grow hb); have y := (hb.cell (p := ⟨w.heap.size, 0, none⟩) HZ.out.1).trans y; have z := (hb.cell (p := ⟨w.heap.size + 1, 0, none⟩) HZ.out.2).trans z; have HZ := Lib.hid (lt2_grow HZ.out hb); have HB := Lib.hid (HB.out.trans (hb.mono HB.out.size)); clear hx hv hS hb)
      | (go_at_call 20; (with_reducible refine (num_containsFunc _ (sumsP L) _ _ _ _ (inW low high) _ ent_win hk7 (Nat.le_refl _) HK.out (asks_win y z HZ.out)).mono ?_); rintro e wx ⟨rfl, hb⟩; rw [HG.out]; have HB := Lib.hid (HB.out.trans (hb.mono HB.out.size)); clear hb))
    go_ret
    exact ⟨rfl, HB.out⟩
  | some p =>
    obtain ⟨S1, m⟩ := p
    rw [hq1] at e1 hbest1 c1
    obtain ⟨hi1, hw1, rfl, _⟩ := hbest1
    obtain ⟨e1, _⟩ | ⟨_, e1⟩ := e1
    case inr => cases e1
    have HE1 := Lib.hid e1
    have HS1 : Hid (listS (firstP low high L) = S1) := Lib.hid (by rw [hq1]; rfl)
    have hx1 : low ≤ sumC L S1 ∧ sumC L S1 ≤ high := by
      unfold winB at hw1
      simp only [Bool.and_eq_true, decide_eq_true_eq] at hw1
      exact hw1
    have hsome2 := first_some.2 (show ∃ x, IsSum L x ∧ low - (d : Int) ≤ x ∧ x ≤ high + (d : Int) from ⟨_, ⟨S1, hi1, rfl⟩, by omega, by omega⟩)
    cases hq2 : firstP (low - (d : Int)) (high + (d : Int)) L with
    | none => rw [hq2] at hsome2; cases hsome2
    | some p2 =>
      obtain ⟨S2, m2⟩ := p2
      rw [hq2] at e2 hbest2 c2
      obtain ⟨hi2, hw2, rfl, hbe⟩ := hbest2
      obtain ⟨e2, _⟩ | ⟨_, e2⟩ := e2
      case inr => cases e2
      have HE2 := Lib.hid e2
      have HS2 : Hid (listS (firstP (low - (d : Int)) (high + (d : Int)) L) = S2) := Lib.hid (by rw [hq2]; rfl)
      have hx2 : low - (d : Int) ≤ sumC L S2 ∧ sumC L S2 ≤ high + (d : Int) := by
        unfold winB at hw2
        simp only [Bool.and_eq_true, decide_eq_true_eq] at hw2
        exact hw2
      have hle : numC S2 ≤ numC S1 := by
        rcases hbe S1 hi1 (by unfold winB; rw [decide_eq_true (show low - (d : Int) ≤ sumC L S1 by omega), decide_eq_true (show sumC L S1 ≤ high + (d : Int) by omega)]; rfl) with e | e
        · rw [e]; exact Int.le_refl _
        · unfold beforeB at e
          split at e
          · omega
          · have := of_decide_eq_true e; omega
      obtain ⟨x1, hsx1⟩ : ∃ x, sumC L S1 = x := ⟨_, rfl⟩
      obtain ⟨x2, hsx2⟩ : ∃ x, sumC L S2 = x := ⟨_, rfl⟩
      rw [hsx1] at hx1
      rw [hsx2] at hx2
      have HWN : Hid (weightN L S1 = x1) := Lib.hid (by unfold weightN; rw [if_pos ⟨hb, hi1⟩, hsx1])
      have HWE : Hid (weightE L S1 = 0) := Lib.hid (by unfold weightE; rw [if_pos hb, if_pos (isC_len hi1), if_pos hi1])
      have HVN : Hid (weightN L S2 = x2) := Lib.hid (by unfold weightN; rw [if_pos ⟨hb, hi2⟩, hsx2])
      have HVE : Hid (weightE L S2 = 0) := Lib.hid (by unfold weightE; rw [if_pos hb, if_pos (isC_len hi2), if_pos hi2])
      have l1 := isC_len hi1
      have l2 := isC_len hi2
      have g4 : decide (x1 < low) = false := decide_eq_false (by omega)
      have g5 : decide (high < x1) = false := decide_eq_false (by omega)
      have g6 : decide (x2 < low - (d : Int)) = false := decide_eq_false (by omega)
      have g7 : decide (high + (d : Int) < x2) = false := decide_eq_false (by omega)
      have g8 : ((S1.length : Int) != (S2.length : Int)) = false := bne_eq_false_iff_eq.2 (by omega)
      have g9 : (S1.length != S2.length) = false := bne_eq_false_iff_eq.2 (by omega)
      have HTB1 : Hid (∀ k, k ≤ S1.length → 0 ≤ numTo S1 k ∧ numTo S1 k ≤ 60 * (k : Int)) := Lib.hid (numTo_bd hok l1 (isC_iff.1 hi1).2)
      have HTB2 : Hid (∀ k, k ≤ S1.length → 0 ≤ numTo S2 k ∧ numTo S2 k ≤ 60 * (k : Int)) := Lib.hid fun k hk => numTo_bd hok l2 (isC_iff.1 hi2).2 k (by omega)
      have HEND : Hid (decide (0 ≤ numTo S1 S1.length - numTo S2 S1.length) = true ∧ decide (numTo S2 S1.length ≤ numTo S1 S1.length) = true) := Lib.hid (by
        have e1 := numTo_all S1
        have e2 := numTo_all S2
        rw [show S2.length = S1.length by omega] at e2
        rw [e1, e2]
        exact ⟨decide_eq_true (by omega), decide_eq_true (by omega)⟩)
      have hl1 : S1.length ≤ 8 := by omega
      have HLL : Hid (S2.length = S1.length) := Lib.hid (by omega)
      have HSS : Hid (∀ (S : List Int) (k : Nat), numTo S (k + 1) = numTo S k + ig S k) := Lib.hid fun _ _ => rfl
      clear hf hb hok h7 hbe hi1 hi2 hw1 hw2 hq1 hq2 hsome hsome2 e1 e2 c1 c2 hle hsx1 hsx2 l1 l2
      go_enter Try.func6, Try.ntmps6
      go_wp2_with (first
        | (go_at_call 9; (with_reducible refine (awake_any _).mono ?_); rintro e w1 ⟨rfl, hb⟩; have HB := Lib.hid (mono_in2 _ _ hb); have y := (start_cell2 hb).1; have z := (start_cell2 hb).2; have HZ := Lib.hid (start_lt2 hb); clear hb)
        | (go_at_call 10; (with_reducible refine (few_any _ L _ _ (HL.out.grow HB.out)).mono ?_); rintro e wx ⟨rfl, hb⟩; rw [HF.out]; have y := (hb.cell (p := ⟨w.heap.size, 0, none⟩) HZ.out.1).trans y; have z := (hb.cell (p := ⟨w.heap.size + 1, 0, none⟩) HZ.out.2).trans z; have HZ := Lib.hid (lt2_grow HZ.out hb); have HB := Lib.hid (HB.out.trans (hb.mono HB.out.size)); clear hb)
        | (go_at_call 14; (with_reducible refine (right_any _ L _ _ (HL.out.grow HB.out)).mono ?_); rintro e wx ⟨rfl, hb⟩; rw [HR.out]; have y := (hb.cell (p := ⟨w.heap.size, 0, none⟩) HZ.out.1).trans y; have z := (hb.cell (p := ⟨w.heap.size + 1, 0, none⟩) HZ.out.2).trans z; have HZ := Lib.hid (lt2_grow HZ.out hb); have HB := Lib.hid (HB.out.trans (hb.mono HB.out.size)); clear hb)
        | (go_at_call 13; (with_reducible refine (window_any low high _ L _ _ hcap (HL.out.grow HB.out)).mono ?_); rintro e wx ⟨hx, hb⟩; obtain ⟨v, rfl, hv⟩ := hx.out; rw [HC1.out] at hv; rw [HE1.out]; obtain ⟨ha1a, ha1c, rfl, _, _, _, hS⟩ := RowV.nums hv; rw [HS1.out] at hS ⊢; have HA1 := Lib.hid hS; have y := (hb.cell (p := ⟨w.heap.size, 0, none⟩) HZ.out.1).trans y; have z := (hb.cell (p := ⟨w.heap.size + 1, 0, none⟩) HZ.out.2).trans z; have HZ := Lib.hid (lt2_grow HZ.out hb); have HB := Lib.hid (HB.out.trans (hb.mono HB.out.size)); clear hx hv hS hb)
        | (go_at_call 13; (with_reducible refine (window_any (low - (d : Int)) (high + (d : Int)) _ L _ _ hcap (HL.out.grow HB.out)).mono ?_); rintro e wx ⟨hx, hb⟩; obtain ⟨v, rfl, hv⟩ := hx.out; rw [HC2.out] at hv; rw [HE2.out]; obtain ⟨ha2a, ha2c, rfl, _, _, _, hS⟩ := RowV.nums hv; rw [HS2.out] at hS ⊢; have HA2 := Lib.hid hS; have y := (hb.cell (p := ⟨w.heap.size, 0, none⟩) HZ.out.1).trans y; have z := (hb.cell (p := ⟨w.heap.size + 1, 0, none⟩) HZ.out.2).trans z; have HZ := Lib.hid (lt2_grow HZ.out hb); have HA1 := Lib.hid (HA1.out.grow hb); have HB := Lib.hid (HB.out.trans (hb.mono HB.out.size)); clear hx hv hS hb)
        | (go_at_call 18; (with_reducible refine (sums_any _ L _ _ hcap H7.out (HL.out.grow HB.out)).mono ?_); rintro e wx ⟨hx, hb⟩; obtain ⟨v, rfl, hv⟩ := hx.out; rw [HSM.out.1] at hv; rw [HSM.out.2]; obtain ⟨sa, sc, rfl, _, _, _, hS⟩ := num_of_row hv; have HK := Lib.hid hS; have HA1 := Lib.hid (HA1.out.grow hb); have HA2 := Lib.hid (HA2.out.grow hb); have y := (hb.cell (p := ⟨w.heap.size, 0, none⟩) HZ.out.1).trans y; have z := (hb.cell (p := ⟨w.heap.size + 1, 0, none⟩) HZ.out.2).trans z; have HZ := Lib.hid (lt2_grow HZ.out hb); have HB := Lib.hid (HB.out.trans (hb.mono HB.out.size)); clear hx hv hS hb)
        | (go_at_call 23; (with_reducible refine (weight_any _ L _ _ S1 _ _ hcap (HL.out.grow HB.out) HA1.out).mono ?_); rintro e wx ⟨rfl, hb⟩; rw [HWN.out, HWE.out]; have y := (hb.cell (p := ⟨w.heap.size, 0, none⟩) HZ.out.1).trans y; have z := (hb.cell (p := ⟨w.heap.size + 1, 0, none⟩) HZ.out.2).trans z; have HZ := Lib.hid (lt2_grow HZ.out hb); have HA1 := Lib.hid (HA1.out.grow hb); have HA2 := Lib.hid (HA2.out.grow hb); have HB := Lib.hid (HB.out.trans (hb.mono HB.out.size)); clear hb)
        | (go_at_call 23; (with_reducible refine (weight_any _ L _ _ S2 _ _ hcap (HL.out.grow HB.out) HA2.out).mono ?_); rintro e wx ⟨rfl, hb⟩; rw [HVN.out, HVE.out]; have y := (hb.cell (p := ⟨w.heap.size, 0, none⟩) HZ.out.1).trans y; have z := (hb.cell (p := ⟨w.heap.size + 1, 0, none⟩) HZ.out.2).trans z; have HZ := Lib.hid (lt2_grow HZ.out hb); have HA1 := Lib.hid (HA1.out.grow hb); have HA2 := Lib.hid (HA2.out.grow hb); have HB := Lib.hid (HB.out.trans (hb.mono HB.out.size)); clear hb))
      go_loopw [19, 138] (fun s v wr => ∃ k : Nat, k ≤ S1.length ∧ v = .int .i64 k ∧ s = .int .i64 (numTo S1 k - numTo S2 k) ∧ Below wx.heap.size wx wr) (fun _ v _ => S1.length - (intOf v).toNat)
      case atStart => exact ⟨0, Nat.zero_le _, rfl, rfl, Below.refl _ _⟩
      case round =>
        obtain ⟨k, hk, rfl, rfl, hC⟩ := hrel
        by_cases hlt : k < S1.length
        · obtain ⟨ba, oa, rfl, hba, hca⟩ := HA1.out (by omega)
          obtain ⟨bb, ob, rfl, hbb, hcb⟩ := HA2.out (by have := HLL.out; omega)
          have c1 := (hC.cell (p := ⟨ba, oa + k, none⟩) hba).trans (hca k hlt)
          have c2 := (hC.cell (p := ⟨bb, ob + k, none⟩) hbb).trans (hcb k (by have := HLL.out; omega))
          have b1 := HTB1.out k hk
          have b2 := HTB2.out k hk
          have b3 := HTB1.out (k + 1) hlt
          have b4 := HTB2.out (k + 1) hlt
          rw [HSS.out] at b3 b4
          have hE : Hid (numTo S1 (k + 1) - numTo S2 (k + 1) = numTo S1 k - numTo S2 k + (ig S1 k - ig S2 k)) := Lib.hid (by rw [HSS.out, HSS.out]; omega)
          have s1 : IntKind.i64.wrap (ig S1 k - ig S2 k) = ig S1 k - ig S2 k := IntWalk.i64_in _ (by omega)
          have s2 : IntKind.i64.wrap (numTo S1 k - numTo S2 k + (ig S1 k - ig S2 k)) = numTo S1 k - numTo S2 k + (ig S1 k - ig S2 k) := IntWalk.i64_in _ (by omega)
          have j1 : (k : Int) < S1.length := by omega
          have j2 : (k : Int) < S2.length := by have := HLL.out; omega
          have j3 : k < S2.length := by omega
          clear hca hcb b1 b2 b3 b4
          go_wp2_with (go_quiet (fail))
          clear s1 s2
          go_roundw
          case rel => exact ⟨k + 1, by omega, by go_num, by rw [hE.out], below_drewN hC _⟩
          case measure => simp [intOf]; omega
        · obtain rfl : k = S1.length := by omega
          obtain ⟨hz, hz2⟩ := HEND.out
          go_wp2_with fail
          go_ret
          exact ⟨rfl, HB.out.trans (hC.mono HB.out.size)⟩
theorem windows_int (low high d : Int) (a : Option Addr) (L : List BrickR) (cap : Nat) (w : World) (hd : 0 ≤ d ∧ d ≤ 65535) (hcap : L.length ≤ cap) (hL : Bricks w.heap.size w a L) :
    Calls Try.prog 6 #[.slice a L.length cap, .int .i64 low, .int .i64 high, .int .u16 d] w fun e w' => e = .returned (.bool true) ∧ Below w.heap.size w w' := by
  obtain ⟨n, rfl⟩ := Int.eq_ofNat_of_zero_le hd.1
  exact windows_law low high n a L cap w (by omega) hcap hL
end Go.Proofs.Ytgijekinlkpbkaa
