/-
  THE WALK of the law BricksNear.
-/
import Derived.Test.YtgijekinlkpbkaaNearCl
namespace Go.Proofs.Ytgijekinlkpbkaa
open Go.RowKit Go.Shelf
theorem start_cell {w w1 : World} {v : Value} {t : TypeId} (h : Below (w.alloc (.cells #[v] t)).heap.size (w.alloc (.cells #[v] t)) w1) : w1.cell? ⟨w.heap.size, 0, none⟩ = some v :=
  (h.cell (p := ⟨w.heap.size, 0, none⟩) (by simp)).trans (by go_simp)
theorem start_lt {w w1 : World} {o : Obj} (h : Below (w.alloc o).heap.size (w.alloc o) w1) : w.heap.size < w1.heap.size := by
  have := h.size
  simp at this
  omega
theorem below_new2 (w : World) (o p : Obj) : Below w.heap.size w ((w.alloc o).alloc p) := (below_new w o).alloc (by simp) p
theorem mono_in2 {w w' : World} (o p : Obj) (h : Below ((w.alloc o).alloc p).heap.size ((w.alloc o).alloc p) w') : Below w.heap.size w w' := (below_new2 w o p).trans (h.mono (by simp; omega))
theorem ent_near (args : Array Value) (w : World) : (callFunc 25 args).run Try.prog w = .ok (.enter 25 args) w := enters_of Try.func25 (by kernel_rfl) rfl args w
theorem asks_near {w : World} {wt n : Int} {B : Nat} (y : w.cell? ⟨B, 0, none⟩ = some (.int .i64 wt)) (hB : B < w.heap.size) :
    AsksN 25 #[.pointer (some ⟨w.heap.size + 1, 0, none⟩), .pointer (some ⟨w.heap.size, 0, none⟩)] ((w.alloc (.cells #[.int .i64 n] 3)).alloc (.cells #[.func (.func 24) #[] #[.pointer (some ⟨B, 0, none⟩)]] 45)).heap.size
      ((w.alloc (.cells #[.int .i64 n] 3)).alloc (.cells #[.func (.func 24) #[] #[.pointer (some ⟨B, 0, none⟩)]] 45)) (fun x => nearW wt x n) := by
  intro W r hb
  refine nearC_any (w.heap.size + 1) w.heap.size B wt n r W ?_ ?_ ?_
  · exact (hb.cell (p := ⟨w.heap.size + 1, 0, none⟩) (by simp)).trans (by go_simp)
  · exact (hb.cell (p := ⟨w.heap.size, 0, none⟩) (by simp; omega)).trans (by go_simp)
  · refine (hb.cell (p := ⟨B, 0, none⟩) (by simp; omega)).trans ?_
    rw [World.cell?_alloc_lt _ _ _ (by simp; omega), World.cell?_alloc_lt _ _ _ hB]
    exact y
theorem near_none {wt : Int} {L : List BrickR} (ok : BrickOK L) (hl : L.length ≤ 8) (h : -1099511627776 ≤ wt ∧ wt ≤ 1099511627776) (n : Int) (hn : n = nearP wt L) : num_any (sumsP L) (fun x => nearW wt x n) = false := by
  obtain ⟨hs, hm⟩ := nearP_spec (w := wt) ok
  rw [← hn] at hs hm
  have bd : ∀ x, IsSum L x → -1125899906842624 ≤ x ∧ x ≤ 1125899906842624 := fun x ⟨c, hc, e⟩ => by
    have h1 := isC_bd ok hc
    have h2 := rest_bd ok
    omega
  rw [num_any_eq, Bool.eq_false_iff]
  intro h1
  rw [List.any_eq_true] at h1
  obtain ⟨x, hx, h2⟩ := h1
  have hx' := sumsP_mem.1 hx
  have h3 : nearW wt x n = true := h2
  unfold nearW at h3
  rw [farW_is ⟨by omega, by omega⟩ (bd x hx'), farW_is ⟨by omega, by omega⟩ (bd n hs)] at h3
  exact hm x hx' (of_decide_eq_true h3)
set_option maxRecDepth 100000 in
set_option maxHeartbeats 32000000 in
theorem near_law (wt : Int) (a : Option Addr) (L : List BrickR) (cap : Nat) (w : World) (hcap : L.length ≤ cap) (hL : Bricks w.heap.size w a L) :
    Calls Try.prog 5 #[.slice a L.length cap, .int .i64 wt] w fun e w' => e = .returned (.bool true) ∧ Below w.heap.size w w' := by
  have HL := Lib.hid hL
  clear hL
  cases hf : fewB L
  · have HF := Lib.hid hf
    clear hf
    go_enter Try.func5, Try.ntmps5
    go_wp2_with (first
      | (go_at_call 9; (with_reducible refine (awake_any _).mono ?_); rintro e w1 ⟨rfl, hb⟩; have HB := Lib.hid (mono_in _ hb); have y := start_cell hb; have HZ := Lib.hid (start_lt hb); clear hb)
      | (go_at_call 10; (with_reducible refine (few_any _ L _ _ (HL.out.grow HB.out)).mono ?_); rintro e wx ⟨rfl, hb⟩; rw [HF.out]; have y := (hb.cell (p := ⟨w.heap.size, 0, none⟩) HZ.out).trans y; have HZ := Lib.hid (Nat.lt_of_lt_of_le HZ.out hb.size); have HB := Lib.hid (HB.out.trans (hb.mono HB.out.size)); clear hb))
    go_ret
    exact ⟨rfl, HB.out⟩
  have HF := Lib.hid hf
  obtain ⟨hl, h7⟩ := few_ok hf
  cases hb : brickB L
  · have HR := Lib.hid hb
    clear hf hb h7
    go_enter Try.func5, Try.ntmps5
    go_wp2_with (first
      | (go_at_call 9; (with_reducible refine (awake_any _).mono ?_); rintro e w1 ⟨rfl, hb⟩; have HB := Lib.hid (mono_in _ hb); have y := start_cell hb; have HZ := Lib.hid (start_lt hb); clear hb)
      | (go_at_call 10; (with_reducible refine (few_any _ L _ _ (HL.out.grow HB.out)).mono ?_); rintro e wx ⟨rfl, hb⟩; rw [HF.out]; have y := (hb.cell (p := ⟨w.heap.size, 0, none⟩) HZ.out).trans y; have HZ := Lib.hid (Nat.lt_of_lt_of_le HZ.out hb.size); have HB := Lib.hid (HB.out.trans (hb.mono HB.out.size)); clear hb)
      | (go_at_call 14; (with_reducible refine (right_any _ L _ _ (HL.out.grow HB.out)).mono ?_); rintro e wx ⟨rfl, hb⟩; rw [HR.out]; have y := (hb.cell (p := ⟨w.heap.size, 0, none⟩) HZ.out).trans y; have HZ := Lib.hid (Nat.lt_of_lt_of_le HZ.out hb.size); have HB := Lib.hid (HB.out.trans (hb.mono HB.out.size)); clear hb))
    go_ret
    exact ⟨rfl, HB.out⟩
  have HR := Lib.hid hb
  obtain ⟨hl8, _, _, hok⟩ := brick_ok hb
  by_cases q1 : wt < -1099511627776
  · have g1 : decide (wt < -1099511627776) = true := decide_eq_true q1
    clear hf hb hok q1 h7
    go_enter Try.func5, Try.ntmps5
    go_wp2_with (first
      | (go_at_call 9; (with_reducible refine (awake_any _).mono ?_); rintro e w1 ⟨rfl, hb⟩; have HB := Lib.hid (mono_in _ hb); have y := start_cell hb; have HZ := Lib.hid (start_lt hb); clear hb)
      | (go_at_call 10; (with_reducible refine (few_any _ L _ _ (HL.out.grow HB.out)).mono ?_); rintro e wx ⟨rfl, hb⟩; rw [HF.out]; have y := (hb.cell (p := ⟨w.heap.size, 0, none⟩) HZ.out).trans y; have HZ := Lib.hid (Nat.lt_of_lt_of_le HZ.out hb.size); have HB := Lib.hid (HB.out.trans (hb.mono HB.out.size)); clear hb)
      | (go_at_call 14; (with_reducible refine (right_any _ L _ _ (HL.out.grow HB.out)).mono ?_); rintro e wx ⟨rfl, hb⟩; rw [HR.out]; have y := (hb.cell (p := ⟨w.heap.size, 0, none⟩) HZ.out).trans y; have HZ := Lib.hid (Nat.lt_of_lt_of_le HZ.out hb.size); have HB := Lib.hid (HB.out.trans (hb.mono HB.out.size)); clear hb))
    go_ret
    exact ⟨rfl, HB.out⟩
  have g1 : decide (wt < -1099511627776) = false := decide_eq_false q1
  by_cases q2 : 1099511627776 < wt
  · have g2 : decide (1099511627776 < wt) = true := decide_eq_true q2
    clear hf hb hok q1 q2 h7
    go_enter Try.func5, Try.ntmps5
    go_wp2_with (first
      | (go_at_call 9; (with_reducible refine (awake_any _).mono ?_); rintro e w1 ⟨rfl, hb⟩; have HB := Lib.hid (mono_in _ hb); have y := start_cell hb; have HZ := Lib.hid (start_lt hb); clear hb)
      | (go_at_call 10; (with_reducible refine (few_any _ L _ _ (HL.out.grow HB.out)).mono ?_); rintro e wx ⟨rfl, hb⟩; rw [HF.out]; have y := (hb.cell (p := ⟨w.heap.size, 0, none⟩) HZ.out).trans y; have HZ := Lib.hid (Nat.lt_of_lt_of_le HZ.out hb.size); have HB := Lib.hid (HB.out.trans (hb.mono HB.out.size)); clear hb)
      | (go_at_call 14; (with_reducible refine (right_any _ L _ _ (HL.out.grow HB.out)).mono ?_); rintro e wx ⟨rfl, hb⟩; rw [HR.out]; have y := (hb.cell (p := ⟨w.heap.size, 0, none⟩) HZ.out).trans y; have HZ := Lib.hid (Nat.lt_of_lt_of_le HZ.out hb.size); have HB := Lib.hid (HB.out.trans (hb.mono HB.out.size)); clear hb))
    go_ret
    exact ⟨rfl, HB.out⟩
  have g2 : decide (1099511627776 < wt) = false := decide_eq_false q2
  have hr : -1099511627776 ≤ wt ∧ wt ≤ 1099511627776 := by omega
  have H7 := Lib.hid h7
  have hk7 : (sumsP L).length ≤ 700 := Nat.le_trans (sumsP_len L) (h7 hb)
  have HSM : Hid (sumsC L = sumsP L ∧ sumsE L = 0) := Lib.hid (by unfold sumsC sumsE; rw [hb]; exact ⟨rfl, rfl⟩)
  obtain ⟨c1, e1⟩ := near_is hb hok hr
  have hbest := first_best (nearP wt L) (nearP wt L) L
  have hsome := first_some.2 ⟨_, (nearP_spec (w := wt) hok).1, Int.le_refl _, Int.le_refl _⟩
  cases hq : firstP (nearP wt L) (nearP wt L) L with
  | none => rw [hq] at hsome; cases hsome
  | some p =>
    obtain ⟨S1, m⟩ := p
    rw [hq] at hbest c1
    obtain ⟨hi1, hw1, rfl, hbe⟩ := hbest
    have hsx : sumC L S1 = nearP wt L := by
      unfold winB at hw1
      simp only [Bool.and_eq_true, decide_eq_true_eq] at hw1
      omega
    obtain ⟨n, hn⟩ : ∃ n, nearP wt L = n := ⟨_, rfl⟩
    have HC1 := Lib.hid c1
    have HE1 := Lib.hid e1
    have HS1 : Hid (listS (some (S1, numC S1)) = S1) := Lib.hid rfl
    have HWN : Hid (weightN L S1 = n) := Lib.hid (by unfold weightN; rw [if_pos ⟨hb, hi1⟩, hsx, hn])
    have HWE : Hid (weightE L S1 = 0) := Lib.hid (by unfold weightE; rw [if_pos hb, if_pos (isC_len hi1), if_pos hi1])
    have HG : Hid (num_any (sumsP L) (fun x => nearW wt x n) = false) := Lib.hid (near_none hok hl8 hr n hn.symm)
    clear hf hb hok h7 hbe hi1 hw1 hq hsome hsx hn c1 e1 q1 q2 hr
    go_enter Try.func5, Try.ntmps5
    go_wp2_with (first
      | (go_at_call 9; (with_reducible refine (awake_any _).mono ?_); rintro e w1 ⟨rfl, hb⟩; have HB := Lib.hid (mono_in _ hb); have y := start_cell hb; have HZ := Lib.hid (start_lt hb); clear hb)
      | (go_at_call 10; (with_reducible refine (few_any _ L _ _ (HL.out.grow HB.out)).mono ?_); rintro e wx ⟨rfl, hb⟩; rw [HF.out]; have y := (hb.cell (p := ⟨w.heap.size, 0, none⟩) HZ.out).trans y; have HZ := Lib.hid (Nat.lt_of_lt_of_le HZ.out hb.size); have HB := Lib.hid (HB.out.trans (hb.mono HB.out.size)); clear hb)
      | (go_at_call 14; (with_reducible refine (right_any _ L _ _ (HL.out.grow HB.out)).mono ?_); rintro e wx ⟨rfl, hb⟩; rw [HR.out]; have y := (hb.cell (p := ⟨w.heap.size, 0, none⟩) HZ.out).trans y; have HZ := Lib.hid (Nat.lt_of_lt_of_le HZ.out hb.size); have HB := Lib.hid (HB.out.trans (hb.mono HB.out.size)); clear hb)
      | (go_at_call 12; (with_reducible refine (near26_any wt _ L _ _ hcap (HL.out.grow HB.out)).mono ?_); rintro e wx ⟨hx, hb⟩; obtain ⟨v, rfl, hv⟩ := hx.out; rw [HC1.out] at hv; rw [HE1.out]; obtain ⟨ca, cd, rfl, _, _, _, hS⟩ := RowV.nums hv; rw [HS1.out] at hS ⊢; have HA1 := Lib.hid hS; have y := (hb.cell (p := ⟨w.heap.size, 0, none⟩) HZ.out).trans y; have HZ := Lib.hid (Nat.lt_of_lt_of_le HZ.out hb.size); have HB := Lib.hid (HB.out.trans (hb.mono HB.out.size)); clear hx hv hS hb)
      | (go_at_call 18; (with_reducible refine (sums_any _ L _ _ hcap H7.out (HL.out.grow HB.out)).mono ?_); rintro e wx ⟨hx, hb⟩; obtain ⟨v, rfl, hv⟩ := hx.out; rw [HSM.out.1] at hv; rw [HSM.out.2]; obtain ⟨sa, sc, rfl, _, _, _, hS⟩ := num_of_row hv; have HK := Lib.hid hS; have HA1 := Lib.hid (HA1.out.grow hb); have y := (hb.cell (p := ⟨w.heap.size, 0, none⟩) HZ.out).trans y; have HZ := Lib.hid (Nat.lt_of_lt_of_le HZ.out hb.size); have HB := Lib.hid (HB.out.trans (hb.mono HB.out.size)); clear hx hv hS hb)
      | (go_at_call 23; (with_reducible refine (weight_any _ L _ _ S1 _ _ hcap (HL.out.grow HB.out) HA1.out).mono ?_); rintro e wx ⟨rfl, hb⟩; rw [HWN.out, HWE.out]; have y := (hb.cell (p := ⟨w.heap.size, 0, none⟩) HZ.out).trans y; have HZ := Lib.hid (Nat.lt_of_lt_of_le HZ.out hb.size); have HK := Lib.hid (HK.out.grow hb); have HB := Lib.hid (HB.out.trans (hb.mono HB.out.size)); clear hb)
      | (go_at_call 20; (with_reducible refine (num_containsFunc _ (sumsP L) _ _ _ _ (fun x => nearW wt x n) _ ent_near (by omega) (Nat.le_refl _) (HK.out.grow (below_new2 _ _ _)) (asks_near y HZ.out)).mono ?_); rintro e wx ⟨rfl, hb⟩; rw [HG.out]; have HB := Lib.hid (HB.out.trans ((mono_in2 _ _ hb).mono HB.out.size)); clear hb))
    go_ret
    exact ⟨rfl, HB.out⟩
end Go.Proofs.Ytgijekinlkpbkaa
