/-
  THE WALK of the laws' own helpers example and awake (layer 26).
-/
import Derived.Test.YtbniclapaigkkaaGreatRefN
import Derived.Test.YtbniclapaigkkaaGreatWeight
namespace Go.Proofs.YtbniclapaigkkaaGreat
open Go.RowKit Go.Shelf
def exB : List BrickR := [⟨⟨#[97]⟩, 5, 3⟩, ⟨⟨#[98]⟩, 3, 2⟩]
def sB : List Int := [0, 3, 5, 6, 8, 10, 11, 13, 15, 16, 18, 21]
theorem bricks_new (w : World) (n : Nat) (L : List BrickR) (h : n = L.length) (hl : n ≤ 1000) : Bricks (w.alloc (.cells (kflat L).toArray 49)).heap.size (w.alloc (.cells (kflat L).toArray 49)) (some ⟨w.heap.size, 0, none⟩) L := by
  subst h
  obtain ⟨a, cap, e, _, _, _, hc⟩ := brick_of_row (World.ownsRow_lit (base := 0) (e := 49) (size := 3) w (kflat L).toArray L.length (Nat.zero_le _) (by unfold maxLen; omega) (by simp [brick_len]))
  cases e
  exact hc
theorem nums_new (w : World) (n : Nat) (L : List Int) (h : n = L.length) (hl : n ≤ 1000) : Nums (w.alloc (.cells (nflat L).toArray 3)).heap.size (w.alloc (.cells (nflat L).toArray 3)) (some ⟨w.heap.size, 0, none⟩) L := by
  subst h
  obtain ⟨a, cap, e, _, _, _, hc⟩ := num_of_row (World.ownsRow_lit (base := 0) (e := 3) (size := 1) w (nflat L).toArray L.length (Nat.zero_le _) (by unfold maxLen; omega) (by simp [num_len]))
  cases e
  exact hc
set_option maxHeartbeats 1000000 in
theorem example_any (w : World) : Calls Tryz.prog 15 #[] w fun e w' => Hid (∃ a, e = .returned (.slice a 2 2) ∧ Bricks w'.heap.size w' a exB) ∧ Below w.heap.size w w' := by
  go_enter Tryz.func15, Tryz.ntmps15
  go_wp2_with fail
  go_ret
  exact ⟨Lib.hid ⟨_, rfl, bricks_new w 2 exB rfl (by decide)⟩, below_new _ _⟩
theorem ex_brick : brickB exB = true := by decide +kernel
theorem ex_count : countP exB ≤ 700 := by decide +kernel
theorem ex_sums : sumsC exB = sB ∧ sumsE exB = 0 := by decide +kernel
theorem ex_few : winC 11 11 exB = some ([1, 2], 3) ∧ winE 11 11 exB = 0 := by decide +kernel
theorem ex_near : nearC 7 exB = some ([0, 2], 2) ∧ nearE 7 exB = 0 := by decide +kernel
theorem ex_win : winC 14 20 exB = some ([3, 0], 3) ∧ winE 14 20 exB = 0 := by decide +kernel
theorem sums_ex (a : Option Addr) (w : World) (h : Bricks w.heap.size w a exB) :
    Calls Tryz.prog 14 #[.slice a 2 2] w fun e w' => Hid (∃ a c, e = .returned (.tuple #[.slice a 12 c, .int .i64 0]) ∧ Nums w'.heap.size w' a sB) ∧ Below w.heap.size w w' := by
  refine (sums_any a exB 2 w (by decide) (fun _ => ex_count) h).mono fun e w' ⟨h, hb⟩ => ⟨?_, hb⟩
  obtain ⟨v, he, h1⟩ := h.out
  rw [ex_sums.1] at h1
  rw [ex_sums.2] at he
  obtain ⟨a, c, rfl, _, _, _, hL⟩ := num_of_row h1
  exact Lib.hid ⟨a, c, he, hL⟩
theorem rowv_ex {w' : World} {n₀ : Nat} {v : Value} {st : St} {x y m : Int} (hs : st = some ([x, y], m)) (h : RowV n₀ w' v st) : ∃ a c, v = .slice a 2 c ∧ Nums w'.heap.size w' a [x, y] := by
  subst hs
  obtain ⟨a, c, rfl, _, _, _, hN⟩ := RowV.nums h
  exact ⟨a, c, rfl, hN⟩
theorem fewest_ex (a : Option Addr) (w : World) (h : Bricks w.heap.size w a exB) :
    Calls Tryz.prog 16 #[.slice a 2 2, .int .i64 11] w fun e w' => Hid (∃ a c, e = .returned (.tuple #[.slice a 2 c, .int .i64 0]) ∧ Nums w'.heap.size w' a [1, 2]) ∧ Below w.heap.size w w' := by
  refine (fewest_any 11 a exB 2 w (by decide) h).mono fun e w' ⟨h, hb⟩ => ⟨?_, hb⟩
  obtain ⟨v, he, h1⟩ := h.out
  rw [ex_few.2] at he
  obtain ⟨a, c, rfl, hL⟩ := rowv_ex ex_few.1 h1
  exact Lib.hid ⟨a, c, he, hL⟩
theorem near_ex (a : Option Addr) (w : World) (h : Bricks w.heap.size w a exB) :
    Calls Tryz.prog 17 #[.slice a 2 2, .int .i64 7] w fun e w' => Hid (∃ a c, e = .returned (.tuple #[.slice a 2 c, .int .i64 0]) ∧ Nums w'.heap.size w' a [0, 2]) ∧ Below w.heap.size w w' := by
  refine (near26_any 7 a exB 2 w (by decide) h).mono fun e w' ⟨h, hb⟩ => ⟨?_, hb⟩
  obtain ⟨v, he, h1⟩ := h.out
  rw [ex_near.2] at he
  obtain ⟨a, c, rfl, hL⟩ := rowv_ex ex_near.1 h1
  exact Lib.hid ⟨a, c, he, hL⟩
theorem win_ex (a : Option Addr) (w : World) (h : Bricks w.heap.size w a exB) :
    Calls Tryz.prog 18 #[.slice a 2 2, .int .i64 14, .int .i64 20] w fun e w' => Hid (∃ a c, e = .returned (.tuple #[.slice a 2 c, .int .i64 0]) ∧ Nums w'.heap.size w' a [3, 0]) ∧ Below w.heap.size w w' := by
  refine (window_any 14 20 a exB 2 w (by decide) h).mono fun e w' ⟨h, hb⟩ => ⟨?_, hb⟩
  obtain ⟨v, he, h1⟩ := h.out
  rw [ex_win.2] at he
  obtain ⟨a, c, rfl, hL⟩ := rowv_ex ex_win.1 h1
  exact Lib.hid ⟨a, c, he, hL⟩
theorem eq_ex (a1 a2 : Option Addr) (F : List Int) (c1 c2 n : Nat) (w : World) (hn : F.length = n) (hl : n ≤ 1100) (h1 : Nums w.heap.size w a1 F) (h2 : Nums w.heap.size w a2 F) :
    Calls Tryz.prog 9 #[.slice a1 n c1, .slice a2 n c2] w fun e w' => e = .returned (.bool true) ∧ Below w.heap.size w w' := by
  subst hn
  exact (num_equal a1 a2 F F c1 c2 w hl h1 h2 hl).mono fun e w' h => by rw [decide_eq_true rfl] at h; exact h
set_option maxRecDepth 100000 in
set_option maxHeartbeats 8000000 in
theorem awake_any (w : World) : Calls Tryz.prog 4 #[] w fun e w' => e = .returned (.bool true) ∧ Below w.heap.size w w' := by
  have HN : Hid (∀ (w : World) (x y : Int), Nums (w.alloc (.cells #[.int .i64 x, .int .i64 y] 3)).heap.size (w.alloc (.cells #[.int .i64 x, .int .i64 y] 3)) (some ⟨w.heap.size, 0, none⟩) [x, y]) := Lib.hid fun w x y => nums_new w 2 [x, y] rfl (by decide)
  have HS : Hid (∀ w : World, Nums (w.alloc (.cells #[.int .i64 0, .int .i64 3, .int .i64 5, .int .i64 6, .int .i64 8, .int .i64 10, .int .i64 11, .int .i64 13, .int .i64 15, .int .i64 16, .int .i64 18, .int .i64 21] 3)).heap.size (w.alloc (.cells #[.int .i64 0, .int .i64 3, .int .i64 5, .int .i64 6, .int .i64 8, .int .i64 10, .int .i64 11, .int .i64 13, .int .i64 15, .int .i64 16, .int .i64 18, .int .i64 21] 3)) (some ⟨w.heap.size, 0, none⟩) sB) := Lib.hid fun w => nums_new w 12 sB rfl (by decide)
  go_enter Tryz.func4, Tryz.ntmps4
  have HB : Hid (Below w.heap.size w w) := Lib.hid (Below.refl _ _)
  go_upto_region 5 with (first
    | (go_at_call 15; (with_reducible refine (example_any _).mono ?_); rintro e w1 ⟨hx, hb1⟩; obtain ⟨ra, rfl, hR⟩ := hx.out; have HB1 := Lib.hid (HB.out.trans (hb1.mono HB.out.size)); have HR := Lib.hid hR; have HG1 := Lib.hid hb1; clear hx hb1 hR)
    | (go_at_call 14; (with_reducible refine (sums_ex _ _ HR.out).mono ?_); rintro e w2 ⟨hx, hb2⟩; obtain ⟨sa, sc, rfl, hS⟩ := hx.out; have HB := Lib.hid (HB1.out.trans (hb2.mono HB1.out.size)); have HS1 := Lib.hid hS; clear hx hb2 hS HR HG1)
    | (go_at_call 16; (with_reducible refine (fewest_ex _ _ HR.out).mono ?_); rintro e w2 ⟨hx, hb2⟩; obtain ⟨fa, fc, rfl, hS⟩ := hx.out; have HB := Lib.hid (HB1.out.trans (hb2.mono HB1.out.size)); have HF1 := Lib.hid hS; have HS1 := Lib.hid ((HS1.out.grow HG1.out).grow hb2); clear hx hb2 hS HR HG1)
    | (go_at_call 17; (with_reducible refine (near_ex _ _ HR.out).mono ?_); rintro e w2 ⟨hx, hb2⟩; obtain ⟨na, nc, rfl, hS⟩ := hx.out; have HB := Lib.hid (HB1.out.trans (hb2.mono HB1.out.size)); have HN1 := Lib.hid hS; have HS1 := Lib.hid ((HS1.out.grow HG1.out).grow hb2); have HF1 := Lib.hid ((HF1.out.grow HG1.out).grow hb2); clear hx hb2 hS HR HG1)
    | (go_at_call 18; (with_reducible refine (win_ex _ _ HR.out).mono ?_); rintro e w2 ⟨hx, hb2⟩; obtain ⟨wa, wd, rfl, hS⟩ := hx.out; have HB := Lib.hid (HB1.out.trans (hb2.mono HB1.out.size)); have HW1 := Lib.hid hS; have HS1 := Lib.hid ((HS1.out.grow HG1.out).grow hb2); have HF1 := Lib.hid ((HF1.out.grow HG1.out).grow hb2); have HN1 := Lib.hid ((HN1.out.grow HG1.out).grow hb2); clear hx hb2 hS HR HG1))
  go_wp2_with (first
    | (go_at_call 9; (with_reducible refine (eq_ex _ _ sB _ _ 12 _ rfl (by decide) (HS1.out.grow (below_new _ _)) (HS.out _)).mono ?_); rintro e w6 ⟨rfl, hb6⟩; have hm := mono_in _ hb6; have HB := Lib.hid (HB.out.trans (hm.mono HB.out.size)); have HF1 := Lib.hid (HF1.out.grow hm); have HN1 := Lib.hid (HN1.out.grow hm); have HW1 := Lib.hid (HW1.out.grow hm); clear hb6 hm)
    | (go_at_call 9; (with_reducible refine (eq_ex _ _ [1, 2] _ _ 2 _ rfl (by decide) (HF1.out.grow (below_new _ _)) (HN.out _ 1 2)).mono ?_); rintro e w6 ⟨rfl, hb6⟩; have hm := mono_in _ hb6; have HB := Lib.hid (HB.out.trans (hm.mono HB.out.size)); have HN1 := Lib.hid (HN1.out.grow hm); have HW1 := Lib.hid (HW1.out.grow hm); clear hb6 hm)
    | (go_at_call 9; (with_reducible refine (eq_ex _ _ [0, 2] _ _ 2 _ rfl (by decide) (HN1.out.grow (below_new _ _)) (HN.out _ 0 2)).mono ?_); rintro e w6 ⟨rfl, hb6⟩; have hm := mono_in _ hb6; have HB := Lib.hid (HB.out.trans (hm.mono HB.out.size)); have HW1 := Lib.hid (HW1.out.grow hm); clear hb6 hm)
    | (go_at_call 9; (with_reducible refine (eq_ex _ _ [3, 0] _ _ 2 _ rfl (by decide) (HW1.out.grow (below_new _ _)) (HN.out _ 3 0)).mono ?_); rintro e w6 ⟨rfl, hb6⟩; have hm := mono_in _ hb6; have HB := Lib.hid (HB.out.trans (hm.mono HB.out.size)); clear hb6 hm))
  go_ret
  exact ⟨rfl, HB.out⟩
end Go.Proofs.YtbniclapaigkkaaGreat
