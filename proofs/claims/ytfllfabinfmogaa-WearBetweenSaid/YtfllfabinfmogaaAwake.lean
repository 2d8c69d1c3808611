/-
  THE WALK of the laws' own helper awake (layer 46): the chapter's examples hold.
-/
import Derived.Test.YtfllfabinfmogaaEx
import Derived.Test.YtfllfabinfmogaaWear
import Derived.Test.YtfllfabinfmogaaLeft
import Derived.Test.YtfllfabinfmogaaSpotsBad
namespace Go.Proofs.Ytfllfabinfmogaa
open Go.RowKit Go.Shelf
def wM : List Int := [0, 500, 500, 200, 800]
def wS : List (Int × Int) := [(0, 300), (200, 1000)]
def wO : List (Int × Int) := [(0, 1), (200, 2), (300, 1)]
theorem wear46 : wearP (exL 5) wM = (4200, 0) := by decide +kernel
theorem places46 : placesE wM = 0 := by decide +kernel
theorem turns46 : turnsP wM = 2 := by decide +kernel
theorem spotsE46 : spotsE 1000 wS = 0 := by decide +kernel
theorem spots46 : spotsP 1000 wS = wO := by decide +kernel
theorem left46 : leftOK 3 10 := by decide +kernel
theorem nums_new (w : World) (n : Nat) (L : List Int) (h : n = L.length) (hl : n ≤ 1000) : Nums (w.alloc (.cells (nflat L).toArray 3)).heap.size (w.alloc (.cells (nflat L).toArray 3)) (some ⟨w.heap.size, 0, none⟩) L := by
  subst h
  obtain ⟨a, cap, e, _, _, _, hc⟩ := num_of_row (World.ownsRow_lit (base := 0) (e := 3) (size := 1) w (nflat L).toArray L.length (Nat.zero_le _) (by unfold maxLen; omega) (by simp [num_len]))
  cases e
  exact hc
theorem spans_new (w : World) (n : Nat) (L : List (Int × Int)) (h : n = L.length) (hl : n ≤ 1000) : Spans (w.alloc (.cells (sflat L).toArray 54)).heap.size (w.alloc (.cells (sflat L).toArray 54)) (some ⟨w.heap.size, 0, none⟩) L := by
  subst h
  obtain ⟨a, cap, e, _, _, _, hc⟩ := span_of_row (World.ownsRow_lit (base := 0) (e := 54) (size := 2) w (sflat L).toArray L.length (Nat.zero_le _) (by unfold maxLen; omega) (by simp [span_len]))
  cases e
  exact hc
theorem loads_new (w : World) (n : Nat) (L : List (Int × Int)) (h : n = L.length) (hl : n ≤ 1000) : Loads (w.alloc (.cells (oflat L).toArray 48)).heap.size (w.alloc (.cells (oflat L).toArray 48)) (some ⟨w.heap.size, 0, none⟩) L := by
  subst h
  obtain ⟨a, cap, e, _, _, _, hc⟩ := load_of_row (World.ownsRow_lit (base := 0) (e := 48) (size := 2) w (oflat L).toArray L.length (Nat.zero_le _) (by unfold maxLen; omega) (by simp [load_len]))
  cases e
  exact hc
theorem wear_ex (a a2 : Option Addr) (cap : Nat) (w : World) (h : Holds w.heap.size w a (exL 5)) (h2 : Nums w.heap.size w a2 wM) :
    Calls Try.prog 12 #[.agg #[.string ⟨#[114]⟩, .slice a 5 cap, .bool false], .slice a2 5 5] w fun e w' => e = .returned (.tuple #[.int .i64 4200, .int .i64 0]) ∧ Below w.heap.size w w' := by
  have h := wear_any ⟨#[114]⟩ a (exL 5) cap false a2 wM 5 w (by decide) (by decide) h h2
  rw [wear46] at h
  exact h
theorem turns_ex (a2 : Option Addr) (w : World) (h2 : Nums w.heap.size w a2 wM) :
    Calls Try.prog 11 #[.slice a2 5 5] w fun e w' => e = .returned (.tuple #[.int .i64 2, .int .i64 0]) ∧ Below w.heap.size w w' := by
  have h := turns_any a2 wM 5 w (by decide) h2
  rw [places46, turns46, if_pos rfl] at h
  exact h
theorem spots_ex (a2 : Option Addr) (w : World) (h2 : Spans w.heap.size w a2 wS) :
    Calls Try.prog 19 #[.int .i64 1000, .slice a2 2 2] w fun e w' => Hid (∃ a c, e = .returned (.tuple #[.slice a 3 c, .int .i64 0]) ∧ Loads w'.heap.size w' a wO) ∧ Below w.heap.size w w' := by
  refine (spots_any (H := Unit) 1000 a2 wS 2 w (by decide) h2).mono fun e w' ⟨h, hb⟩ => ⟨?_, hb⟩
  obtain ⟨v, he, h1, _⟩ := h.out
  rw [spotsE46, spots46] at h1
  obtain ⟨a, c, rfl, _, _, _, hL⟩ := load_of_row (h1 rfl)
  rw [spotsE46] at he
  exact Lib.hid ⟨a, c, he, hL⟩
theorem left_ex (w : World) :
    Calls Try.prog 13 #[.int .i64 3, .int .i64 10] w fun e w' => e = .returned (.tuple #[.int .i64 7, .int .i64 0]) ∧ Below w.heap.size w w' := by
  have h := left_any 3 10 w
  rw [if_pos left46, if_pos left46] at h
  exact h
theorem eq_ex (a1 a2 : Option Addr) (c1 : Nat) (w : World) (h1 : Loads w.heap.size w a1 wO) (h2 : Loads w.heap.size w a2 wO) :
    Calls Try.prog 24 #[.slice a1 3 c1, .slice a2 3 3] w fun e w' => e = .returned (.bool true) ∧ Below w.heap.size w w' :=
  (load_equal a1 a2 wO wO c1 3 w (by decide) h1 h2 (by decide)).mono fun e w' h => by rw [decide_eq_true rfl] at h; exact h
set_option maxRecDepth 100000 in
set_option maxHeartbeats 8000000 in
theorem awake_any (w : World) : Calls Try.prog 7 #[] w fun e w' => e = .returned (.bool true) ∧ Below w.heap.size w w' := by
  have HM : Hid (∀ w : World, Nums (w.alloc (.cells #[.int .i64 0, .int .i64 500, .int .i64 500, .int .i64 200, .int .i64 800] 3)).heap.size (w.alloc (.cells #[.int .i64 0, .int .i64 500, .int .i64 500, .int .i64 200, .int .i64 800] 3)) (some ⟨w.heap.size, 0, none⟩) wM) := Lib.hid fun w => nums_new w 5 wM rfl (by decide)
  have HS : Hid (∀ w : World, Spans (w.alloc (.cells #[.int .i64 0, .int .i64 300, .int .i64 200, .int .i64 1000] 54)).heap.size (w.alloc (.cells #[.int .i64 0, .int .i64 300, .int .i64 200, .int .i64 1000] 54)) (some ⟨w.heap.size, 0, none⟩) wS) := Lib.hid fun w => spans_new w 2 wS rfl (by decide)
  have HO : Hid (∀ w : World, Loads (w.alloc (.cells #[.int .i64 0, .int .i64 1, .int .i64 200, .int .i64 2, .int .i64 300, .int .i64 1] 48)).heap.size (w.alloc (.cells #[.int .i64 0, .int .i64 1, .int .i64 200, .int .i64 2, .int .i64 300, .int .i64 1] 48)) (some ⟨w.heap.size, 0, none⟩) wO) := Lib.hid fun w => loads_new w 3 wO rfl (by decide)
  go_enter Try.func7, Try.ntmps7
  go_wp2_with (first
    | (go_at_call 27; (with_reducible refine (example_any _).mono ?_); rintro e w1 ⟨hx, hb1⟩; obtain ⟨ra, rc, rfl, hR⟩ := hx.out; have HB1 := Lib.hid hb1; have HR := Lib.hid hR; clear hx hb1 hR)
    | (go_at_call 12; (with_reducible refine (wear_ex _ _ _ _ (HR.out.grow (below_new _ _)) (HM.out _)).mono ?_); rintro e w2 ⟨rfl, hb2⟩; have HB2 := Lib.hid (HB1.out.trans ((mono_in _ hb2).mono HB1.out.size)); clear hb2)
    | (go_at_call 11; (with_reducible refine (turns_ex _ _ (HM.out _)).mono ?_); rintro e w3 ⟨rfl, hb3⟩; have HB3 := Lib.hid (HB2.out.trans ((mono_in _ hb3).mono HB2.out.size)); clear hb3)
    | (go_at_call 19; (with_reducible refine (spots_ex _ _ (HS.out _)).mono ?_); rintro e w4 ⟨hx, hb4⟩; obtain ⟨sa, sc, rfl, hS⟩ := hx.out; have HS4 := Lib.hid hS; have HB4 := Lib.hid (HB3.out.trans ((mono_in _ hb4).mono HB3.out.size)); clear hx hS hb4)
    | (go_at_call 13; (with_reducible refine (left_ex _).mono ?_); rintro e w5 ⟨rfl, hb5⟩; have HS5 := Lib.hid (HS4.out.grow hb5); have HB5 := Lib.hid (HB4.out.trans (hb5.mono HB4.out.size)); clear hb5)
    | (go_at_call 24; (with_reducible refine (eq_ex _ _ _ _ (HS5.out.grow (below_new _ _)) (HO.out _)).mono ?_); rintro e w6 ⟨rfl, hb6⟩; have HB6 := Lib.hid (HB5.out.trans ((mono_in _ hb6).mono HB5.out.size)); clear hb6))
  go_ret
  exact ⟨rfl, HB6.out⟩
end Go.Proofs.Ytfllfabinfmogaa
