/-
  THE WALK of the law WearWays.
-/
import Derived.Test.YtfllfabinfmogaaLawSpots
import Derived.Test.YtfllfabinfmogaaRefR
import Derived.Test.YtfllfabinfmogaaRefU
namespace Go.Proofs.Ytfllfabinfmogaa
open Go.RowKit Go.Shelf
set_option maxRecDepth 100000 in
set_option maxHeartbeats 16000000 in
theorem ways_far (nm : ByteArray) (a : Option Addr) (L : List HoldR) (cap : Nat) (hd : Bool) (a2 : Option Addr) (M : List Int) (cap2 : Nat) (worn most : Int) (w : World) (hR : Holds w.heap.size w a L) (hN : Nums w.heap.size w a2 M) (hl : 13 < L.length)
    :
    Calls Try.prog 3 #[.agg #[.string nm, .slice a L.length cap, .bool hd], .slice a2 M.length cap2, .int .i64 worn, .int .i64 most] w fun e w' => e = .returned (.bool true) ∧ Below w.heap.size w w' := by
  have HR := Lib.hid hR
  have HN := Lib.hid hN
  clear hR hN
  have g : decide ((13 : Int) < L.length) = true := decide_eq_true (by omega)
  clear hl
  go_enter Try.func3, Try.ntmps3
  go_upto_region 1 with (fail)
  have hW0 := below_new w (.cells #[.string nm, .slice a L.length cap, .bool hd] 24)
  have x0 : (w.alloc (.cells #[.string nm, .slice a L.length cap, .bool hd] 24)).cell? ⟨w.heap.size, 0, none⟩ = some (.string nm) := by simp
  have x1 : (w.alloc (.cells #[.string nm, .slice a L.length cap, .bool hd] 24)).cell? ⟨w.heap.size, 1, none⟩ = some (.slice a L.length cap) := by simp
  have x2 : (w.alloc (.cells #[.string nm, .slice a L.length cap, .bool hd] 24)).cell? ⟨w.heap.size, 2, none⟩ = some (.bool hd) := by simp
  have hz : w.heap.size < (w.alloc (.cells #[.string nm, .slice a L.length cap, .bool hd] 24)).heap.size := by simp
  obtain ⟨Br, hBr⟩ : ∃ b, w.heap.size = b := ⟨_, rfl⟩
  have HBr := Lib.hid hBr
  rw [hBr] at x0 x1 x2 hz
  simp only [hBr]
  generalize w.alloc (.cells #[.string nm, .slice a L.length cap, .bool hd] 24) = W0 at *
  clear hBr
  go_wp2_with (first
    | (go_at_call 7; (with_reducible refine (awake_any _).mono ?_); rintro e w1 ⟨rfl, hb1⟩; have hB1 := hW0.trans (hb1.mono hW0.size); have c1 := (hb1.cell (p := ⟨Br, 0, none⟩) hz).trans x0; have d1 := (hb1.cell (p := ⟨Br, 1, none⟩) hz).trans x1; have f1 := (hb1.cell (p := ⟨Br, 2, none⟩) hz).trans x2; have HR1 := Lib.hid (HR.out.grow hB1); have HN1 := Lib.hid (HN.out.grow hB1); have hz1 : Br < w1.heap.size := Nat.lt_of_lt_of_le hz hb1.size)
    | (go_at_call 8; (with_reducible refine (many_any _ _).mono ?_); rintro e w' ⟨rfl, rfl⟩; rw [HM.out])
    | (go_at_call 9; (with_reducible refine (bends_any nm a L cap hd _ hL HR1.out).mono ?_); rintro e w2 ⟨rfl, hb2⟩; rw [HB1.out, HB2.out]; have hB2 := hB1.trans (hb2.mono hB1.size); have c2 := (hb2.cell (p := ⟨Br, 0, none⟩) hz1).trans c1; have d2 := (hb2.cell (p := ⟨Br, 1, none⟩) hz1).trans d1; have f2 := (hb2.cell (p := ⟨Br, 2, none⟩) hz1).trans f1; have HR2 := Lib.hid (HR1.out.grow hb2); have HN2 := Lib.hid (HN1.out.grow hb2); have hz2 : Br < w2.heap.size := Nat.lt_of_lt_of_le hz1 hb2.size; clear c1 d1 f1)
    | (go_at_call 10; (with_reducible refine (travel_any a2 M cap2 _ hM HN2.out).mono ?_); rintro e w3 ⟨rfl, hb3⟩; rw [HE.out, HT.out]; have hB3 := hB2.trans (hb3.mono hB2.size); have c3 := (hb3.cell (p := ⟨Br, 0, none⟩) hz2).trans c2; have d3 := (hb3.cell (p := ⟨Br, 1, none⟩) hz2).trans d2; have f3 := (hb3.cell (p := ⟨Br, 2, none⟩) hz2).trans f2; have HR3 := Lib.hid (HR2.out.grow hb3); have HN3 := Lib.hid (HN2.out.grow hb3); have hz3 : Br < w3.heap.size := Nat.lt_of_lt_of_le hz2 hb3.size; clear c2 d2 f2)
    | (go_at_call 11; (with_reducible refine (turns_any a2 M cap2 _ hM HN3.out).mono ?_); rintro e w4 ⟨rfl, hb4⟩; rw [HE.out, HU.out]; have hB4 := hB3.trans (hb4.mono hB3.size); have c4 := (hb4.cell (p := ⟨Br, 0, none⟩) hz3).trans c3; have d4 := (hb4.cell (p := ⟨Br, 1, none⟩) hz3).trans d3; have f4 := (hb4.cell (p := ⟨Br, 2, none⟩) hz3).trans f3; have HR4 := Lib.hid (HR3.out.grow hb4); have HN4 := Lib.hid (HN3.out.grow hb4); have hz4 : Br < w4.heap.size := Nat.lt_of_lt_of_le hz3 hb4.size; clear c3 d3 f3)
    | (go_at_call 12; (with_reducible refine (wear_any nm a L cap hd a2 M cap2 _ hL hM HR4.out HN4.out).mono ?_); rintro e w5 ⟨rfl, hb5⟩; rw [HP.out]; have hB5 := hB4.trans (hb5.mono hB4.size); have c5 := (hb5.cell (p := ⟨Br, 0, none⟩) hz4).trans c4; have d5 := (hb5.cell (p := ⟨Br, 1, none⟩) hz4).trans d4; have f5 := (hb5.cell (p := ⟨Br, 2, none⟩) hz4).trans f4; have HR5 := Lib.hid (HR4.out.grow hb5); have HN5 := Lib.hid (HN4.out.grow hb5); have hz5 : Br < w5.heap.size := Nat.lt_of_lt_of_le hz4 hb5.size; clear c4 d4 f4)
    | (go_at_call 13; (with_reducible refine (left_any worn most _).mono ?_); rintro e w6 ⟨rfl, hb6⟩; rw [HLA.out, HLB.out]; have hB6 := hB5.trans (hb6.mono hB5.size); have c6 := (hb6.cell (p := ⟨Br, 0, none⟩) hz5).trans c5; have d6 := (hb6.cell (p := ⟨Br, 1, none⟩) hz5).trans d5; have f6 := (hb6.cell (p := ⟨Br, 2, none⟩) hz5).trans f5; have HR6 := Lib.hid (HR5.out.grow hb6); have HN6 := Lib.hid (HN5.out.grow hb6); have hz6 : Br < w6.heap.size := Nat.lt_of_lt_of_le hz5 hb6.size; clear c5 d5 f5)
    | (go_at_call 14; (with_reducible refine (refbends_any nm a L cap hd _ hL HR6.out).mono ?_); rintro e w7 ⟨rfl, hb7⟩; rw [HB1.out, HB2.out]; have hB7 := hB6.trans (hb7.mono hB6.size); have c7 := (hb7.cell (p := ⟨Br, 0, none⟩) hz6).trans c6; have d7 := (hb7.cell (p := ⟨Br, 1, none⟩) hz6).trans d6; have f7 := (hb7.cell (p := ⟨Br, 2, none⟩) hz6).trans f6; have HR7 := Lib.hid (HR6.out.grow hb7); have HN7 := Lib.hid (HN6.out.grow hb7); clear c6 d6 f6)
    | (go_at_call 15; (with_reducible refine (refwear_any nm a L cap hd a2 M cap2 _ hL hM HR7.out HN7.out).mono ?_); rintro e w8 ⟨rfl, hb8⟩; rw [HP.out]; have hB8 := hB7.trans (hb8.mono hB7.size); have HN8 := Lib.hid (HN7.out.grow hb8))
    | (go_at_call 16; (with_reducible refine (refplaces_any a2 M cap2 _ _ hM HN8.out).mono ?_); rintro e w9 ⟨rfl, rfl⟩; rw [HE.out])
    | (go_at_call 17; (with_reducible refine (reftravel_any a2 M cap2 _ _ HE.out HN8.out).mono ?_); rintro e w10 ⟨rfl, hb10⟩; rw [HTP.out]; have hB10 := hB8.trans (hb10.mono hB8.size); have HN10 := Lib.hid (HN8.out.grow hb10))
    | (go_at_call 18; (with_reducible refine (refturns_any a2 M cap2 _ _ HE.out HN10.out).mono ?_); rintro e w11 ⟨rfl, hb11⟩; rw [HUP.out]; have hB11 := hB10.trans (hb11.mono hB10.size)))
  go_ret
  exact ⟨rfl, by first | exact hB1 | (rw [← HBr.out]; exact hB1) | (have hq := hB1; rw [← HBr.out] at hq; exact hq)⟩
set_option maxRecDepth 100000 in
set_option maxHeartbeats 16000000 in
theorem ways_many (nm : ByteArray) (a : Option Addr) (L : List HoldR) (cap : Nat) (hd : Bool) (a2 : Option Addr) (M : List Int) (cap2 : Nat) (worn most : Int) (w : World) (hR : Holds w.heap.size w a L) (hN : Nums w.heap.size w a2 M) (hl : L.length ≤ 13) (hm : manyB M.length = true)
    :
    Calls Try.prog 3 #[.agg #[.string nm, .slice a L.length cap, .bool hd], .slice a2 M.length cap2, .int .i64 worn, .int .i64 most] w fun e w' => e = .returned (.bool true) ∧ Below w.heap.size w w' := by
  have HR := Lib.hid hR
  have HN := Lib.hid hN
  clear hR hN
  have g : decide ((13 : Int) < L.length) = false := decide_eq_false (by omega)
  have HM := Lib.hid hm
  clear hm
  go_enter Try.func3, Try.ntmps3
  go_upto_region 1 with (fail)
  have hW0 := below_new w (.cells #[.string nm, .slice a L.length cap, .bool hd] 24)
  have x0 : (w.alloc (.cells #[.string nm, .slice a L.length cap, .bool hd] 24)).cell? ⟨w.heap.size, 0, none⟩ = some (.string nm) := by simp
  have x1 : (w.alloc (.cells #[.string nm, .slice a L.length cap, .bool hd] 24)).cell? ⟨w.heap.size, 1, none⟩ = some (.slice a L.length cap) := by simp
  have x2 : (w.alloc (.cells #[.string nm, .slice a L.length cap, .bool hd] 24)).cell? ⟨w.heap.size, 2, none⟩ = some (.bool hd) := by simp
  have hz : w.heap.size < (w.alloc (.cells #[.string nm, .slice a L.length cap, .bool hd] 24)).heap.size := by simp
  obtain ⟨Br, hBr⟩ : ∃ b, w.heap.size = b := ⟨_, rfl⟩
  have HBr := Lib.hid hBr
  rw [hBr] at x0 x1 x2 hz
  simp only [hBr]
  generalize w.alloc (.cells #[.string nm, .slice a L.length cap, .bool hd] 24) = W0 at *
  clear hBr
  go_wp2_with (first
    | (go_at_call 7; (with_reducible refine (awake_any _).mono ?_); rintro e w1 ⟨rfl, hb1⟩; have hB1 := hW0.trans (hb1.mono hW0.size); have c1 := (hb1.cell (p := ⟨Br, 0, none⟩) hz).trans x0; have d1 := (hb1.cell (p := ⟨Br, 1, none⟩) hz).trans x1; have f1 := (hb1.cell (p := ⟨Br, 2, none⟩) hz).trans x2; have HR1 := Lib.hid (HR.out.grow hB1); have HN1 := Lib.hid (HN.out.grow hB1); have hz1 : Br < w1.heap.size := Nat.lt_of_lt_of_le hz hb1.size)
    | (go_at_call 8; (with_reducible refine (many_any _ _).mono ?_); rintro e w' ⟨rfl, rfl⟩; rw [HM.out])
    | (go_at_call 9; (with_reducible refine (bends_any nm a L cap hd _ hL HR1.out).mono ?_); rintro e w2 ⟨rfl, hb2⟩; rw [HB1.out, HB2.out]; have hB2 := hB1.trans (hb2.mono hB1.size); have c2 := (hb2.cell (p := ⟨Br, 0, none⟩) hz1).trans c1; have d2 := (hb2.cell (p := ⟨Br, 1, none⟩) hz1).trans d1; have f2 := (hb2.cell (p := ⟨Br, 2, none⟩) hz1).trans f1; have HR2 := Lib.hid (HR1.out.grow hb2); have HN2 := Lib.hid (HN1.out.grow hb2); have hz2 : Br < w2.heap.size := Nat.lt_of_lt_of_le hz1 hb2.size; clear c1 d1 f1)
    | (go_at_call 10; (with_reducible refine (travel_any a2 M cap2 _ hM HN2.out).mono ?_); rintro e w3 ⟨rfl, hb3⟩; rw [HE.out, HT.out]; have hB3 := hB2.trans (hb3.mono hB2.size); have c3 := (hb3.cell (p := ⟨Br, 0, none⟩) hz2).trans c2; have d3 := (hb3.cell (p := ⟨Br, 1, none⟩) hz2).trans d2; have f3 := (hb3.cell (p := ⟨Br, 2, none⟩) hz2).trans f2; have HR3 := Lib.hid (HR2.out.grow hb3); have HN3 := Lib.hid (HN2.out.grow hb3); have hz3 : Br < w3.heap.size := Nat.lt_of_lt_of_le hz2 hb3.size; clear c2 d2 f2)
    | (go_at_call 11; (with_reducible refine (turns_any a2 M cap2 _ hM HN3.out).mono ?_); rintro e w4 ⟨rfl, hb4⟩; rw [HE.out, HU.out]; have hB4 := hB3.trans (hb4.mono hB3.size); have c4 := (hb4.cell (p := ⟨Br, 0, none⟩) hz3).trans c3; have d4 := (hb4.cell (p := ⟨Br, 1, none⟩) hz3).trans d3; have f4 := (hb4.cell (p := ⟨Br, 2, none⟩) hz3).trans f3; have HR4 := Lib.hid (HR3.out.grow hb4); have HN4 := Lib.hid (HN3.out.grow hb4); have hz4 : Br < w4.heap.size := Nat.lt_of_lt_of_le hz3 hb4.size; clear c3 d3 f3)
    | (go_at_call 12; (with_reducible refine (wear_any nm a L cap hd a2 M cap2 _ hL hM HR4.out HN4.out).mono ?_); rintro e w5 ⟨rfl, hb5⟩; rw [HP.out]; have hB5 := hB4.trans (hb5.mono hB4.size); have c5 := (hb5.cell (p := ⟨Br, 0, none⟩) hz4).trans c4; have d5 := (hb5.cell (p := ⟨Br, 1, none⟩) hz4).trans d4; have f5 := (hb5.cell (p := ⟨Br, 2, none⟩) hz4).trans f4; have HR5 := Lib.hid (HR4.out.grow hb5); have HN5 := Lib.hid (HN4.out.grow hb5); have hz5 : Br < w5.heap.size := Nat.lt_of_lt_of_le hz4 hb5.size; clear c4 d4 f4)
    | (go_at_call 13; (with_reducible refine (left_any worn most _).mono ?_); rintro e w6 ⟨rfl, hb6⟩; rw [HLA.out, HLB.out]; have hB6 := hB5.trans (hb6.mono hB5.size); have c6 := (hb6.cell (p := ⟨Br, 0, none⟩) hz5).trans c5; have d6 := (hb6.cell (p := ⟨Br, 1, none⟩) hz5).trans d5; have f6 := (hb6.cell (p := ⟨Br, 2, none⟩) hz5).trans f5; have HR6 := Lib.hid (HR5.out.grow hb6); have HN6 := Lib.hid (HN5.out.grow hb6); have hz6 : Br < w6.heap.size := Nat.lt_of_lt_of_le hz5 hb6.size; clear c5 d5 f5)
    | (go_at_call 14; (with_reducible refine (refbends_any nm a L cap hd _ hL HR6.out).mono ?_); rintro e w7 ⟨rfl, hb7⟩; rw [HB1.out, HB2.out]; have hB7 := hB6.trans (hb7.mono hB6.size); have c7 := (hb7.cell (p := ⟨Br, 0, none⟩) hz6).trans c6; have d7 := (hb7.cell (p := ⟨Br, 1, none⟩) hz6).trans d6; have f7 := (hb7.cell (p := ⟨Br, 2, none⟩) hz6).trans f6; have HR7 := Lib.hid (HR6.out.grow hb7); have HN7 := Lib.hid (HN6.out.grow hb7); clear c6 d6 f6)
    | (go_at_call 15; (with_reducible refine (refwear_any nm a L cap hd a2 M cap2 _ hL hM HR7.out HN7.out).mono ?_); rintro e w8 ⟨rfl, hb8⟩; rw [HP.out]; have hB8 := hB7.trans (hb8.mono hB7.size); have HN8 := Lib.hid (HN7.out.grow hb8))
    | (go_at_call 16; (with_reducible refine (refplaces_any a2 M cap2 _ _ hM HN8.out).mono ?_); rintro e w9 ⟨rfl, rfl⟩; rw [HE.out])
    | (go_at_call 17; (with_reducible refine (reftravel_any a2 M cap2 _ _ HE.out HN8.out).mono ?_); rintro e w10 ⟨rfl, hb10⟩; rw [HTP.out]; have hB10 := hB8.trans (hb10.mono hB8.size); have HN10 := Lib.hid (HN8.out.grow hb10))
    | (go_at_call 18; (with_reducible refine (refturns_any a2 M cap2 _ _ HE.out HN10.out).mono ?_); rintro e w11 ⟨rfl, hb11⟩; rw [HUP.out]; have hB11 := hB10.trans (hb11.mono hB10.size)))
  go_ret
  exact ⟨rfl, by first | exact hB1 | (rw [← HBr.out]; exact hB1) | (have hq := hB1; rw [← HBr.out] at hq; exact hq)⟩
def leftN2 (x y : Int) : Int := if leftOK x y then max 0 (y - x) else 0
def leftE2 (x y : Int) : Int := if leftOK x y then 0 else 2
set_option maxRecDepth 100000 in
set_option maxHeartbeats 16000000 in
theorem ways_bad (nm : ByteArray) (a : Option Addr) (L : List HoldR) (cap : Nat) (hd : Bool) (a2 : Option Addr) (M : List Int) (cap2 : Nat) (worn most : Int) (w : World) (hR : Holds w.heap.size w a L) (hN : Nums w.heap.size w a2 M) (hl : L.length ≤ 13) (hm : manyB M.length = false) (he : ¬ placesE M = 0)
    :
    Calls Try.prog 3 #[.agg #[.string nm, .slice a L.length cap, .bool hd], .slice a2 M.length cap2, .int .i64 worn, .int .i64 most] w fun e w' => e = .returned (.bool true) ∧ Below w.heap.size w w' := by
  have HR := Lib.hid hR
  have HN := Lib.hid hN
  clear hR hN
  have g : decide ((13 : Int) < L.length) = false := decide_eq_false (by omega)
  have hL : L.length ≤ 1000000 := by omega
  have hM : M.length ≤ 1000000 := by have := many_len hm; omega
  have HM := Lib.hid hm
  clear hm
  obtain ⟨b1, hb1⟩ : ∃ b : Int, (if ropeB L then (L.length : Int) - 2 else 0) = b := ⟨_, rfl⟩
  obtain ⟨b2, hb2⟩ : ∃ b : Int, (if ropeB L then 0 else 1) = b := ⟨_, rfl⟩
  obtain ⟨p, hp⟩ : ∃ p, wearP L M = p := ⟨_, rfl⟩
  obtain ⟨tp, htp⟩ : ∃ p, travelP M = p := ⟨_, rfl⟩
  obtain ⟨up, hup⟩ : ∃ p, turnsP M = p := ⟨_, rfl⟩
  have HB1 := Lib.hid hb1
  have HB2 := Lib.hid hb2
  have HP := Lib.hid hp
  have HTP := Lib.hid htp
  have HUP := Lib.hid hup
  clear hb1 hb2 hp htp hup
  have z1 : (b1 != b1) = false := bne_self_eq_false _
  have z2 : (b2 != b2) = false := bne_self_eq_false _
  have z3 : (p.1 != p.1) = false := bne_self_eq_false _
  have z4 : (p.2 != p.2) = false := bne_self_eq_false _
  obtain ⟨n, hn⟩ : ∃ n, (if leftOK worn most then max 0 (most - worn) else 0) = n := ⟨_, rfl⟩
  obtain ⟨ne, hne⟩ : ∃ n : Int, (if leftOK worn most then 0 else 2) = n := ⟨_, rfl⟩
  have HLA := Lib.hid hn
  have HLB := Lib.hid hne
  have hc : (decide (worn < 0) = true ∧ n = 0 ∧ ne = 2) ∨ (decide (worn < 0) = false ∧ decide (1152921504606846976 < worn) = true ∧ n = 0 ∧ ne = 2) ∨ (decide (worn < 0) = false ∧ decide (1152921504606846976 < worn) = false ∧ decide (most < 0) = true ∧ n = 0 ∧ ne = 2) ∨ (decide (worn < 0) = false ∧ decide (1152921504606846976 < worn) = false ∧ decide (most < 0) = false ∧ decide (1152921504606846976 < most) = true ∧ n = 0 ∧ ne = 2) ∨ (decide (worn < 0) = false ∧ decide (1152921504606846976 < worn) = false ∧ decide (most < 0) = false ∧ decide (1152921504606846976 < most) = false ∧ n = max 0 (most - worn) ∧ ne = 0 ∧ IntKind.i64.wrap (most - worn) = most - worn) := by
    simp only [decide_eq_true_eq, decide_eq_false_iff_not]
    by_cases q : leftOK worn most
    · rw [if_pos q] at hn hne
      obtain ⟨q1, q2, q3, q4⟩ := q
      refine Or.inr (Or.inr (Or.inr (Or.inr ⟨by omega, by omega, by omega, by omega, hn.symm, hne.symm, IntWalk.i64_in _ (by omega)⟩)))
    · rw [if_neg q] at hn hne
      unfold leftOK at q
      omega
  clear hn hne
  obtain ⟨E, hE⟩ : ∃ E, placesE M = E := ⟨_, rfl⟩
  have HE := Lib.hid hE
  rw [hE] at he
  have HT : Hid ((if E = 0 then travelP M else 0) = 0) := Lib.hid (if_neg he)
  have HU : Hid ((if E = 0 then turnsP M else 0) = 0) := Lib.hid (if_neg he)
  have z5 : (E != 0) = true := by simpa using he
  have z6 : (E != E) = false := bne_self_eq_false _
  clear he hE
  rcases hc with ⟨g1, rfl, rfl⟩ | ⟨g1, g2, rfl, rfl⟩ | ⟨g1, g2, g3, rfl, rfl⟩ | ⟨g1, g2, g3, g4, rfl, rfl⟩ | ⟨g1, g2, g3, g4, hn, rfl, g5⟩
  · go_enter Try.func3, Try.ntmps3
    go_upto_region 1 with (fail)
    have hW0 := below_new w (.cells #[.string nm, .slice a L.length cap, .bool hd] 24)
    have x0 : (w.alloc (.cells #[.string nm, .slice a L.length cap, .bool hd] 24)).cell? ⟨w.heap.size, 0, none⟩ = some (.string nm) := by simp
    have x1 : (w.alloc (.cells #[.string nm, .slice a L.length cap, .bool hd] 24)).cell? ⟨w.heap.size, 1, none⟩ = some (.slice a L.length cap) := by simp
    have x2 : (w.alloc (.cells #[.string nm, .slice a L.length cap, .bool hd] 24)).cell? ⟨w.heap.size, 2, none⟩ = some (.bool hd) := by simp
    have hz : w.heap.size < (w.alloc (.cells #[.string nm, .slice a L.length cap, .bool hd] 24)).heap.size := by simp
    obtain ⟨Br, hBr⟩ : ∃ b, w.heap.size = b := ⟨_, rfl⟩
    have HBr := Lib.hid hBr
    rw [hBr] at x0 x1 x2 hz
    simp only [hBr]
    generalize w.alloc (.cells #[.string nm, .slice a L.length cap, .bool hd] 24) = W0 at *
    clear hBr
    go_wp2_with (first
      | (go_at_call 7; (with_reducible refine (awake_any _).mono ?_); rintro e w1 ⟨rfl, hb1⟩; have hB1 := hW0.trans (hb1.mono hW0.size); have c1 := (hb1.cell (p := ⟨Br, 0, none⟩) hz).trans x0; have d1 := (hb1.cell (p := ⟨Br, 1, none⟩) hz).trans x1; have f1 := (hb1.cell (p := ⟨Br, 2, none⟩) hz).trans x2; have HR1 := Lib.hid (HR.out.grow hB1); have HN1 := Lib.hid (HN.out.grow hB1); have hz1 : Br < w1.heap.size := Nat.lt_of_lt_of_le hz hb1.size)
      | (go_at_call 8; (with_reducible refine (many_any _ _).mono ?_); rintro e w' ⟨rfl, rfl⟩; rw [HM.out])
      | (go_at_call 9; (with_reducible refine (bends_any nm a L cap hd _ hL HR1.out).mono ?_); rintro e w2 ⟨rfl, hb2⟩; rw [HB1.out, HB2.out]; have hB2 := hB1.trans (hb2.mono hB1.size); have c2 := (hb2.cell (p := ⟨Br, 0, none⟩) hz1).trans c1; have d2 := (hb2.cell (p := ⟨Br, 1, none⟩) hz1).trans d1; have f2 := (hb2.cell (p := ⟨Br, 2, none⟩) hz1).trans f1; have HR2 := Lib.hid (HR1.out.grow hb2); have HN2 := Lib.hid (HN1.out.grow hb2); have hz2 : Br < w2.heap.size := Nat.lt_of_lt_of_le hz1 hb2.size; clear c1 d1 f1)
      | (go_at_call 10; (with_reducible refine (travel_any a2 M cap2 _ hM HN2.out).mono ?_); rintro e w3 ⟨rfl, hb3⟩; rw [HE.out, HT.out]; have hB3 := hB2.trans (hb3.mono hB2.size); have c3 := (hb3.cell (p := ⟨Br, 0, none⟩) hz2).trans c2; have d3 := (hb3.cell (p := ⟨Br, 1, none⟩) hz2).trans d2; have f3 := (hb3.cell (p := ⟨Br, 2, none⟩) hz2).trans f2; have HR3 := Lib.hid (HR2.out.grow hb3); have HN3 := Lib.hid (HN2.out.grow hb3); have hz3 : Br < w3.heap.size := Nat.lt_of_lt_of_le hz2 hb3.size; clear c2 d2 f2)
      | (go_at_call 11; (with_reducible refine (turns_any a2 M cap2 _ hM HN3.out).mono ?_); rintro e w4 ⟨rfl, hb4⟩; rw [HE.out, HU.out]; have hB4 := hB3.trans (hb4.mono hB3.size); have c4 := (hb4.cell (p := ⟨Br, 0, none⟩) hz3).trans c3; have d4 := (hb4.cell (p := ⟨Br, 1, none⟩) hz3).trans d3; have f4 := (hb4.cell (p := ⟨Br, 2, none⟩) hz3).trans f3; have HR4 := Lib.hid (HR3.out.grow hb4); have HN4 := Lib.hid (HN3.out.grow hb4); have hz4 : Br < w4.heap.size := Nat.lt_of_lt_of_le hz3 hb4.size; clear c3 d3 f3)
      | (go_at_call 12; (with_reducible refine (wear_any nm a L cap hd a2 M cap2 _ hL hM HR4.out HN4.out).mono ?_); rintro e w5 ⟨rfl, hb5⟩; rw [HP.out]; have hB5 := hB4.trans (hb5.mono hB4.size); have c5 := (hb5.cell (p := ⟨Br, 0, none⟩) hz4).trans c4; have d5 := (hb5.cell (p := ⟨Br, 1, none⟩) hz4).trans d4; have f5 := (hb5.cell (p := ⟨Br, 2, none⟩) hz4).trans f4; have HR5 := Lib.hid (HR4.out.grow hb5); have HN5 := Lib.hid (HN4.out.grow hb5); have hz5 : Br < w5.heap.size := Nat.lt_of_lt_of_le hz4 hb5.size; clear c4 d4 f4)
      | (go_at_call 13; (with_reducible refine (left_any worn most _).mono ?_); rintro e w6 ⟨rfl, hb6⟩; rw [HLA.out, HLB.out]; have hB6 := hB5.trans (hb6.mono hB5.size); have c6 := (hb6.cell (p := ⟨Br, 0, none⟩) hz5).trans c5; have d6 := (hb6.cell (p := ⟨Br, 1, none⟩) hz5).trans d5; have f6 := (hb6.cell (p := ⟨Br, 2, none⟩) hz5).trans f5; have HR6 := Lib.hid (HR5.out.grow hb6); have HN6 := Lib.hid (HN5.out.grow hb6); have hz6 : Br < w6.heap.size := Nat.lt_of_lt_of_le hz5 hb6.size; clear c5 d5 f5)
      | (go_at_call 14; (with_reducible refine (refbends_any nm a L cap hd _ hL HR6.out).mono ?_); rintro e w7 ⟨rfl, hb7⟩; rw [HB1.out, HB2.out]; have hB7 := hB6.trans (hb7.mono hB6.size); have c7 := (hb7.cell (p := ⟨Br, 0, none⟩) hz6).trans c6; have d7 := (hb7.cell (p := ⟨Br, 1, none⟩) hz6).trans d6; have f7 := (hb7.cell (p := ⟨Br, 2, none⟩) hz6).trans f6; have HR7 := Lib.hid (HR6.out.grow hb7); have HN7 := Lib.hid (HN6.out.grow hb7); clear c6 d6 f6)
      | (go_at_call 15; (with_reducible refine (refwear_any nm a L cap hd a2 M cap2 _ hL hM HR7.out HN7.out).mono ?_); rintro e w8 ⟨rfl, hb8⟩; rw [HP.out]; have hB8 := hB7.trans (hb8.mono hB7.size); have HN8 := Lib.hid (HN7.out.grow hb8))
      | (go_at_call 16; (with_reducible refine (refplaces_any a2 M cap2 _ _ hM HN8.out).mono ?_); rintro e w9 ⟨rfl, rfl⟩; rw [HE.out])
      | (go_at_call 17; (with_reducible refine (reftravel_any a2 M cap2 _ _ HE.out HN8.out).mono ?_); rintro e w10 ⟨rfl, hb10⟩; rw [HTP.out]; have hB10 := hB8.trans (hb10.mono hB8.size); have HN10 := Lib.hid (HN8.out.grow hb10))
      | (go_at_call 18; (with_reducible refine (refturns_any a2 M cap2 _ _ HE.out HN10.out).mono ?_); rintro e w11 ⟨rfl, hb11⟩; rw [HUP.out]; have hB11 := hB10.trans (hb11.mono hB10.size)))
    go_ret
    exact ⟨rfl, by first | exact hB8 | (rw [← HBr.out]; exact hB8) | (have hq := hB8; rw [← HBr.out] at hq; exact hq)⟩
  · go_enter Try.func3, Try.ntmps3
    go_upto_region 1 with (fail)
    have hW0 := below_new w (.cells #[.string nm, .slice a L.length cap, .bool hd] 24)
    have x0 : (w.alloc (.cells #[.string nm, .slice a L.length cap, .bool hd] 24)).cell? ⟨w.heap.size, 0, none⟩ = some (.string nm) := by simp
    have x1 : (w.alloc (.cells #[.string nm, .slice a L.length cap, .bool hd] 24)).cell? ⟨w.heap.size, 1, none⟩ = some (.slice a L.length cap) := by simp
    have x2 : (w.alloc (.cells #[.string nm, .slice a L.length cap, .bool hd] 24)).cell? ⟨w.heap.size, 2, none⟩ = some (.bool hd) := by simp
    have hz : w.heap.size < (w.alloc (.cells #[.string nm, .slice a L.length cap, .bool hd] 24)).heap.size := by simp
    obtain ⟨Br, hBr⟩ : ∃ b, w.heap.size = b := ⟨_, rfl⟩
    have HBr := Lib.hid hBr
    rw [hBr] at x0 x1 x2 hz
    simp only [hBr]
    generalize w.alloc (.cells #[.string nm, .slice a L.length cap, .bool hd] 24) = W0 at *
    clear hBr
    go_wp2_with (first
      | (go_at_call 7; (with_reducible refine (awake_any _).mono ?_); rintro e w1 ⟨rfl, hb1⟩; have hB1 := hW0.trans (hb1.mono hW0.size); have c1 := (hb1.cell (p := ⟨Br, 0, none⟩) hz).trans x0; have d1 := (hb1.cell (p := ⟨Br, 1, none⟩) hz).trans x1; have f1 := (hb1.cell (p := ⟨Br, 2, none⟩) hz).trans x2; have HR1 := Lib.hid (HR.out.grow hB1); have HN1 := Lib.hid (HN.out.grow hB1); have hz1 : Br < w1.heap.size := Nat.lt_of_lt_of_le hz hb1.size)
      | (go_at_call 8; (with_reducible refine (many_any _ _).mono ?_); rintro e w' ⟨rfl, rfl⟩; rw [HM.out])
      | (go_at_call 9; (with_reducible refine (bends_any nm a L cap hd _ hL HR1.out).mono ?_); rintro e w2 ⟨rfl, hb2⟩; rw [HB1.out, HB2.out]; have hB2 := hB1.trans (hb2.mono hB1.size); have c2 := (hb2.cell (p := ⟨Br, 0, none⟩) hz1).trans c1; have d2 := (hb2.cell (p := ⟨Br, 1, none⟩) hz1).trans d1; have f2 := (hb2.cell (p := ⟨Br, 2, none⟩) hz1).trans f1; have HR2 := Lib.hid (HR1.out.grow hb2); have HN2 := Lib.hid (HN1.out.grow hb2); have hz2 : Br < w2.heap.size := Nat.lt_of_lt_of_le hz1 hb2.size; clear c1 d1 f1)
      | (go_at_call 10; (with_reducible refine (travel_any a2 M cap2 _ hM HN2.out).mono ?_); rintro e w3 ⟨rfl, hb3⟩; rw [HE.out, HT.out]; have hB3 := hB2.trans (hb3.mono hB2.size); have c3 := (hb3.cell (p := ⟨Br, 0, none⟩) hz2).trans c2; have d3 := (hb3.cell (p := ⟨Br, 1, none⟩) hz2).trans d2; have f3 := (hb3.cell (p := ⟨Br, 2, none⟩) hz2).trans f2; have HR3 := Lib.hid (HR2.out.grow hb3); have HN3 := Lib.hid (HN2.out.grow hb3); have hz3 : Br < w3.heap.size := Nat.lt_of_lt_of_le hz2 hb3.size; clear c2 d2 f2)
      | (go_at_call 11; (with_reducible refine (turns_any a2 M cap2 _ hM HN3.out).mono ?_); rintro e w4 ⟨rfl, hb4⟩; rw [HE.out, HU.out]; have hB4 := hB3.trans (hb4.mono hB3.size); have c4 := (hb4.cell (p := ⟨Br, 0, none⟩) hz3).trans c3; have d4 := (hb4.cell (p := ⟨Br, 1, none⟩) hz3).trans d3; have f4 := (hb4.cell (p := ⟨Br, 2, none⟩) hz3).trans f3; have HR4 := Lib.hid (HR3.out.grow hb4); have HN4 := Lib.hid (HN3.out.grow hb4); have hz4 : Br < w4.heap.size := Nat.lt_of_lt_of_le hz3 hb4.size; clear c3 d3 f3)
      | (go_at_call 12; (with_reducible refine (wear_any nm a L cap hd a2 M cap2 _ hL hM HR4.out HN4.out).mono ?_); rintro e w5 ⟨rfl, hb5⟩; rw [HP.out]; have hB5 := hB4.trans (hb5.mono hB4.size); have c5 := (hb5.cell (p := ⟨Br, 0, none⟩) hz4).trans c4; have d5 := (hb5.cell (p := ⟨Br, 1, none⟩) hz4).trans d4; have f5 := (hb5.cell (p := ⟨Br, 2, none⟩) hz4).trans f4; have HR5 := Lib.hid (HR4.out.grow hb5); have HN5 := Lib.hid (HN4.out.grow hb5); have hz5 : Br < w5.heap.size := Nat.lt_of_lt_of_le hz4 hb5.size; clear c4 d4 f4)
      | (go_at_call 13; (with_reducible refine (left_any worn most _).mono ?_); rintro e w6 ⟨rfl, hb6⟩; rw [HLA.out, HLB.out]; have hB6 := hB5.trans (hb6.mono hB5.size); have c6 := (hb6.cell (p := ⟨Br, 0, none⟩) hz5).trans c5; have d6 := (hb6.cell (p := ⟨Br, 1, none⟩) hz5).trans d5; have f6 := (hb6.cell (p := ⟨Br, 2, none⟩) hz5).trans f5; have HR6 := Lib.hid (HR5.out.grow hb6); have HN6 := Lib.hid (HN5.out.grow hb6); have hz6 : Br < w6.heap.size := Nat.lt_of_lt_of_le hz5 hb6.size; clear c5 d5 f5)
      | (go_at_call 14; (with_reducible refine (refbends_any nm a L cap hd _ hL HR6.out).mono ?_); rintro e w7 ⟨rfl, hb7⟩; rw [HB1.out, HB2.out]; have hB7 := hB6.trans (hb7.mono hB6.size); have c7 := (hb7.cell (p := ⟨Br, 0, none⟩) hz6).trans c6; have d7 := (hb7.cell (p := ⟨Br, 1, none⟩) hz6).trans d6; have f7 := (hb7.cell (p := ⟨Br, 2, none⟩) hz6).trans f6; have HR7 := Lib.hid (HR6.out.grow hb7); have HN7 := Lib.hid (HN6.out.grow hb7); clear c6 d6 f6)
      | (go_at_call 15; (with_reducible refine (refwear_any nm a L cap hd a2 M cap2 _ hL hM HR7.out HN7.out).mono ?_); rintro e w8 ⟨rfl, hb8⟩; rw [HP.out]; have hB8 := hB7.trans (hb8.mono hB7.size); have HN8 := Lib.hid (HN7.out.grow hb8))
      | (go_at_call 16; (with_reducible refine (refplaces_any a2 M cap2 _ _ hM HN8.out).mono ?_); rintro e w9 ⟨rfl, rfl⟩; rw [HE.out])
      | (go_at_call 17; (with_reducible refine (reftravel_any a2 M cap2 _ _ HE.out HN8.out).mono ?_); rintro e w10 ⟨rfl, hb10⟩; rw [HTP.out]; have hB10 := hB8.trans (hb10.mono hB8.size); have HN10 := Lib.hid (HN8.out.grow hb10))
      | (go_at_call 18; (with_reducible refine (refturns_any a2 M cap2 _ _ HE.out HN10.out).mono ?_); rintro e w11 ⟨rfl, hb11⟩; rw [HUP.out]; have hB11 := hB10.trans (hb11.mono hB10.size)))
    go_ret
    exact ⟨rfl, by first | exact hB8 | (rw [← HBr.out]; exact hB8) | (have hq := hB8; rw [← HBr.out] at hq; exact hq)⟩
  · go_enter Try.func3, Try.ntmps3
    go_upto_region 1 with (fail)
    have hW0 := below_new w (.cells #[.string nm, .slice a L.length cap, .bool hd] 24)
    have x0 : (w.alloc (.cells #[.string nm, .slice a L.length cap, .bool hd] 24)).cell? ⟨w.heap.size, 0, none⟩ = some (.string nm) := by simp
    have x1 : (w.alloc (.cells #[.string nm, .slice a L.length cap, .bool hd] 24)).cell? ⟨w.heap.size, 1, none⟩ = some (.slice a L.length cap) := by simp
    have x2 : (w.alloc (.cells #[.string nm, .slice a L.length cap, .bool hd] 24)).cell? ⟨w.heap.size, 2, none⟩ = some (.bool hd) := by simp
    have hz : w.heap.size < (w.alloc (.cells #[.string nm, .slice a L.length cap, .bool hd] 24)).heap.size := by simp
    obtain ⟨Br, hBr⟩ : ∃ b, w.heap.size = b := ⟨_, rfl⟩
    have HBr := Lib.hid hBr
    rw [hBr] at x0 x1 x2 hz
    simp only [hBr]
    generalize w.alloc (.cells #[.string nm, .slice a L.length cap, .bool hd] 24) = W0 at *
    clear hBr
    go_wp2_with (first
      | (go_at_call 7; (with_reducible refine (awake_any _).mono ?_); rintro e w1 ⟨rfl, hb1⟩; have hB1 := hW0.trans (hb1.mono hW0.size); have c1 := (hb1.cell (p := ⟨Br, 0, none⟩) hz).trans x0; have d1 := (hb1.cell (p := ⟨Br, 1, none⟩) hz).trans x1; have f1 := (hb1.cell (p := ⟨Br, 2, none⟩) hz).trans x2; have HR1 := Lib.hid (HR.out.grow hB1); have HN1 := Lib.hid (HN.out.grow hB1); have hz1 : Br < w1.heap.size := Nat.lt_of_lt_of_le hz hb1.size)
      | (go_at_call 8; (with_reducible refine (many_any _ _).mono ?_); rintro e w' ⟨rfl, rfl⟩; rw [HM.out])
      | (go_at_call 9; (with_reducible refine (bends_any nm a L cap hd _ hL HR1.out).mono ?_); rintro e w2 ⟨rfl, hb2⟩; rw [HB1.out, HB2.out]; have hB2 := hB1.trans (hb2.mono hB1.size); have c2 := (hb2.cell (p := ⟨Br, 0, none⟩) hz1).trans c1; have d2 := (hb2.cell (p := ⟨Br, 1, none⟩) hz1).trans d1; have f2 := (hb2.cell (p := ⟨Br, 2, none⟩) hz1).trans f1; have HR2 := Lib.hid (HR1.out.grow hb2); have HN2 := Lib.hid (HN1.out.grow hb2); have hz2 : Br < w2.heap.size := Nat.lt_of_lt_of_le hz1 hb2.size; clear c1 d1 f1)
      | (go_at_call 10; (with_reducible refine (travel_any a2 M cap2 _ hM HN2.out).mono ?_); rintro e w3 ⟨rfl, hb3⟩; rw [HE.out, HT.out]; have hB3 := hB2.trans (hb3.mono hB2.size); have c3 := (hb3.cell (p := ⟨Br, 0, none⟩) hz2).trans c2; have d3 := (hb3.cell (p := ⟨Br, 1, none⟩) hz2).trans d2; have f3 := (hb3.cell (p := ⟨Br, 2, none⟩) hz2).trans f2; have HR3 := Lib.hid (HR2.out.grow hb3); have HN3 := Lib.hid (HN2.out.grow hb3); have hz3 : Br < w3.heap.size := Nat.lt_of_lt_of_le hz2 hb3.size; clear c2 d2 f2)
      | (go_at_call 11; (with_reducible refine (turns_any a2 M cap2 _ hM HN3.out).mono ?_); rintro e w4 ⟨rfl, hb4⟩; rw [HE.out, HU.out]; have hB4 := hB3.trans (hb4.mono hB3.size); have c4 := (hb4.cell (p := ⟨Br, 0, none⟩) hz3).trans c3; have d4 := (hb4.cell (p := ⟨Br, 1, none⟩) hz3).trans d3; have f4 := (hb4.cell (p := ⟨Br, 2, none⟩) hz3).trans f3; have HR4 := Lib.hid (HR3.out.grow hb4); have HN4 := Lib.hid (HN3.out.grow hb4); have hz4 : Br < w4.heap.size := Nat.lt_of_lt_of_le hz3 hb4.size; clear c3 d3 f3)
      | (go_at_call 12; (with_reducible refine (wear_any nm a L cap hd a2 M cap2 _ hL hM HR4.out HN4.out).mono ?_); rintro e w5 ⟨rfl, hb5⟩; rw [HP.out]; have hB5 := hB4.trans (hb5.mono hB4.size); have c5 := (hb5.cell (p := ⟨Br, 0, none⟩) hz4).trans c4; have d5 := (hb5.cell (p := ⟨Br, 1, none⟩) hz4).trans d4; have f5 := (hb5.cell (p := ⟨Br, 2, none⟩) hz4).trans f4; have HR5 := Lib.hid (HR4.out.grow hb5); have HN5 := Lib.hid (HN4.out.grow hb5); have hz5 : Br < w5.heap.size := Nat.lt_of_lt_of_le hz4 hb5.size; clear c4 d4 f4)
      | (go_at_call 13; (with_reducible refine (left_any worn most _).mono ?_); rintro e w6 ⟨rfl, hb6⟩; rw [HLA.out, HLB.out]; have hB6 := hB5.trans (hb6.mono hB5.size); have c6 := (hb6.cell (p := ⟨Br, 0, none⟩) hz5).trans c5; have d6 := (hb6.cell (p := ⟨Br, 1, none⟩) hz5).trans d5; have f6 := (hb6.cell (p := ⟨Br, 2, none⟩) hz5).trans f5; have HR6 := Lib.hid (HR5.out.grow hb6); have HN6 := Lib.hid (HN5.out.grow hb6); have hz6 : Br < w6.heap.size := Nat.lt_of_lt_of_le hz5 hb6.size; clear c5 d5 f5)
      | (go_at_call 14; (with_reducible refine (refbends_any nm a L cap hd _ hL HR6.out).mono ?_); rintro e w7 ⟨rfl, hb7⟩; rw [HB1.out, HB2.out]; have hB7 := hB6.trans (hb7.mono hB6.size); have c7 := (hb7.cell (p := ⟨Br, 0, none⟩) hz6).trans c6; have d7 := (hb7.cell (p := ⟨Br, 1, none⟩) hz6).trans d6; have f7 := (hb7.cell (p := ⟨Br, 2, none⟩) hz6).trans f6; have HR7 := Lib.hid (HR6.out.grow hb7); have HN7 := Lib.hid (HN6.out.grow hb7); clear c6 d6 f6)
      | (go_at_call 15; (with_reducible refine (refwear_any nm a L cap hd a2 M cap2 _ hL hM HR7.out HN7.out).mono ?_); rintro e w8 ⟨rfl, hb8⟩; rw [HP.out]; have hB8 := hB7.trans (hb8.mono hB7.size); have HN8 := Lib.hid (HN7.out.grow hb8))
      | (go_at_call 16; (with_reducible refine (refplaces_any a2 M cap2 _ _ hM HN8.out).mono ?_); rintro e w9 ⟨rfl, rfl⟩; rw [HE.out])
      | (go_at_call 17; (with_reducible refine (reftravel_any a2 M cap2 _ _ HE.out HN8.out).mono ?_); rintro e w10 ⟨rfl, hb10⟩; rw [HTP.out]; have hB10 := hB8.trans (hb10.mono hB8.size); have HN10 := Lib.hid (HN8.out.grow hb10))
      | (go_at_call 18; (with_reducible refine (refturns_any a2 M cap2 _ _ HE.out HN10.out).mono ?_); rintro e w11 ⟨rfl, hb11⟩; rw [HUP.out]; have hB11 := hB10.trans (hb11.mono hB10.size)))
    go_ret
    exact ⟨rfl, by first | exact hB8 | (rw [← HBr.out]; exact hB8) | (have hq := hB8; rw [← HBr.out] at hq; exact hq)⟩
  · go_enter Try.func3, Try.ntmps3
    go_upto_region 1 with (fail)
    have hW0 := below_new w (.cells #[.string nm, .slice a L.length cap, .bool hd] 24)
    have x0 : (w.alloc (.cells #[.string nm, .slice a L.length cap, .bool hd] 24)).cell? ⟨w.heap.size, 0, none⟩ = some (.string nm) := by simp
    have x1 : (w.alloc (.cells #[.string nm, .slice a L.length cap, .bool hd] 24)).cell? ⟨w.heap.size, 1, none⟩ = some (.slice a L.length cap) := by simp
    have x2 : (w.alloc (.cells #[.string nm, .slice a L.length cap, .bool hd] 24)).cell? ⟨w.heap.size, 2, none⟩ = some (.bool hd) := by simp
    have hz : w.heap.size < (w.alloc (.cells #[.string nm, .slice a L.length cap, .bool hd] 24)).heap.size := by simp
    obtain ⟨Br, hBr⟩ : ∃ b, w.heap.size = b := ⟨_, rfl⟩
    have HBr := Lib.hid hBr
    rw [hBr] at x0 x1 x2 hz
    simp only [hBr]
    generalize w.alloc (.cells #[.string nm, .slice a L.length cap, .bool hd] 24) = W0 at *
    clear hBr
    go_wp2_with (first
      | (go_at_call 7; (with_reducible refine (awake_any _).mono ?_); rintro e w1 ⟨rfl, hb1⟩; have hB1 := hW0.trans (hb1.mono hW0.size); have c1 := (hb1.cell (p := ⟨Br, 0, none⟩) hz).trans x0; have d1 := (hb1.cell (p := ⟨Br, 1, none⟩) hz).trans x1; have f1 := (hb1.cell (p := ⟨Br, 2, none⟩) hz).trans x2; have HR1 := Lib.hid (HR.out.grow hB1); have HN1 := Lib.hid (HN.out.grow hB1); have hz1 : Br < w1.heap.size := Nat.lt_of_lt_of_le hz hb1.size)
      | (go_at_call 8; (with_reducible refine (many_any _ _).mono ?_); rintro e w' ⟨rfl, rfl⟩; rw [HM.out])
      | (go_at_call 9; (with_reducible refine (bends_any nm a L cap hd _ hL HR1.out).mono ?_); rintro e w2 ⟨rfl, hb2⟩; rw [HB1.out, HB2.out]; have hB2 := hB1.trans (hb2.mono hB1.size); have c2 := (hb2.cell (p := ⟨Br, 0, none⟩) hz1).trans c1; have d2 := (hb2.cell (p := ⟨Br, 1, none⟩) hz1).trans d1; have f2 := (hb2.cell (p := ⟨Br, 2, none⟩) hz1).trans f1; have HR2 := Lib.hid (HR1.out.grow hb2); have HN2 := Lib.hid (HN1.out.grow hb2); have hz2 : Br < w2.heap.size := Nat.lt_of_lt_of_le hz1 hb2.size; clear c1 d1 f1)
      | (go_at_call 10; (with_reducible refine (travel_any a2 M cap2 _ hM HN2.out).mono ?_); rintro e w3 ⟨rfl, hb3⟩; rw [HE.out, HT.out]; have hB3 := hB2.trans (hb3.mono hB2.size); have c3 := (hb3.cell (p := ⟨Br, 0, none⟩) hz2).trans c2; have d3 := (hb3.cell (p := ⟨Br, 1, none⟩) hz2).trans d2; have f3 := (hb3.cell (p := ⟨Br, 2, none⟩) hz2).trans f2; have HR3 := Lib.hid (HR2.out.grow hb3); have HN3 := Lib.hid (HN2.out.grow hb3); have hz3 : Br < w3.heap.size := Nat.lt_of_lt_of_le hz2 hb3.size; clear c2 d2 f2)
      | (go_at_call 11; (with_reducible refine (turns_any a2 M cap2 _ hM HN3.out).mono ?_); rintro e w4 ⟨rfl, hb4⟩; rw [HE.out, HU.out]; have hB4 := hB3.trans (hb4.mono hB3.size); have c4 := (hb4.cell (p := ⟨Br, 0, none⟩) hz3).trans c3; have d4 := (hb4.cell (p := ⟨Br, 1, none⟩) hz3).trans d3; have f4 := (hb4.cell (p := ⟨Br, 2, none⟩) hz3).trans f3; have HR4 := Lib.hid (HR3.out.grow hb4); have HN4 := Lib.hid (HN3.out.grow hb4); have hz4 : Br < w4.heap.size := Nat.lt_of_lt_of_le hz3 hb4.size; clear c3 d3 f3)
      | (go_at_call 12; (with_reducible refine (wear_any nm a L cap hd a2 M cap2 _ hL hM HR4.out HN4.out).mono ?_); rintro e w5 ⟨rfl, hb5⟩; rw [HP.out]; have hB5 := hB4.trans (hb5.mono hB4.size); have c5 := (hb5.cell (p := ⟨Br, 0, none⟩) hz4).trans c4; have d5 := (hb5.cell (p := ⟨Br, 1, none⟩) hz4).trans d4; have f5 := (hb5.cell (p := ⟨Br, 2, none⟩) hz4).trans f4; have HR5 := Lib.hid (HR4.out.grow hb5); have HN5 := Lib.hid (HN4.out.grow hb5); have hz5 : Br < w5.heap.size := Nat.lt_of_lt_of_le hz4 hb5.size; clear c4 d4 f4)
      | (go_at_call 13; (with_reducible refine (left_any worn most _).mono ?_); rintro e w6 ⟨rfl, hb6⟩; rw [HLA.out, HLB.out]; have hB6 := hB5.trans (hb6.mono hB5.size); have c6 := (hb6.cell (p := ⟨Br, 0, none⟩) hz5).trans c5; have d6 := (hb6.cell (p := ⟨Br, 1, none⟩) hz5).trans d5; have f6 := (hb6.cell (p := ⟨Br, 2, none⟩) hz5).trans f5; have HR6 := Lib.hid (HR5.out.grow hb6); have HN6 := Lib.hid (HN5.out.grow hb6); have hz6 : Br < w6.heap.size := Nat.lt_of_lt_of_le hz5 hb6.size; clear c5 d5 f5)
      | (go_at_call 14; (with_reducible refine (refbends_any nm a L cap hd _ hL HR6.out).mono ?_); rintro e w7 ⟨rfl, hb7⟩; rw [HB1.out, HB2.out]; have hB7 := hB6.trans (hb7.mono hB6.size); have c7 := (hb7.cell (p := ⟨Br, 0, none⟩) hz6).trans c6; have d7 := (hb7.cell (p := ⟨Br, 1, none⟩) hz6).trans d6; have f7 := (hb7.cell (p := ⟨Br, 2, none⟩) hz6).trans f6; have HR7 := Lib.hid (HR6.out.grow hb7); have HN7 := Lib.hid (HN6.out.grow hb7); clear c6 d6 f6)
      | (go_at_call 15; (with_reducible refine (refwear_any nm a L cap hd a2 M cap2 _ hL hM HR7.out HN7.out).mono ?_); rintro e w8 ⟨rfl, hb8⟩; rw [HP.out]; have hB8 := hB7.trans (hb8.mono hB7.size); have HN8 := Lib.hid (HN7.out.grow hb8))
      | (go_at_call 16; (with_reducible refine (refplaces_any a2 M cap2 _ _ hM HN8.out).mono ?_); rintro e w9 ⟨rfl, rfl⟩; rw [HE.out])
      | (go_at_call 17; (with_reducible refine (reftravel_any a2 M cap2 _ _ HE.out HN8.out).mono ?_); rintro e w10 ⟨rfl, hb10⟩; rw [HTP.out]; have hB10 := hB8.trans (hb10.mono hB8.size); have HN10 := Lib.hid (HN8.out.grow hb10))
      | (go_at_call 18; (with_reducible refine (refturns_any a2 M cap2 _ _ HE.out HN10.out).mono ?_); rintro e w11 ⟨rfl, hb11⟩; rw [HUP.out]; have hB11 := hB10.trans (hb11.mono hB10.size)))
    go_ret
    exact ⟨rfl, by first | exact hB8 | (rw [← HBr.out]; exact hB8) | (have hq := hB8; rw [← HBr.out] at hq; exact hq)⟩
  · have z7 : (n == max 0 (most - worn)) = true := beq_iff_eq.2 hn
    go_enter Try.func3, Try.ntmps3
    go_upto_region 1 with (fail)
    have hW0 := below_new w (.cells #[.string nm, .slice a L.length cap, .bool hd] 24)
    have x0 : (w.alloc (.cells #[.string nm, .slice a L.length cap, .bool hd] 24)).cell? ⟨w.heap.size, 0, none⟩ = some (.string nm) := by simp
    have x1 : (w.alloc (.cells #[.string nm, .slice a L.length cap, .bool hd] 24)).cell? ⟨w.heap.size, 1, none⟩ = some (.slice a L.length cap) := by simp
    have x2 : (w.alloc (.cells #[.string nm, .slice a L.length cap, .bool hd] 24)).cell? ⟨w.heap.size, 2, none⟩ = some (.bool hd) := by simp
    have hz : w.heap.size < (w.alloc (.cells #[.string nm, .slice a L.length cap, .bool hd] 24)).heap.size := by simp
    obtain ⟨Br, hBr⟩ : ∃ b, w.heap.size = b := ⟨_, rfl⟩
    have HBr := Lib.hid hBr
    rw [hBr] at x0 x1 x2 hz
    simp only [hBr]
    generalize w.alloc (.cells #[.string nm, .slice a L.length cap, .bool hd] 24) = W0 at *
    clear hBr
    go_wp2_with (first
      | (go_at_call 7; (with_reducible refine (awake_any _).mono ?_); rintro e w1 ⟨rfl, hb1⟩; have hB1 := hW0.trans (hb1.mono hW0.size); have c1 := (hb1.cell (p := ⟨Br, 0, none⟩) hz).trans x0; have d1 := (hb1.cell (p := ⟨Br, 1, none⟩) hz).trans x1; have f1 := (hb1.cell (p := ⟨Br, 2, none⟩) hz).trans x2; have HR1 := Lib.hid (HR.out.grow hB1); have HN1 := Lib.hid (HN.out.grow hB1); have hz1 : Br < w1.heap.size := Nat.lt_of_lt_of_le hz hb1.size)
      | (go_at_call 8; (with_reducible refine (many_any _ _).mono ?_); rintro e w' ⟨rfl, rfl⟩; rw [HM.out])
      | (go_at_call 9; (with_reducible refine (bends_any nm a L cap hd _ hL HR1.out).mono ?_); rintro e w2 ⟨rfl, hb2⟩; rw [HB1.out, HB2.out]; have hB2 := hB1.trans (hb2.mono hB1.size); have c2 := (hb2.cell (p := ⟨Br, 0, none⟩) hz1).trans c1; have d2 := (hb2.cell (p := ⟨Br, 1, none⟩) hz1).trans d1; have f2 := (hb2.cell (p := ⟨Br, 2, none⟩) hz1).trans f1; have HR2 := Lib.hid (HR1.out.grow hb2); have HN2 := Lib.hid (HN1.out.grow hb2); have hz2 : Br < w2.heap.size := Nat.lt_of_lt_of_le hz1 hb2.size; clear c1 d1 f1)
      | (go_at_call 10; (with_reducible refine (travel_any a2 M cap2 _ hM HN2.out).mono ?_); rintro e w3 ⟨rfl, hb3⟩; rw [HE.out, HT.out]; have hB3 := hB2.trans (hb3.mono hB2.size); have c3 := (hb3.cell (p := ⟨Br, 0, none⟩) hz2).trans c2; have d3 := (hb3.cell (p := ⟨Br, 1, none⟩) hz2).trans d2; have f3 := (hb3.cell (p := ⟨Br, 2, none⟩) hz2).trans f2; have HR3 := Lib.hid (HR2.out.grow hb3); have HN3 := Lib.hid (HN2.out.grow hb3); have hz3 : Br < w3.heap.size := Nat.lt_of_lt_of_le hz2 hb3.size; clear c2 d2 f2)
      | (go_at_call 11; (with_reducible refine (turns_any a2 M cap2 _ hM HN3.out).mono ?_); rintro e w4 ⟨rfl, hb4⟩; rw [HE.out, HU.out]; have hB4 := hB3.trans (hb4.mono hB3.size); have c4 := (hb4.cell (p := ⟨Br, 0, none⟩) hz3).trans c3; have d4 := (hb4.cell (p := ⟨Br, 1, none⟩) hz3).trans d3; have f4 := (hb4.cell (p := ⟨Br, 2, none⟩) hz3).trans f3; have HR4 := Lib.hid (HR3.out.grow hb4); have HN4 := Lib.hid (HN3.out.grow hb4); have hz4 : Br < w4.heap.size := Nat.lt_of_lt_of_le hz3 hb4.size; clear c3 d3 f3)
      | (go_at_call 12; (with_reducible refine (wear_any nm a L cap hd a2 M cap2 _ hL hM HR4.out HN4.out).mono ?_); rintro e w5 ⟨rfl, hb5⟩; rw [HP.out]; have hB5 := hB4.trans (hb5.mono hB4.size); have c5 := (hb5.cell (p := ⟨Br, 0, none⟩) hz4).trans c4; have d5 := (hb5.cell (p := ⟨Br, 1, none⟩) hz4).trans d4; have f5 := (hb5.cell (p := ⟨Br, 2, none⟩) hz4).trans f4; have HR5 := Lib.hid (HR4.out.grow hb5); have HN5 := Lib.hid (HN4.out.grow hb5); have hz5 : Br < w5.heap.size := Nat.lt_of_lt_of_le hz4 hb5.size; clear c4 d4 f4)
      | (go_at_call 13; (with_reducible refine (left_any worn most _).mono ?_); rintro e w6 ⟨rfl, hb6⟩; rw [HLA.out, HLB.out]; have hB6 := hB5.trans (hb6.mono hB5.size); have c6 := (hb6.cell (p := ⟨Br, 0, none⟩) hz5).trans c5; have d6 := (hb6.cell (p := ⟨Br, 1, none⟩) hz5).trans d5; have f6 := (hb6.cell (p := ⟨Br, 2, none⟩) hz5).trans f5; have HR6 := Lib.hid (HR5.out.grow hb6); have HN6 := Lib.hid (HN5.out.grow hb6); have hz6 : Br < w6.heap.size := Nat.lt_of_lt_of_le hz5 hb6.size; clear c5 d5 f5)
      | (go_at_call 14; (with_reducible refine (refbends_any nm a L cap hd _ hL HR6.out).mono ?_); rintro e w7 ⟨rfl, hb7⟩; rw [HB1.out, HB2.out]; have hB7 := hB6.trans (hb7.mono hB6.size); have c7 := (hb7.cell (p := ⟨Br, 0, none⟩) hz6).trans c6; have d7 := (hb7.cell (p := ⟨Br, 1, none⟩) hz6).trans d6; have f7 := (hb7.cell (p := ⟨Br, 2, none⟩) hz6).trans f6; have HR7 := Lib.hid (HR6.out.grow hb7); have HN7 := Lib.hid (HN6.out.grow hb7); clear c6 d6 f6)
      | (go_at_call 15; (with_reducible refine (refwear_any nm a L cap hd a2 M cap2 _ hL hM HR7.out HN7.out).mono ?_); rintro e w8 ⟨rfl, hb8⟩; rw [HP.out]; have hB8 := hB7.trans (hb8.mono hB7.size); have HN8 := Lib.hid (HN7.out.grow hb8))
      | (go_at_call 16; (with_reducible refine (refplaces_any a2 M cap2 _ _ hM HN8.out).mono ?_); rintro e w9 ⟨rfl, rfl⟩; rw [HE.out])
      | (go_at_call 17; (with_reducible refine (reftravel_any a2 M cap2 _ _ HE.out HN8.out).mono ?_); rintro e w10 ⟨rfl, hb10⟩; rw [HTP.out]; have hB10 := hB8.trans (hb10.mono hB8.size); have HN10 := Lib.hid (HN8.out.grow hb10))
      | (go_at_call 18; (with_reducible refine (refturns_any a2 M cap2 _ _ HE.out HN10.out).mono ?_); rintro e w11 ⟨rfl, hb11⟩; rw [HUP.out]; have hB11 := hB10.trans (hb11.mono hB10.size)))
    go_ret
    exact ⟨rfl, by first | exact hB8 | (rw [← HBr.out]; exact hB8) | (have hq := hB8; rw [← HBr.out] at hq; exact hq)⟩
set_option maxRecDepth 100000 in
set_option maxHeartbeats 16000000 in
theorem ways_good (nm : ByteArray) (a : Option Addr) (L : List HoldR) (cap : Nat) (hd : Bool) (a2 : Option Addr) (M : List Int) (cap2 : Nat) (worn most : Int) (w : World) (hR : Holds w.heap.size w a L) (hN : Nums w.heap.size w a2 M) (hl : L.length ≤ 13) (hm : manyB M.length = false) (he : placesE M = 0)
    :
    Calls Try.prog 3 #[.agg #[.string nm, .slice a L.length cap, .bool hd], .slice a2 M.length cap2, .int .i64 worn, .int .i64 most] w fun e w' => e = .returned (.bool true) ∧ Below w.heap.size w w' := by
  have HR := Lib.hid hR
  have HN := Lib.hid hN
  clear hR hN
  have g : decide ((13 : Int) < L.length) = false := decide_eq_false (by omega)
  have hL : L.length ≤ 1000000 := by omega
  have hM : M.length ≤ 1000000 := by have := many_len hm; omega
  have HM := Lib.hid hm
  clear hm
  obtain ⟨b1, hb1⟩ : ∃ b : Int, (if ropeB L then (L.length : Int) - 2 else 0) = b := ⟨_, rfl⟩
  obtain ⟨b2, hb2⟩ : ∃ b : Int, (if ropeB L then 0 else 1) = b := ⟨_, rfl⟩
  obtain ⟨p, hp⟩ : ∃ p, wearP L M = p := ⟨_, rfl⟩
  obtain ⟨tp, htp⟩ : ∃ p, travelP M = p := ⟨_, rfl⟩
  obtain ⟨up, hup⟩ : ∃ p, turnsP M = p := ⟨_, rfl⟩
  have HB1 := Lib.hid hb1
  have HB2 := Lib.hid hb2
  have HP := Lib.hid hp
  have HTP := Lib.hid htp
  have HUP := Lib.hid hup
  clear hb1 hb2 hp htp hup
  have z1 : (b1 != b1) = false := bne_self_eq_false _
  have z2 : (b2 != b2) = false := bne_self_eq_false _
  have z3 : (p.1 != p.1) = false := bne_self_eq_false _
  have z4 : (p.2 != p.2) = false := bne_self_eq_false _
  obtain ⟨n, hn⟩ : ∃ n, (if leftOK worn most then max 0 (most - worn) else 0) = n := ⟨_, rfl⟩
  obtain ⟨ne, hne⟩ : ∃ n : Int, (if leftOK worn most then 0 else 2) = n := ⟨_, rfl⟩
  have HLA := Lib.hid hn
  have HLB := Lib.hid hne
  have hc : (decide (worn < 0) = true ∧ n = 0 ∧ ne = 2) ∨ (decide (worn < 0) = false ∧ decide (1152921504606846976 < worn) = true ∧ n = 0 ∧ ne = 2) ∨ (decide (worn < 0) = false ∧ decide (1152921504606846976 < worn) = false ∧ decide (most < 0) = true ∧ n = 0 ∧ ne = 2) ∨ (decide (worn < 0) = false ∧ decide (1152921504606846976 < worn) = false ∧ decide (most < 0) = false ∧ decide (1152921504606846976 < most) = true ∧ n = 0 ∧ ne = 2) ∨ (decide (worn < 0) = false ∧ decide (1152921504606846976 < worn) = false ∧ decide (most < 0) = false ∧ decide (1152921504606846976 < most) = false ∧ n = max 0 (most - worn) ∧ ne = 0 ∧ IntKind.i64.wrap (most - worn) = most - worn) := by
    simp only [decide_eq_true_eq, decide_eq_false_iff_not]
    by_cases q : leftOK worn most
    · rw [if_pos q] at hn hne
      obtain ⟨q1, q2, q3, q4⟩ := q
      refine Or.inr (Or.inr (Or.inr (Or.inr ⟨by omega, by omega, by omega, by omega, hn.symm, hne.symm, IntWalk.i64_in _ (by omega)⟩)))
    · rw [if_neg q] at hn hne
      unfold leftOK at q
      omega
  clear hn hne
  have HE := Lib.hid he
  have z5 : (tp != tp) = false := bne_self_eq_false _
  have z6 : (up != up) = false := bne_self_eq_false _
  clear he
  rcases hc with ⟨g1, rfl, rfl⟩ | ⟨g1, g2, rfl, rfl⟩ | ⟨g1, g2, g3, rfl, rfl⟩ | ⟨g1, g2, g3, g4, rfl, rfl⟩ | ⟨g1, g2, g3, g4, hn, rfl, g5⟩
  · go_enter Try.func3, Try.ntmps3
    go_upto_region 1 with (fail)
    have hW0 := below_new w (.cells #[.string nm, .slice a L.length cap, .bool hd] 24)
    have x0 : (w.alloc (.cells #[.string nm, .slice a L.length cap, .bool hd] 24)).cell? ⟨w.heap.size, 0, none⟩ = some (.string nm) := by simp
    have x1 : (w.alloc (.cells #[.string nm, .slice a L.length cap, .bool hd] 24)).cell? ⟨w.heap.size, 1, none⟩ = some (.slice a L.length cap) := by simp
    have x2 : (w.alloc (.cells #[.string nm, .slice a L.length cap, .bool hd] 24)).cell? ⟨w.heap.size, 2, none⟩ = some (.bool hd) := by simp
    have hz : w.heap.size < (w.alloc (.cells #[.string nm, .slice a L.length cap, .bool hd] 24)).heap.size := by simp
    obtain ⟨Br, hBr⟩ : ∃ b, w.heap.size = b := ⟨_, rfl⟩
    have HBr := Lib.hid hBr
    rw [hBr] at x0 x1 x2 hz
    simp only [hBr]
    generalize w.alloc (.cells #[.string nm, .slice a L.length cap, .bool hd] 24) = W0 at *
    clear hBr
    go_wp2_with (first
      | (go_at_call 7; (with_reducible refine (awake_any _).mono ?_); rintro e w1 ⟨rfl, hb1⟩; have hB1 := hW0.trans (hb1.mono hW0.size); have c1 := (hb1.cell (p := ⟨Br, 0, none⟩) hz).trans x0; have d1 := (hb1.cell (p := ⟨Br, 1, none⟩) hz).trans x1; have f1 := (hb1.cell (p := ⟨Br, 2, none⟩) hz).trans x2; have HR1 := Lib.hid (HR.out.grow hB1); have HN1 := Lib.hid (HN.out.grow hB1); have hz1 : Br < w1.heap.size := Nat.lt_of_lt_of_le hz hb1.size)
      | (go_at_call 8; (with_reducible refine (many_any _ _).mono ?_); rintro e w' ⟨rfl, rfl⟩; rw [HM.out])
      | (go_at_call 9; (with_reducible refine (bends_any nm a L cap hd _ hL HR1.out).mono ?_); rintro e w2 ⟨rfl, hb2⟩; rw [HB1.out, HB2.out]; have hB2 := hB1.trans (hb2.mono hB1.size); have c2 := (hb2.cell (p := ⟨Br, 0, none⟩) hz1).trans c1; have d2 := (hb2.cell (p := ⟨Br, 1, none⟩) hz1).trans d1; have f2 := (hb2.cell (p := ⟨Br, 2, none⟩) hz1).trans f1; have HR2 := Lib.hid (HR1.out.grow hb2); have HN2 := Lib.hid (HN1.out.grow hb2); have hz2 : Br < w2.heap.size := Nat.lt_of_lt_of_le hz1 hb2.size; clear c1 d1 f1)
      | (go_at_call 10; (with_reducible refine (travel_any a2 M cap2 _ hM HN2.out).mono ?_); rintro e w3 ⟨rfl, hb3⟩; rw [HE.out, if_pos rfl, HTP.out]; have hB3 := hB2.trans (hb3.mono hB2.size); have c3 := (hb3.cell (p := ⟨Br, 0, none⟩) hz2).trans c2; have d3 := (hb3.cell (p := ⟨Br, 1, none⟩) hz2).trans d2; have f3 := (hb3.cell (p := ⟨Br, 2, none⟩) hz2).trans f2; have HR3 := Lib.hid (HR2.out.grow hb3); have HN3 := Lib.hid (HN2.out.grow hb3); have hz3 : Br < w3.heap.size := Nat.lt_of_lt_of_le hz2 hb3.size; clear c2 d2 f2)
      | (go_at_call 11; (with_reducible refine (turns_any a2 M cap2 _ hM HN3.out).mono ?_); rintro e w4 ⟨rfl, hb4⟩; rw [HE.out, if_pos rfl, HUP.out]; have hB4 := hB3.trans (hb4.mono hB3.size); have c4 := (hb4.cell (p := ⟨Br, 0, none⟩) hz3).trans c3; have d4 := (hb4.cell (p := ⟨Br, 1, none⟩) hz3).trans d3; have f4 := (hb4.cell (p := ⟨Br, 2, none⟩) hz3).trans f3; have HR4 := Lib.hid (HR3.out.grow hb4); have HN4 := Lib.hid (HN3.out.grow hb4); have hz4 : Br < w4.heap.size := Nat.lt_of_lt_of_le hz3 hb4.size; clear c3 d3 f3)
      | (go_at_call 12; (with_reducible refine (wear_any nm a L cap hd a2 M cap2 _ hL hM HR4.out HN4.out).mono ?_); rintro e w5 ⟨rfl, hb5⟩; rw [HP.out]; have hB5 := hB4.trans (hb5.mono hB4.size); have c5 := (hb5.cell (p := ⟨Br, 0, none⟩) hz4).trans c4; have d5 := (hb5.cell (p := ⟨Br, 1, none⟩) hz4).trans d4; have f5 := (hb5.cell (p := ⟨Br, 2, none⟩) hz4).trans f4; have HR5 := Lib.hid (HR4.out.grow hb5); have HN5 := Lib.hid (HN4.out.grow hb5); have hz5 : Br < w5.heap.size := Nat.lt_of_lt_of_le hz4 hb5.size; clear c4 d4 f4)
      | (go_at_call 13; (with_reducible refine (left_any worn most _).mono ?_); rintro e w6 ⟨rfl, hb6⟩; rw [HLA.out, HLB.out]; have hB6 := hB5.trans (hb6.mono hB5.size); have c6 := (hb6.cell (p := ⟨Br, 0, none⟩) hz5).trans c5; have d6 := (hb6.cell (p := ⟨Br, 1, none⟩) hz5).trans d5; have f6 := (hb6.cell (p := ⟨Br, 2, none⟩) hz5).trans f5; have HR6 := Lib.hid (HR5.out.grow hb6); have HN6 := Lib.hid (HN5.out.grow hb6); have hz6 : Br < w6.heap.size := Nat.lt_of_lt_of_le hz5 hb6.size; clear c5 d5 f5)
      | (go_at_call 14; (with_reducible refine (refbends_any nm a L cap hd _ hL HR6.out).mono ?_); rintro e w7 ⟨rfl, hb7⟩; rw [HB1.out, HB2.out]; have hB7 := hB6.trans (hb7.mono hB6.size); have c7 := (hb7.cell (p := ⟨Br, 0, none⟩) hz6).trans c6; have d7 := (hb7.cell (p := ⟨Br, 1, none⟩) hz6).trans d6; have f7 := (hb7.cell (p := ⟨Br, 2, none⟩) hz6).trans f6; have HR7 := Lib.hid (HR6.out.grow hb7); have HN7 := Lib.hid (HN6.out.grow hb7); clear c6 d6 f6)
      | (go_at_call 15; (with_reducible refine (refwear_any nm a L cap hd a2 M cap2 _ hL hM HR7.out HN7.out).mono ?_); rintro e w8 ⟨rfl, hb8⟩; rw [HP.out]; have hB8 := hB7.trans (hb8.mono hB7.size); have HN8 := Lib.hid (HN7.out.grow hb8))
      | (go_at_call 16; (with_reducible refine (refplaces_any a2 M cap2 _ _ hM HN8.out).mono ?_); rintro e w9 ⟨rfl, rfl⟩; rw [HE.out])
      | (go_at_call 17; (with_reducible refine (reftravel_any a2 M cap2 _ _ HE.out HN8.out).mono ?_); rintro e w10 ⟨rfl, hb10⟩; rw [HTP.out]; have hB10 := hB8.trans (hb10.mono hB8.size); have HN10 := Lib.hid (HN8.out.grow hb10))
      | (go_at_call 18; (with_reducible refine (refturns_any a2 M cap2 _ _ HE.out HN10.out).mono ?_); rintro e w11 ⟨rfl, hb11⟩; rw [HUP.out]; have hB11 := hB10.trans (hb11.mono hB10.size)))
    go_ret
    exact ⟨rfl, by first | exact hB11 | (rw [← HBr.out]; exact hB11) | (have hq := hB11; rw [← HBr.out] at hq; exact hq)⟩
  · go_enter Try.func3, Try.ntmps3
    go_upto_region 1 with (fail)
    have hW0 := below_new w (.cells #[.string nm, .slice a L.length cap, .bool hd] 24)
    have x0 : (w.alloc (.cells #[.string nm, .slice a L.length cap, .bool hd] 24)).cell? ⟨w.heap.size, 0, none⟩ = some (.string nm) := by simp
    have x1 : (w.alloc (.cells #[.string nm, .slice a L.length cap, .bool hd] 24)).cell? ⟨w.heap.size, 1, none⟩ = some (.slice a L.length cap) := by simp
    have x2 : (w.alloc (.cells #[.string nm, .slice a L.length cap, .bool hd] 24)).cell? ⟨w.heap.size, 2, none⟩ = some (.bool hd) := by simp
    have hz : w.heap.size < (w.alloc (.cells #[.string nm, .slice a L.length cap, .bool hd] 24)).heap.size := by simp
    obtain ⟨Br, hBr⟩ : ∃ b, w.heap.size = b := ⟨_, rfl⟩
    have HBr := Lib.hid hBr
    rw [hBr] at x0 x1 x2 hz
    simp only [hBr]
    generalize w.alloc (.cells #[.string nm, .slice a L.length cap, .bool hd] 24) = W0 at *
    clear hBr
    go_wp2_with (first
      | (go_at_call 7; (with_reducible refine (awake_any _).mono ?_); rintro e w1 ⟨rfl, hb1⟩; have hB1 := hW0.trans (hb1.mono hW0.size); have c1 := (hb1.cell (p := ⟨Br, 0, none⟩) hz).trans x0; have d1 := (hb1.cell (p := ⟨Br, 1, none⟩) hz).trans x1; have f1 := (hb1.cell (p := ⟨Br, 2, none⟩) hz).trans x2; have HR1 := Lib.hid (HR.out.grow hB1); have HN1 := Lib.hid (HN.out.grow hB1); have hz1 : Br < w1.heap.size := Nat.lt_of_lt_of_le hz hb1.size)
      | (go_at_call 8; (with_reducible refine (many_any _ _).mono ?_); rintro e w' ⟨rfl, rfl⟩; rw [HM.out])
      | (go_at_call 9; (with_reducible refine (bends_any nm a L cap hd _ hL HR1.out).mono ?_); rintro e w2 ⟨rfl, hb2⟩; rw [HB1.out, HB2.out]; have hB2 := hB1.trans (hb2.mono hB1.size); have c2 := (hb2.cell (p := ⟨Br, 0, none⟩) hz1).trans c1; have d2 := (hb2.cell (p := ⟨Br, 1, none⟩) hz1).trans d1; have f2 := (hb2.cell (p := ⟨Br, 2, none⟩) hz1).trans f1; have HR2 := Lib.hid (HR1.out.grow hb2); have HN2 := Lib.hid (HN1.out.grow hb2); have hz2 : Br < w2.heap.size := Nat.lt_of_lt_of_le hz1 hb2.size; clear c1 d1 f1)
      | (go_at_call 10; (with_reducible refine (travel_any a2 M cap2 _ hM HN2.out).mono ?_); rintro e w3 ⟨rfl, hb3⟩; rw [HE.out, if_pos rfl, HTP.out]; have hB3 := hB2.trans (hb3.mono hB2.size); have c3 := (hb3.cell (p := ⟨Br, 0, none⟩) hz2).trans c2; have d3 := (hb3.cell (p := ⟨Br, 1, none⟩) hz2).trans d2; have f3 := (hb3.cell (p := ⟨Br, 2, none⟩) hz2).trans f2; have HR3 := Lib.hid (HR2.out.grow hb3); have HN3 := Lib.hid (HN2.out.grow hb3); have hz3 : Br < w3.heap.size := Nat.lt_of_lt_of_le hz2 hb3.size; clear c2 d2 f2)
      | (go_at_call 11; (with_reducible refine (turns_any a2 M cap2 _ hM HN3.out).mono ?_); rintro e w4 ⟨rfl, hb4⟩; rw [HE.out, if_pos rfl, HUP.out]; have hB4 := hB3.trans (hb4.mono hB3.size); have c4 := (hb4.cell (p := ⟨Br, 0, none⟩) hz3).trans c3; have d4 := (hb4.cell (p := ⟨Br, 1, none⟩) hz3).trans d3; have f4 := (hb4.cell (p := ⟨Br, 2, none⟩) hz3).trans f3; have HR4 := Lib.hid (HR3.out.grow hb4); have HN4 := Lib.hid (HN3.out.grow hb4); have hz4 : Br < w4.heap.size := Nat.lt_of_lt_of_le hz3 hb4.size; clear c3 d3 f3)
      | (go_at_call 12; (with_reducible refine (wear_any nm a L cap hd a2 M cap2 _ hL hM HR4.out HN4.out).mono ?_); rintro e w5 ⟨rfl, hb5⟩; rw [HP.out]; have hB5 := hB4.trans (hb5.mono hB4.size); have c5 := (hb5.cell (p := ⟨Br, 0, none⟩) hz4).trans c4; have d5 := (hb5.cell (p := ⟨Br, 1, none⟩) hz4).trans d4; have f5 := (hb5.cell (p := ⟨Br, 2, none⟩) hz4).trans f4; have HR5 := Lib.hid (HR4.out.grow hb5); have HN5 := Lib.hid (HN4.out.grow hb5); have hz5 : Br < w5.heap.size := Nat.lt_of_lt_of_le hz4 hb5.size; clear c4 d4 f4)
      | (go_at_call 13; (with_reducible refine (left_any worn most _).mono ?_); rintro e w6 ⟨rfl, hb6⟩; rw [HLA.out, HLB.out]; have hB6 := hB5.trans (hb6.mono hB5.size); have c6 := (hb6.cell (p := ⟨Br, 0, none⟩) hz5).trans c5; have d6 := (hb6.cell (p := ⟨Br, 1, none⟩) hz5).trans d5; have f6 := (hb6.cell (p := ⟨Br, 2, none⟩) hz5).trans f5; have HR6 := Lib.hid (HR5.out.grow hb6); have HN6 := Lib.hid (HN5.out.grow hb6); have hz6 : Br < w6.heap.size := Nat.lt_of_lt_of_le hz5 hb6.size; clear c5 d5 f5)
      | (go_at_call 14; (with_reducible refine (refbends_any nm a L cap hd _ hL HR6.out).mono ?_); rintro e w7 ⟨rfl, hb7⟩; rw [HB1.out, HB2.out]; have hB7 := hB6.trans (hb7.mono hB6.size); have c7 := (hb7.cell (p := ⟨Br, 0, none⟩) hz6).trans c6; have d7 := (hb7.cell (p := ⟨Br, 1, none⟩) hz6).trans d6; have f7 := (hb7.cell (p := ⟨Br, 2, none⟩) hz6).trans f6; have HR7 := Lib.hid (HR6.out.grow hb7); have HN7 := Lib.hid (HN6.out.grow hb7); clear c6 d6 f6)
      | (go_at_call 15; (with_reducible refine (refwear_any nm a L cap hd a2 M cap2 _ hL hM HR7.out HN7.out).mono ?_); rintro e w8 ⟨rfl, hb8⟩; rw [HP.out]; have hB8 := hB7.trans (hb8.mono hB7.size); have HN8 := Lib.hid (HN7.out.grow hb8))
      | (go_at_call 16; (with_reducible refine (refplaces_any a2 M cap2 _ _ hM HN8.out).mono ?_); rintro e w9 ⟨rfl, rfl⟩; rw [HE.out])
      | (go_at_call 17; (with_reducible refine (reftravel_any a2 M cap2 _ _ HE.out HN8.out).mono ?_); rintro e w10 ⟨rfl, hb10⟩; rw [HTP.out]; have hB10 := hB8.trans (hb10.mono hB8.size); have HN10 := Lib.hid (HN8.out.grow hb10))
      | (go_at_call 18; (with_reducible refine (refturns_any a2 M cap2 _ _ HE.out HN10.out).mono ?_); rintro e w11 ⟨rfl, hb11⟩; rw [HUP.out]; have hB11 := hB10.trans (hb11.mono hB10.size)))
    go_ret
    exact ⟨rfl, by first | exact hB11 | (rw [← HBr.out]; exact hB11) | (have hq := hB11; rw [← HBr.out] at hq; exact hq)⟩
  · go_enter Try.func3, Try.ntmps3
    go_upto_region 1 with (fail)
    have hW0 := below_new w (.cells #[.string nm, .slice a L.length cap, .bool hd] 24)
    have x0 : (w.alloc (.cells #[.string nm, .slice a L.length cap, .bool hd] 24)).cell? ⟨w.heap.size, 0, none⟩ = some (.string nm) := by simp
    have x1 : (w.alloc (.cells #[.string nm, .slice a L.length cap, .bool hd] 24)).cell? ⟨w.heap.size, 1, none⟩ = some (.slice a L.length cap) := by simp
    have x2 : (w.alloc (.cells #[.string nm, .slice a L.length cap, .bool hd] 24)).cell? ⟨w.heap.size, 2, none⟩ = some (.bool hd) := by simp
    have hz : w.heap.size < (w.alloc (.cells #[.string nm, .slice a L.length cap, .bool hd] 24)).heap.size := by simp
    obtain ⟨Br, hBr⟩ : ∃ b, w.heap.size = b := ⟨_, rfl⟩
    have HBr := Lib.hid hBr
    rw [hBr] at x0 x1 x2 hz
    simp only [hBr]
    generalize w.alloc (.cells #[.string nm, .slice a L.length cap, .bool hd] 24) = W0 at *
    clear hBr
    go_wp2_with (first
      | (go_at_call 7; (with_reducible refine (awake_any _).mono ?_); rintro e w1 ⟨rfl, hb1⟩; have hB1 := hW0.trans (hb1.mono hW0.size); have c1 := (hb1.cell (p := ⟨Br, 0, none⟩) hz).trans x0; have d1 := (hb1.cell (p := ⟨Br, 1, none⟩) hz).trans x1; have f1 := (hb1.cell (p := ⟨Br, 2, none⟩) hz).trans x2; have HR1 := Lib.hid (HR.out.grow hB1); have HN1 := Lib.hid (HN.out.grow hB1); have hz1 : Br < w1.heap.size := Nat.lt_of_lt_of_le hz hb1.size)
      | (go_at_call 8; (with_reducible refine (many_any _ _).mono ?_); rintro e w' ⟨rfl, rfl⟩; rw [HM.out])
      | (go_at_call 9; (with_reducible refine (bends_any nm a L cap hd _ hL HR1.out).mono ?_); rintro e w2 ⟨rfl, hb2⟩; rw [HB1.out, HB2.out]; have hB2 := hB1.trans (hb2.mono hB1.size); have c2 := (hb2.cell (p := ⟨Br, 0, none⟩) hz1).trans c1; have d2 := (hb2.cell (p := ⟨Br, 1, none⟩) hz1).trans d1; have f2 := (hb2.cell (p := ⟨Br, 2, none⟩) hz1).trans f1; have HR2 := Lib.hid (HR1.out.grow hb2); have HN2 := Lib.hid (HN1.out.grow hb2); have hz2 : Br < w2.heap.size := Nat.lt_of_lt_of_le hz1 hb2.size; clear c1 d1 f1)
      | (go_at_call 10; (with_reducible refine (travel_any a2 M cap2 _ hM HN2.out).mono ?_); rintro e w3 ⟨rfl, hb3⟩; rw [HE.out, if_pos rfl, HTP.out]; have hB3 := hB2.trans (hb3.mono hB2.size); have c3 := (hb3.cell (p := ⟨Br, 0, none⟩) hz2).trans c2; have d3 := (hb3.cell (p := ⟨Br, 1, none⟩) hz2).trans d2; have f3 := (hb3.cell (p := ⟨Br, 2, none⟩) hz2).trans f2; have HR3 := Lib.hid (HR2.out.grow hb3); have HN3 := Lib.hid (HN2.out.grow hb3); have hz3 : Br < w3.heap.size := Nat.lt_of_lt_of_le hz2 hb3.size; clear c2 d2 f2)
      | (go_at_call 11; (with_reducible refine (turns_any a2 M cap2 _ hM HN3.out).mono ?_); rintro e w4 ⟨rfl, hb4⟩; rw [HE.out, if_pos rfl, HUP.out]; have hB4 := hB3.trans (hb4.mono hB3.size); have c4 := (hb4.cell (p := ⟨Br, 0, none⟩) hz3).trans c3; have d4 := (hb4.cell (p := ⟨Br, 1, none⟩) hz3).trans d3; have f4 := (hb4.cell (p := ⟨Br, 2, none⟩) hz3).trans f3; have HR4 := Lib.hid (HR3.out.grow hb4); have HN4 := Lib.hid (HN3.out.grow hb4); have hz4 : Br < w4.heap.size := Nat.lt_of_lt_of_le hz3 hb4.size; clear c3 d3 f3)
      | (go_at_call 12; (with_reducible refine (wear_any nm a L cap hd a2 M cap2 _ hL hM HR4.out HN4.out).mono ?_); rintro e w5 ⟨rfl, hb5⟩; rw [HP.out]; have hB5 := hB4.trans (hb5.mono hB4.size); have c5 := (hb5.cell (p := ⟨Br, 0, none⟩) hz4).trans c4; have d5 := (hb5.cell (p := ⟨Br, 1, none⟩) hz4).trans d4; have f5 := (hb5.cell (p := ⟨Br, 2, none⟩) hz4).trans f4; have HR5 := Lib.hid (HR4.out.grow hb5); have HN5 := Lib.hid (HN4.out.grow hb5); have hz5 : Br < w5.heap.size := Nat.lt_of_lt_of_le hz4 hb5.size; clear c4 d4 f4)
      | (go_at_call 13; (with_reducible refine (left_any worn most _).mono ?_); rintro e w6 ⟨rfl, hb6⟩; rw [HLA.out, HLB.out]; have hB6 := hB5.trans (hb6.mono hB5.size); have c6 := (hb6.cell (p := ⟨Br, 0, none⟩) hz5).trans c5; have d6 := (hb6.cell (p := ⟨Br, 1, none⟩) hz5).trans d5; have f6 := (hb6.cell (p := ⟨Br, 2, none⟩) hz5).trans f5; have HR6 := Lib.hid (HR5.out.grow hb6); have HN6 := Lib.hid (HN5.out.grow hb6); have hz6 : Br < w6.heap.size := Nat.lt_of_lt_of_le hz5 hb6.size; clear c5 d5 f5)
      | (go_at_call 14; (with_reducible refine (refbends_any nm a L cap hd _ hL HR6.out).mono ?_); rintro e w7 ⟨rfl, hb7⟩; rw [HB1.out, HB2.out]; have hB7 := hB6.trans (hb7.mono hB6.size); have c7 := (hb7.cell (p := ⟨Br, 0, none⟩) hz6).trans c6; have d7 := (hb7.cell (p := ⟨Br, 1, none⟩) hz6).trans d6; have f7 := (hb7.cell (p := ⟨Br, 2, none⟩) hz6).trans f6; have HR7 := Lib.hid (HR6.out.grow hb7); have HN7 := Lib.hid (HN6.out.grow hb7); clear c6 d6 f6)
      | (go_at_call 15; (with_reducible refine (refwear_any nm a L cap hd a2 M cap2 _ hL hM HR7.out HN7.out).mono ?_); rintro e w8 ⟨rfl, hb8⟩; rw [HP.out]; have hB8 := hB7.trans (hb8.mono hB7.size); have HN8 := Lib.hid (HN7.out.grow hb8))
      | (go_at_call 16; (with_reducible refine (refplaces_any a2 M cap2 _ _ hM HN8.out).mono ?_); rintro e w9 ⟨rfl, rfl⟩; rw [HE.out])
      | (go_at_call 17; (with_reducible refine (reftravel_any a2 M cap2 _ _ HE.out HN8.out).mono ?_); rintro e w10 ⟨rfl, hb10⟩; rw [HTP.out]; have hB10 := hB8.trans (hb10.mono hB8.size); have HN10 := Lib.hid (HN8.out.grow hb10))
      | (go_at_call 18; (with_reducible refine (refturns_any a2 M cap2 _ _ HE.out HN10.out).mono ?_); rintro e w11 ⟨rfl, hb11⟩; rw [HUP.out]; have hB11 := hB10.trans (hb11.mono hB10.size)))
    go_ret
    exact ⟨rfl, by first | exact hB11 | (rw [← HBr.out]; exact hB11) | (have hq := hB11; rw [← HBr.out] at hq; exact hq)⟩
  · go_enter Try.func3, Try.ntmps3
    go_upto_region 1 with (fail)
    have hW0 := below_new w (.cells #[.string nm, .slice a L.length cap, .bool hd] 24)
    have x0 : (w.alloc (.cells #[.string nm, .slice a L.length cap, .bool hd] 24)).cell? ⟨w.heap.size, 0, none⟩ = some (.string nm) := by simp
    have x1 : (w.alloc (.cells #[.string nm, .slice a L.length cap, .bool hd] 24)).cell? ⟨w.heap.size, 1, none⟩ = some (.slice a L.length cap) := by simp
    have x2 : (w.alloc (.cells #[.string nm, .slice a L.length cap, .bool hd] 24)).cell? ⟨w.heap.size, 2, none⟩ = some (.bool hd) := by simp
    have hz : w.heap.size < (w.alloc (.cells #[.string nm, .slice a L.length cap, .bool hd] 24)).heap.size := by simp
    obtain ⟨Br, hBr⟩ : ∃ b, w.heap.size = b := ⟨_, rfl⟩
    have HBr := Lib.hid hBr
    rw [hBr] at x0 x1 x2 hz
    simp only [hBr]
    generalize w.alloc (.cells #[.string nm, .slice a L.length cap, .bool hd] 24) = W0 at *
    clear hBr
    go_wp2_with (first
      | (go_at_call 7; (with_reducible refine (awake_any _).mono ?_); rintro e w1 ⟨rfl, hb1⟩; have hB1 := hW0.trans (hb1.mono hW0.size); have c1 := (hb1.cell (p := ⟨Br, 0, none⟩) hz).trans x0; have d1 := (hb1.cell (p := ⟨Br, 1, none⟩) hz).trans x1; have f1 := (hb1.cell (p := ⟨Br, 2, none⟩) hz).trans x2; have HR1 := Lib.hid (HR.out.grow hB1); have HN1 := Lib.hid (HN.out.grow hB1); have hz1 : Br < w1.heap.size := Nat.lt_of_lt_of_le hz hb1.size)
      | (go_at_call 8; (with_reducible refine (many_any _ _).mono ?_); rintro e w' ⟨rfl, rfl⟩; rw [HM.out])
      | (go_at_call 9; (with_reducible refine (bends_any nm a L cap hd _ hL HR1.out).mono ?_); rintro e w2 ⟨rfl, hb2⟩; rw [HB1.out, HB2.out]; have hB2 := hB1.trans (hb2.mono hB1.size); have c2 := (hb2.cell (p := ⟨Br, 0, none⟩) hz1).trans c1; have d2 := (hb2.cell (p := ⟨Br, 1, none⟩) hz1).trans d1; have f2 := (hb2.cell (p := ⟨Br, 2, none⟩) hz1).trans f1; have HR2 := Lib.hid (HR1.out.grow hb2); have HN2 := Lib.hid (HN1.out.grow hb2); have hz2 : Br < w2.heap.size := Nat.lt_of_lt_of_le hz1 hb2.size; clear c1 d1 f1)
      | (go_at_call 10; (with_reducible refine (travel_any a2 M cap2 _ hM HN2.out).mono ?_); rintro e w3 ⟨rfl, hb3⟩; rw [HE.out, if_pos rfl, HTP.out]; have hB3 := hB2.trans (hb3.mono hB2.size); have c3 := (hb3.cell (p := ⟨Br, 0, none⟩) hz2).trans c2; have d3 := (hb3.cell (p := ⟨Br, 1, none⟩) hz2).trans d2; have f3 := (hb3.cell (p := ⟨Br, 2, none⟩) hz2).trans f2; have HR3 := Lib.hid (HR2.out.grow hb3); have HN3 := Lib.hid (HN2.out.grow hb3); have hz3 : Br < w3.heap.size := Nat.lt_of_lt_of_le hz2 hb3.size; clear c2 d2 f2)
      | (go_at_call 11; (with_reducible refine (turns_any a2 M cap2 _ hM HN3.out).mono ?_); rintro e w4 ⟨rfl, hb4⟩; rw [HE.out, if_pos rfl, HUP.out]; have hB4 := hB3.trans (hb4.mono hB3.size); have c4 := (hb4.cell (p := ⟨Br, 0, none⟩) hz3).trans c3; have d4 := (hb4.cell (p := ⟨Br, 1, none⟩) hz3).trans d3; have f4 := (hb4.cell (p := ⟨Br, 2, none⟩) hz3).trans f3; have HR4 := Lib.hid (HR3.out.grow hb4); have HN4 := Lib.hid (HN3.out.grow hb4); have hz4 : Br < w4.heap.size := Nat.lt_of_lt_of_le hz3 hb4.size; clear c3 d3 f3)
      | (go_at_call 12; (with_reducible refine (wear_any nm a L cap hd a2 M cap2 _ hL hM HR4.out HN4.out).mono ?_); rintro e w5 ⟨rfl, hb5⟩; rw [HP.out]; have hB5 := hB4.trans (hb5.mono hB4.size); have c5 := (hb5.cell (p := ⟨Br, 0, none⟩) hz4).trans c4; have d5 := (hb5.cell (p := ⟨Br, 1, none⟩) hz4).trans d4; have f5 := (hb5.cell (p := ⟨Br, 2, none⟩) hz4).trans f4; have HR5 := Lib.hid (HR4.out.grow hb5); have HN5 := Lib.hid (HN4.out.grow hb5); have hz5 : Br < w5.heap.size := Nat.lt_of_lt_of_le hz4 hb5.size; clear c4 d4 f4)
      | (go_at_call 13; (with_reducible refine (left_any worn most _).mono ?_); rintro e w6 ⟨rfl, hb6⟩; rw [HLA.out, HLB.out]; have hB6 := hB5.trans (hb6.mono hB5.size); have c6 := (hb6.cell (p := ⟨Br, 0, none⟩) hz5).trans c5; have d6 := (hb6.cell (p := ⟨Br, 1, none⟩) hz5).trans d5; have f6 := (hb6.cell (p := ⟨Br, 2, none⟩) hz5).trans f5; have HR6 := Lib.hid (HR5.out.grow hb6); have HN6 := Lib.hid (HN5.out.grow hb6); have hz6 : Br < w6.heap.size := Nat.lt_of_lt_of_le hz5 hb6.size; clear c5 d5 f5)
      | (go_at_call 14; (with_reducible refine (refbends_any nm a L cap hd _ hL HR6.out).mono ?_); rintro e w7 ⟨rfl, hb7⟩; rw [HB1.out, HB2.out]; have hB7 := hB6.trans (hb7.mono hB6.size); have c7 := (hb7.cell (p := ⟨Br, 0, none⟩) hz6).trans c6; have d7 := (hb7.cell (p := ⟨Br, 1, none⟩) hz6).trans d6; have f7 := (hb7.cell (p := ⟨Br, 2, none⟩) hz6).trans f6; have HR7 := Lib.hid (HR6.out.grow hb7); have HN7 := Lib.hid (HN6.out.grow hb7); clear c6 d6 f6)
      | (go_at_call 15; (with_reducible refine (refwear_any nm a L cap hd a2 M cap2 _ hL hM HR7.out HN7.out).mono ?_); rintro e w8 ⟨rfl, hb8⟩; rw [HP.out]; have hB8 := hB7.trans (hb8.mono hB7.size); have HN8 := Lib.hid (HN7.out.grow hb8))
      | (go_at_call 16; (with_reducible refine (refplaces_any a2 M cap2 _ _ hM HN8.out).mono ?_); rintro e w9 ⟨rfl, rfl⟩; rw [HE.out])
      | (go_at_call 17; (with_reducible refine (reftravel_any a2 M cap2 _ _ HE.out HN8.out).mono ?_); rintro e w10 ⟨rfl, hb10⟩; rw [HTP.out]; have hB10 := hB8.trans (hb10.mono hB8.size); have HN10 := Lib.hid (HN8.out.grow hb10))
      | (go_at_call 18; (with_reducible refine (refturns_any a2 M cap2 _ _ HE.out HN10.out).mono ?_); rintro e w11 ⟨rfl, hb11⟩; rw [HUP.out]; have hB11 := hB10.trans (hb11.mono hB10.size)))
    go_ret
    exact ⟨rfl, by first | exact hB11 | (rw [← HBr.out]; exact hB11) | (have hq := hB11; rw [← HBr.out] at hq; exact hq)⟩
  · have z7 : (n == max 0 (most - worn)) = true := beq_iff_eq.2 hn
    go_enter Try.func3, Try.ntmps3
    go_upto_region 1 with (fail)
    have hW0 := below_new w (.cells #[.string nm, .slice a L.length cap, .bool hd] 24)
    have x0 : (w.alloc (.cells #[.string nm, .slice a L.length cap, .bool hd] 24)).cell? ⟨w.heap.size, 0, none⟩ = some (.string nm) := by simp
    have x1 : (w.alloc (.cells #[.string nm, .slice a L.length cap, .bool hd] 24)).cell? ⟨w.heap.size, 1, none⟩ = some (.slice a L.length cap) := by simp
    have x2 : (w.alloc (.cells #[.string nm, .slice a L.length cap, .bool hd] 24)).cell? ⟨w.heap.size, 2, none⟩ = some (.bool hd) := by simp
    have hz : w.heap.size < (w.alloc (.cells #[.string nm, .slice a L.length cap, .bool hd] 24)).heap.size := by simp
    obtain ⟨Br, hBr⟩ : ∃ b, w.heap.size = b := ⟨_, rfl⟩
    have HBr := Lib.hid hBr
    rw [hBr] at x0 x1 x2 hz
    simp only [hBr]
    generalize w.alloc (.cells #[.string nm, .slice a L.length cap, .bool hd] 24) = W0 at *
    clear hBr
    go_wp2_with (first
      | (go_at_call 7; (with_reducible refine (awake_any _).mono ?_); rintro e w1 ⟨rfl, hb1⟩; have hB1 := hW0.trans (hb1.mono hW0.size); have c1 := (hb1.cell (p := ⟨Br, 0, none⟩) hz).trans x0; have d1 := (hb1.cell (p := ⟨Br, 1, none⟩) hz).trans x1; have f1 := (hb1.cell (p := ⟨Br, 2, none⟩) hz).trans x2; have HR1 := Lib.hid (HR.out.grow hB1); have HN1 := Lib.hid (HN.out.grow hB1); have hz1 : Br < w1.heap.size := Nat.lt_of_lt_of_le hz hb1.size)
      | (go_at_call 8; (with_reducible refine (many_any _ _).mono ?_); rintro e w' ⟨rfl, rfl⟩; rw [HM.out])
      | (go_at_call 9; (with_reducible refine (bends_any nm a L cap hd _ hL HR1.out).mono ?_); rintro e w2 ⟨rfl, hb2⟩; rw [HB1.out, HB2.out]; have hB2 := hB1.trans (hb2.mono hB1.size); have c2 := (hb2.cell (p := ⟨Br, 0, none⟩) hz1).trans c1; have d2 := (hb2.cell (p := ⟨Br, 1, none⟩) hz1).trans d1; have f2 := (hb2.cell (p := ⟨Br, 2, none⟩) hz1).trans f1; have HR2 := Lib.hid (HR1.out.grow hb2); have HN2 := Lib.hid (HN1.out.grow hb2); have hz2 : Br < w2.heap.size := Nat.lt_of_lt_of_le hz1 hb2.size; clear c1 d1 f1)
      | (go_at_call 10; (with_reducible refine (travel_any a2 M cap2 _ hM HN2.out).mono ?_); rintro e w3 ⟨rfl, hb3⟩; rw [HE.out, if_pos rfl, HTP.out]; have hB3 := hB2.trans (hb3.mono hB2.size); have c3 := (hb3.cell (p := ⟨Br, 0, none⟩) hz2).trans c2; have d3 := (hb3.cell (p := ⟨Br, 1, none⟩) hz2).trans d2; have f3 := (hb3.cell (p := ⟨Br, 2, none⟩) hz2).trans f2; have HR3 := Lib.hid (HR2.out.grow hb3); have HN3 := Lib.hid (HN2.out.grow hb3); have hz3 : Br < w3.heap.size := Nat.lt_of_lt_of_le hz2 hb3.size; clear c2 d2 f2)
      | (go_at_call 11; (with_reducible refine (turns_any a2 M cap2 _ hM HN3.out).mono ?_); rintro e w4 ⟨rfl, hb4⟩; rw [HE.out, if_pos rfl, HUP.out]; have hB4 := hB3.trans (hb4.mono hB3.size); have c4 := (hb4.cell (p := ⟨Br, 0, none⟩) hz3).trans c3; have d4 := (hb4.cell (p := ⟨Br, 1, none⟩) hz3).trans d3; have f4 := (hb4.cell (p := ⟨Br, 2, none⟩) hz3).trans f3; have HR4 := Lib.hid (HR3.out.grow hb4); have HN4 := Lib.hid (HN3.out.grow hb4); have hz4 : Br < w4.heap.size := Nat.lt_of_lt_of_le hz3 hb4.size; clear c3 d3 f3)
      | (go_at_call 12; (with_reducible refine (wear_any nm a L cap hd a2 M cap2 _ hL hM HR4.out HN4.out).mono ?_); rintro e w5 ⟨rfl, hb5⟩; rw [HP.out]; have hB5 := hB4.trans (hb5.mono hB4.size); have c5 := (hb5.cell (p := ⟨Br, 0, none⟩) hz4).trans c4; have d5 := (hb5.cell (p := ⟨Br, 1, none⟩) hz4).trans d4; have f5 := (hb5.cell (p := ⟨Br, 2, none⟩) hz4).trans f4; have HR5 := Lib.hid (HR4.out.grow hb5); have HN5 := Lib.hid (HN4.out.grow hb5); have hz5 : Br < w5.heap.size := Nat.lt_of_lt_of_le hz4 hb5.size; clear c4 d4 f4)
      | (go_at_call 13; (with_reducible refine (left_any worn most _).mono ?_); rintro e w6 ⟨rfl, hb6⟩; rw [HLA.out, HLB.out]; have hB6 := hB5.trans (hb6.mono hB5.size); have c6 := (hb6.cell (p := ⟨Br, 0, none⟩) hz5).trans c5; have d6 := (hb6.cell (p := ⟨Br, 1, none⟩) hz5).trans d5; have f6 := (hb6.cell (p := ⟨Br, 2, none⟩) hz5).trans f5; have HR6 := Lib.hid (HR5.out.grow hb6); have HN6 := Lib.hid (HN5.out.grow hb6); have hz6 : Br < w6.heap.size := Nat.lt_of_lt_of_le hz5 hb6.size; clear c5 d5 f5)
      | (go_at_call 14; (with_reducible refine (refbends_any nm a L cap hd _ hL HR6.out).mono ?_); rintro e w7 ⟨rfl, hb7⟩; rw [HB1.out, HB2.out]; have hB7 := hB6.trans (hb7.mono hB6.size); have c7 := (hb7.cell (p := ⟨Br, 0, none⟩) hz6).trans c6; have d7 := (hb7.cell (p := ⟨Br, 1, none⟩) hz6).trans d6; have f7 := (hb7.cell (p := ⟨Br, 2, none⟩) hz6).trans f6; have HR7 := Lib.hid (HR6.out.grow hb7); have HN7 := Lib.hid (HN6.out.grow hb7); clear c6 d6 f6)
      | (go_at_call 15; (with_reducible refine (refwear_any nm a L cap hd a2 M cap2 _ hL hM HR7.out HN7.out).mono ?_); rintro e w8 ⟨rfl, hb8⟩; rw [HP.out]; have hB8 := hB7.trans (hb8.mono hB7.size); have HN8 := Lib.hid (HN7.out.grow hb8))
      | (go_at_call 16; (with_reducible refine (refplaces_any a2 M cap2 _ _ hM HN8.out).mono ?_); rintro e w9 ⟨rfl, rfl⟩; rw [HE.out])
      | (go_at_call 17; (with_reducible refine (reftravel_any a2 M cap2 _ _ HE.out HN8.out).mono ?_); rintro e w10 ⟨rfl, hb10⟩; rw [HTP.out]; have hB10 := hB8.trans (hb10.mono hB8.size); have HN10 := Lib.hid (HN8.out.grow hb10))
      | (go_at_call 18; (with_reducible refine (refturns_any a2 M cap2 _ _ HE.out HN10.out).mono ?_); rintro e w11 ⟨rfl, hb11⟩; rw [HUP.out]; have hB11 := hB10.trans (hb11.mono hB10.size)))
    go_ret
    exact ⟨rfl, by first | exact hB11 | (rw [← HBr.out]; exact hB11) | (have hq := hB11; rw [← HBr.out] at hq; exact hq)⟩
theorem ways_law (nm : ByteArray) (a : Option Addr) (L : List HoldR) (cap : Nat) (hd : Bool) (a2 : Option Addr) (M : List Int) (cap2 : Nat) (worn most : Int) (w : World) (hR : Holds w.heap.size w a L) (hN : Nums w.heap.size w a2 M) :
    Calls Try.prog 3 #[.agg #[.string nm, .slice a L.length cap, .bool hd], .slice a2 M.length cap2, .int .i64 worn, .int .i64 most] w fun e w' => e = .returned (.bool true) ∧ Below w.heap.size w w' := by
  by_cases hl : 13 < L.length
  · exact ways_far nm a L cap hd a2 M cap2 worn most w hR hN hl
  · cases hm : manyB M.length
    · by_cases he : placesE M = 0
      · exact ways_good nm a L cap hd a2 M cap2 worn most w hR hN (by omega) hm he
      · exact ways_bad nm a L cap hd a2 M cap2 worn most w hR hN (by omega) hm he
    · exact ways_many nm a L cap hd a2 M cap2 worn most w hR hN (by omega) hm
end Go.Proofs.Ytfllfabinfmogaa
