/-
  THE WALK of the law WearBetween.
-/
import Derived.Test.YtfllfabinfmogaaAwake
import Derived.Test.YtfllfabinfmogaaRefA
import Derived.Test.YtfllfabinfmogaaInsert
import Derived.BigQuiet
namespace Go.Proofs.Ytfllfabinfmogaa
open Go.RowKit Go.Shelf
/-- slices.Clone at numbers: a row of the call's own. -/
theorem clone_own {a : Option Addr} {L : List Int} {cap : Nat} {w : World} (hl : L.length ≤ 1000) (h0 : 0 < L.length) (h : Nums w.heap.size w a L) :
    Calls Try.prog 26 #[.slice a L.length cap] w fun e w' => Hid (∃ g c, e = .returned (.slice (some ⟨g, 0, none⟩) L.length c) ∧ w'.ownsRow w.heap.size 3 1 (.slice (some ⟨g, 0, none⟩) L.length c) L.length (nflat L)) ∧ Below w.heap.size w w' := by
  obtain ⟨b, off, rfl, hb, hc⟩ := h h0
  refine (Try.slices_Clone_int b off L.length cap L w (Nat.le_refl _) (by omega) (fun j hj => ?_)).mono fun e w' ⟨v, he, ho, _, hB⟩ => ⟨Lib.hid ?_, hB⟩
  · have := hc j hj
    rw [this]
    unfold ig
    rw [List.getD_eq_getElem?_getD]
  · rw [List.take_of_length_le (Nat.le_refl _), ← nflat_map] at ho
    rcases ho.2 with ⟨e0, z⟩ | ⟨g, c, cur, e0, _⟩
    · omega
    · subst e0
      exact ⟨g, c, he, ho⟩
theorem shape_new (w : World) (v : Value) (t : TypeId) : (w.alloc (.cells #[v] t)).shape? w.heap.size = some (t, 1) ∧ (w.alloc (.cells #[v] t)).cell? ⟨w.heap.size, 0, none⟩ = some v ∧ ∀ j, (w.alloc (.cells #[v] t)).frozen? ⟨w.heap.size, j, none⟩ = false := by
  refine ⟨?_, by simp, fun j => ?_⟩
  · unfold World.shape? World.alloc
    simp
  · unfold World.frozen? World.alloc
    simp
set_option maxRecDepth 100000 in
set_option maxHeartbeats 8000000 in
theorem lawbetween_law (a : Option Addr) (L : List Int) (cap : Nat) (k p : Int) (k0 : 0 ≤ k) (k1 : k ≤ 65535) (p0 : 0 ≤ p) (p1 : p ≤ 65535) (w : World) (hcap : L.length ≤ 9223372036854775807) (h : Nums w.heap.size w a L) :
    Calls Try.prog 6 #[.slice a L.length cap, .int .u16 k, .int .u16 p] w fun e w' => e = .returned (.bool true) ∧ Below w.heap.size w w' := by
  have HS := Lib.hid h
  clear h
  by_cases c1 : 60 < (L.length : Int)
  · have q1 := decide_eq_true c1
    clear c1
    go_enter Try.func6, Try.ntmps6
    go_wp2_with (go_at_call 7; (with_reducible refine (awake_any _).mono ?_); rintro e w1 ⟨rfl, hb1⟩)
    go_ret
    exact ⟨rfl, hb1⟩
  · have q1 := decide_eq_false c1
    by_cases c2 : (L.length : Int) < 2
    · have q2 := decide_eq_true c2
      clear c1 c2
      go_enter Try.func6, Try.ntmps6
      go_wp2_with (go_at_call 7; (with_reducible refine (awake_any _).mono ?_); rintro e w1 ⟨rfl, hb1⟩)
      go_ret
      exact ⟨rfl, hb1⟩
    · have q2 := decide_eq_false c2
      by_cases c3 : placesE L = 0
      · have HP3 := Lib.hid c3
        have ok : ∀ j, j < L.length → 0 ≤ ig L j ∧ ig L j ≤ 1048576 := fun j hj => by
          have e := c3
          unfold placesE at e
          rw [if_neg (by omega)] at e
          have : placeBad (ig L j) = false := by
            cases c : placeBad (ig L j)
            · rfl
            · rw [if_pos (List.any_eq_true.2 ⟨ig L j, by rw [ig_eq L j hj]; exact List.getElem_mem hj, c⟩)] at e; cases e
          unfold placeBad at this
          simp only [Bool.or_eq_false_iff, decide_eq_false_iff_not] at this
          omega
        obtain ⟨i, hi⟩ : ∃ i : Nat, k.tmod ((L.length : Int) - 1) = (i : Int) := ⟨(k.tmod ((L.length : Int) - 1)).toNat, by
          have := Int.tmod_nonneg ((L.length : Int) - 1) k0
          omega⟩
        have hil : i + 1 < L.length := by
          have := Int.tmod_lt_of_pos k (show 0 < (L.length : Int) - 1 by omega)
          omega
        obtain ⟨A, hA⟩ : ∃ A, ig L i = A := ⟨_, rfl⟩
        obtain ⟨B, hB⟩ : ∃ B, ig L (i + 1) = B := ⟨_, rfl⟩
        have oA := ok i (by omega)
        have oB := ok (i + 1) hil
        rw [hA] at oA
        rw [hB] at oB
        have sm := bet_small oA oB p0 p1
        have bt := part_btw (a := A) (b := B) p0 p1
        obtain ⟨x, hx⟩ : ∃ x, A + ((B - A) * p).tdiv 65535 = x := ⟨_, rfl⟩
        obtain ⟨y, hy⟩ : ∃ y, ((B - A) * p).tdiv 65535 = y := ⟨_, rfl⟩
        rw [hx] at bt
        have bt' := bt
        have xr : 0 ≤ x ∧ x ≤ 1048576 := by unfold Btw at bt; omega
        rw [← hA, ← hB] at bt'
        have yr : y = x - A := by omega
        have il : (insL L (i + 1) x).length = L.length + 1 := ins_len (by omega)
        have tv := travelP_ins hil bt'
        have tu := turnsP_ins hil bt'
        have pl := ins_places (by omega) hil bt' c3
        have ub := turnsP_bd (L := L) (by omega)
        have ta := travelP_away (L := L)
        obtain ⟨T, hT⟩ : ∃ T, travelP L = T := ⟨_, rfl⟩
        obtain ⟨U, hU⟩ : ∃ U, turnsP L = U := ⟨_, rfl⟩
        obtain ⟨Z, hZ⟩ : ∃ Z, ig L (L.length - 1) = Z := ⟨_, rfl⟩
        obtain ⟨Y, hY⟩ : ∃ Y, ig L 0 = Y := ⟨_, rfl⟩
        have oZ := ok (L.length - 1) (by omega)
        have oY := ok 0 (by omega)
        rw [hT] at ta tv
        rw [hU] at ub tu
        rw [hZ, hY] at ta
        rw [hZ] at oZ
        rw [hY] at oY
        have HTL : Hid (∀ (w : World), Nums w.heap.size w a L → Calls Try.prog 10 #[.slice a L.length cap] w fun e w' => e = .returned (.tuple #[.int .i64 T, .int .i64 0]) ∧ Below w.heap.size w w') := Lib.hid fun w h => by
          have := travel_any a L cap w (by omega) h
          rwa [HP3.out, if_pos rfl, hT] at this
        have HTM : Hid (∀ (a : Option Addr) (c : Nat) (w : World), Nums w.heap.size w a (insL L (i + 1) x) → Calls Try.prog 10 #[.slice a (L.length + 1) c] w fun e w' => e = .returned (.tuple #[.int .i64 T, .int .i64 0]) ∧ Below w.heap.size w w') := Lib.hid fun a c w h => by
          have := travel_any a (insL L (i + 1) x) c w (by omega) h
          rwa [pl, if_pos rfl, tv, il] at this
        have HUL : Hid (∀ (w : World), Nums w.heap.size w a L → Calls Try.prog 11 #[.slice a L.length cap] w fun e w' => e = .returned (.tuple #[.int .i64 U, .int .i64 0]) ∧ Below w.heap.size w w') := Lib.hid fun w h => by
          have := turns_any a L cap w (by omega) h
          rwa [HP3.out, if_pos rfl, hU] at this
        have HUM : Hid (∀ (a : Option Addr) (c : Nat) (w : World), Nums w.heap.size w a (insL L (i + 1) x) → Calls Try.prog 11 #[.slice a (L.length + 1) c] w fun e w' => e = .returned (.tuple #[.int .i64 U, .int .i64 0]) ∧ Below w.heap.size w w') := Lib.hid fun a c w h => by
          have := turns_any a (insL L (i + 1) x) c w (by omega) h
          rwa [pl, if_pos rfl, tu, il] at this
        have HIN : Hid (∀ (g c : Nat) (w : World) (base : Nat), base ≤ w.heap.size → w.ownsRow base 3 1 (.slice (some ⟨g, 0, none⟩) L.length c) L.length (nflat L) → Calls Try.prog 25 #[.slice (some ⟨g, 0, none⟩) L.length c, .int .i64 ((i : Int) + 1), .slice (some ⟨w.heap.size, 0, none⟩) 1 1] (w.alloc (.cells #[.int .i64 x] 3)) fun e w' => Hid (∃ a c, e = .returned (.slice a (L.length + 1) c) ∧ Nums w'.heap.size w' a (insL L (i + 1) x)) ∧ Below base (w.alloc (.cells #[.int .i64 x] 3)) w') := Lib.hid fun g c w base hbw ho => by
          obtain ⟨s1, s2, s3⟩ := shape_new w (.int .i64 x) 3
          obtain ⟨cur, _, hg, _⟩ := row_block ho
          have hlt := (Array.getElem?_eq_some_iff.1 hg).1
          exact num_ins (ho.alloc _) hil (by omega) (by omega) s2 s1 s3
        have HCL : Hid (∀ w' : World, Below w.heap.size w w' → Calls Try.prog 26 #[.slice a L.length cap] w' fun e w2 => Hid (∃ g c, e = .returned (.slice (some ⟨g, 0, none⟩) L.length c) ∧ w2.ownsRow w'.heap.size 3 1 (.slice (some ⟨g, 0, none⟩) L.length c) L.length (nflat L)) ∧ Below w'.heap.size w' w2) := Lib.hid fun w' hb => clone_own (by omega) (by omega) (HS.out.grow hb)
        have HR : Hid (∀ w' : World, Below w.heap.size w w' → Calls Try.prog 16 #[.slice a L.length cap] w' fun e w2 => e = .returned (.int .i64 0) ∧ w' = w2) := Lib.hid fun w' hb => by
          have := refplaces_any a L cap w'.heap.size w' (by omega) (HS.out.grow hb)
          rwa [HP3.out] at this
        obtain ⟨b, off, rfl, hb, hc⟩ := HS.out (by omega)
        have cA := hc i (by omega)
        have cB := hc (i + 1) hil
        have cZ := hc (L.length - 1) (by omega)
        have cY := hc 0 (by omega)
        rw [hA] at cA
        rw [hB] at cB
        rw [hZ] at cZ
        rw [hY] at cY
        have HCA := Lib.hid cA
        have HCB := Lib.hid cB
        have HCZ := Lib.hid cZ
        have HCY := Lib.hid cY
        have f1 : IntKind.i64.wrap k = k := IntWalk.i64_in _ (by omega)
        have f2 : IntKind.i64.wrap ((L.length : Int) - 1) = (L.length : Int) - 1 := IntWalk.i64_in _ (by omega)
        have f3 : ¬ ((L.length : Int) - 1 = 0) := by omega
        have f4 : IntKind.i64.wrap (i : Int) = (i : Int) := IntWalk.i64_in _ (by omega)
        have f5 : IntKind.i64.wrap ((i : Int) + 1) = (i : Int) + 1 := IntWalk.i64_in _ (by omega)
        have f6 : (0 : Int) ≤ (i : Int) := by omega
        have f7 : (i : Int) < (L.length : Int) := by omega
        have f8 : (0 : Int) ≤ (i : Int) + 1 := by omega
        have f9 : (i : Int) + 1 < (L.length : Int) := by omega
        have f10 : ((i : Int) + 1).toNat = i + 1 := by omega
        have f11 : IntKind.i64.wrap (B - A) = B - A := IntWalk.i64_in _ (by omega)
        have f12 : IntKind.i64.wrap p = p := IntWalk.i64_in _ (by omega)
        have f13 : IntKind.i64.wrap ((B - A) * p) = (B - A) * p := IntWalk.i64_in _ (by omega)
        have f14 : IntKind.i64.wrap y = y := IntWalk.i64_in _ (by omega)
        have f15 : IntKind.i64.wrap (A + y) = x := (IntWalk.i64_in _ (by omega)).trans (by omega)
        have f16 : (0 : Int) ≤ (L.length : Int) - 1 := by omega
        have f17 : (L.length : Int) - 1 < (L.length : Int) := by omega
        have f18 : ((L.length : Int) - 1).toNat = L.length - 1 := by omega
        have f19 : IntKind.i64.wrap (Z - Y) = Z - Y := IntWalk.i64_in _ (by omega)
        have f20 : (0 : Int) < (L.length : Int) := by omega
        have f21 : IntKind.i64.wrap (-(Z - Y)) = -(Z - Y) := IntWalk.i64_in _ (by omega)
        have f22 : IntKind.i64.wrap ((L.length : Int) - 2) = (L.length : Int) - 2 := IntWalk.i64_in _ (by omega)
        have g1 : decide (max (Z - Y) (-(Z - Y)) ≤ T) = true := decide_eq_true ta
        have g2 : decide (0 ≤ U) = true := decide_eq_true ub.1
        have g3 : decide (U ≤ (L.length : Int) - 2) = true := decide_eq_true ub.2
        have r1 : (T == T) = true := by simp
        have r2 : (U == U) = true := by simp
        have HX := Lib.hid hx
        clear hx hA hB hZ hY hT hU ok oA oB sm bt bt' xr yr tv tu pl ub ta oZ oY c1 c2 c3 cA cB cZ cY hc hcap k0 k1 p0 p1 HP3 HX hil il
        go_enter Try.func6, Try.ntmps6
        go_upto_region 6 with (first
          | (go_at_call 7; (with_reducible refine (awake_any _).mono ?_); rintro e w1 ⟨rfl, hb1⟩)
          | (go_at_call 16; (with_reducible refine (HR.out _ hb1).mono ?_); rintro e w2 ⟨rfl, rfl⟩))
        have c1 := (hb1.cell (p := ⟨b, _, none⟩) hb).trans HCA.out
        have c2 := (hb1.cell (p := ⟨b, _, none⟩) hb).trans HCB.out
        go_quiet (fail)
        clear c1 c2
        have hB1 := below_drewN hb1 nq
        clear hb1
        generalize w1.drewN nq = W1 at *
        go_upto_region 9 with (first
          | (go_at_call 26; (with_reducible refine (HCL.out _ hB1).mono ?_); rintro e w3 ⟨hx3, hb3⟩; obtain ⟨g, c, rfl, hrow⟩ := hx3.out)
          | (go_at_call 25; (with_reducible refine (HIN.out _ _ _ _ hb3.size hrow).mono ?_); rintro e w4 ⟨hx4, hb4⟩; obtain ⟨a', c', rfl, hM⟩ := hx4.out))
        have hB4 : Below w.heap.size w w4 := (((hB1.trans (hb3.mono hB1.size)).alloc (Nat.le_trans hB1.size hb3.size) _).trans (hb4.mono hB1.size))
        have HM := Lib.hid hM
        clear hx3 hx4 hrow hM hb3 hb4 hB1 HCL HIN
        go_upto_region 10 with (go_at_call 10; (with_reducible refine (HTL.out _ (HS.out.grow hB4)).mono ?_); rintro e w5 ⟨rfl, hb5⟩)
        have hB5 := hB4.trans (hb5.mono hB4.size)
        replace HM := Lib.hid (HM.out.grow hb5)
        clear hB4 hb5
        go_upto_region 11 with (go_at_call 10; (with_reducible refine (HTM.out _ _ _ HM.out).mono ?_); rintro e w6 ⟨rfl, hb6⟩)
        have hB6 := hB5.trans (hb6.mono hB5.size)
        replace HM := Lib.hid (HM.out.grow hb6)
        clear hB5 hb6
        go_upto_region 12 with (go_at_call 11; (with_reducible refine (HUL.out _ (HS.out.grow hB6)).mono ?_); rintro e w7 ⟨rfl, hb7⟩)
        have hB7 := hB6.trans (hb7.mono hB6.size)
        replace HM := Lib.hid (HM.out.grow hb7)
        clear hB6 hb7
        go_upto_region 13 with (go_at_call 11; (with_reducible refine (HUM.out _ _ _ HM.out).mono ?_); rintro e w8 ⟨rfl, hb8⟩)
        have hB8 := hB7.trans (hb8.mono hB7.size)
        clear hB7 hb8 HM
        have c1 := (hB8.cell (p := ⟨b, _, none⟩) hb).trans HCZ.out
        have c2 := (hB8.cell (p := ⟨b, _, none⟩) hb).trans HCY.out
        try simp only [Nat.add_zero] at c2
        go_quiet (fail)
        go_wp2_with fail
        go_ret
        exact ⟨rfl, below_drewN hB8 _⟩
      · have q3 : (placesE L != 0) = true := by simpa using c3
        have HR : Hid (∀ w' : World, Below w.heap.size w w' → Calls Try.prog 16 #[.slice a L.length cap] w' fun e w2 => e = .returned (.int .i64 (placesE L)) ∧ w' = w2) := Lib.hid fun w' hb => refplaces_any a L cap w'.heap.size w' (by omega) (HS.out.grow hb)
        clear c1 c2 c3
        go_enter Try.func6, Try.ntmps6
        go_wp2_with (first
          | (go_at_call 7; (with_reducible refine (awake_any _).mono ?_); rintro e w1 ⟨rfl, hb1⟩)
          | (go_at_call 16; (with_reducible refine (HR.out _ hb1).mono ?_); rintro e w2 ⟨rfl, rfl⟩))
        go_ret
        exact ⟨rfl, hb1⟩
end Go.Proofs.Ytfllfabinfmogaa
