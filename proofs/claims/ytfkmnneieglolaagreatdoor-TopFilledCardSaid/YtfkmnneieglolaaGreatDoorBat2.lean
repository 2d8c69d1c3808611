/-
  THE WALKS of batten.lines, batten.bricks, batten.items.
-/
import Derived.Test.YtfkmnneieglolaaGreatDoorBat1
namespace Go.Proofs.YtfkmnneieglolaaGreatDoor
open Go.RowKit Go.Shelf
attribute [local go_sem] Oper.semAt_some
theorem incr_of {f : Nat → Int} {n : Nat} (h : ∀ j, j + 1 < n → f j < f (j + 1)) : ∀ j, j < n → ∀ i, i < j → f i < f j
  | 0, _, i, hi => absurd hi (Nat.not_lt_zero _)
  | j + 1, hj, i, hi => by
    have h1 := h j hj
    rcases (show i < j ∨ i = j by omega) with l | l
    · have := incr_of h j (by omega) i l
      omega
    · subst l; exact h1
theorem lines_iff {L : List Int} {len : Int} : linesB L len = true ↔ (2 ≤ L.length ∧ L.length ≤ 10) ∧ 0 ≤ ig L 0 ∧ ig L (L.length - 1) ≤ len ∧ ∀ j, j + 1 < L.length → ig L j < ig L (j + 1) := by
  unfold linesB
  rw [Bool.and_eq_true, Bool.and_eq_true, betB_iff, List.all_eq_true, decide_eq_true_eq]
  constructor
  · rintro ⟨h1, h2, h3⟩
    have h4 : ∀ j, j < L.length → 0 ≤ ig L j ∧ ig L j ≤ len := fun j hj => by
      rw [ig_eq L j hj]
      exact betB_iff.1 (h2 _ (List.getElem_mem hj))
    refine ⟨by omega, (h4 0 (by omega)).1, (h4 _ (by omega)).2, fun j hj => ?_⟩
    rw [ig_eq L j (by omega), ig_eq L (j + 1) hj]
    exact List.pairwise_iff_getElem.1 h3 j (j + 1) _ _ (Nat.lt_succ_self _)
  · rintro ⟨h1, h2, h3, h4⟩
    have h5 := incr_of (f := ig L) h4
    refine ⟨by omega, fun x hx => ?_, ?_⟩
    · obtain ⟨j, hj, rfl⟩ := List.getElem_of_mem hx
      rw [← ig_eq L j hj, betB_iff]
      have a : ig L 0 ≤ ig L j := by
        rcases Nat.eq_zero_or_pos j with e | e
        · subst e; exact Int.le_refl _
        · have := h5 j hj 0 e; omega
      have b : ig L j ≤ ig L (L.length - 1) := by
        rcases (show j = L.length - 1 ∨ j < L.length - 1 by omega) with e | e
        · subst e; exact Int.le_refl _
        · have := h5 (L.length - 1) (by omega) j e; omega
      omega
    · rw [List.pairwise_iff_getElem]
      intro i j hi hj hij
      rw [← ig_eq L i hi, ← ig_eq L j hj]
      exact h5 j hj i hij
theorem lines_iff2 {L : List Int} {len : Int} : linesB L len = true ↔ betB L.length 2 10 = true ∧ ∀ j, j < L.length → betB (ig L j) 0 len = true ∧ (0 < j → ig L (j - 1) < ig L j) := by
  rw [betB_iff]
  constructor
  · intro h
    have h' := h
    unfold linesB at h'
    rw [Bool.and_eq_true, Bool.and_eq_true, betB_iff, List.all_eq_true] at h'
    obtain ⟨h1, _, _, h4⟩ := lines_iff.1 h
    refine ⟨h'.1, fun j hj => ⟨by rw [ig_eq L j hj]; exact h'.2.1 _ (List.getElem_mem hj), fun h0 => ?_⟩⟩
    have := h4 (j - 1) (by omega)
    rwa [show j - 1 + 1 = j by omega] at this
  · rintro ⟨h1, h2⟩
    refine lines_iff.2 ⟨by omega, (betB_iff.1 (h2 0 (by omega)).1).1, (betB_iff.1 (h2 (L.length - 1) (by omega)).1).2, fun j hj => ?_⟩
    have := (h2 (j + 1) hj).2 (by omega)
    rwa [show j + 1 - 1 = j by omega] at this
set_option maxRecDepth 100000 in
set_option maxHeartbeats 8000000 in
theorem lines_any (a : Option Addr) (L : List Int) (cap : Nat) (len : Int) (w : World) (h : Nums w.heap.size w a L) :
    Calls Tryz.prog 50 #[.slice a L.length cap, .int .i64 len] w fun e w' => e = .returned (.bool (linesB L len)) ∧ Below w.heap.size w w' := by
  have HL := Lib.hid h
  clear h
  obtain ⟨R, hR⟩ : ∃ R, linesB L len = R := ⟨_, rfl⟩
  have HI : Hid (R = true ↔ (2 ≤ L.length ∧ L.length ≤ 10) ∧ 0 ≤ ig L 0 ∧ ig L (L.length - 1) ≤ len ∧ ∀ j, j + 1 < L.length → ig L j < ig L (j + 1)) := Lib.hid (by rw [← hR]; exact lines_iff)
  rw [hR]
  clear hR
  cases hb : betB L.length 2 10
  · have HB := Lib.hid hb
    have HR : Hid (R = false) := Lib.hid (by
      rw [Bool.eq_false_iff]
      intro q
      have h1 := (HI.out.1 q).1
      rw [betB_iff.2 (by omega)] at hb
      cases hb)
    clear hb
    go_enter Tryz.func50, Tryz.ntmps50
    go_wp2_with (first
      | (go_at_call 49; (with_reducible refine (betw_any (L.length : Int) 2 10 _).mono ?_); rintro e w1 ⟨rfl, rfl⟩; rw [HB.out]))
    go_ret
    exact ⟨ret_bool HR.out.symm, Below.refl _ _⟩
  have HB := Lib.hid hb
  have hbd := betB_iff.1 hb
  obtain ⟨b, off, rfl, hlt, hc⟩ := HL.out (by omega)
  have HC := Lib.hid hc
  have HLT := Lib.hid hlt
  obtain ⟨m, hm⟩ : ∃ m, L.length - 1 = m := ⟨_, rfl⟩
  have e0 := hc 0 (by omega)
  rw [Nat.add_zero] at e0
  have eL := hc m (by omega)
  have z1 : (L.length : Int) - 1 = (m : Int) := by omega
  have z2 : (m : Int) < L.length := by omega
  have z3 : m < L.length := by omega
  rw [hm] at HI
  obtain ⟨x, hx⟩ : ∃ x, ig L 0 = x := ⟨_, rfl⟩
  obtain ⟨y, hy⟩ : ∃ y, ig L m = y := ⟨_, rfl⟩
  rw [hx] at e0 HI
  rw [hy] at eL HI
  clear hb hc hlt hm hx hy
  by_cases q1 : x < 0
  · have g1 : decide (x < 0) = true := decide_eq_true q1
    have HR : Hid (R = false) := Lib.hid (by
      rw [Bool.eq_false_iff]
      intro q
      have := (HI.out.1 q).2.1
      omega)
    clear q1
    go_enter Tryz.func50, Tryz.ntmps50
    go_wp2_with (first
      | (go_at_call 49; (with_reducible refine (betw_any (L.length : Int) 2 10 _).mono ?_); rintro e w1 ⟨rfl, rfl⟩; rw [HB.out]))
    go_ret
    exact ⟨ret_bool HR.out.symm, Below.refl _ _⟩
  have g1 : decide (x < 0) = false := decide_eq_false q1
  by_cases q2 : len < y
  · have g2 : decide (len < y) = true := decide_eq_true q2
    have HR : Hid (R = false) := Lib.hid (by
      rw [Bool.eq_false_iff]
      intro q
      have := (HI.out.1 q).2.2.1
      omega)
    clear q1 q2
    go_enter Tryz.func50, Tryz.ntmps50
    go_wp2_with (first
      | (go_at_call 49; (with_reducible refine (betw_any (L.length : Int) 2 10 _).mono ?_); rintro e w1 ⟨rfl, rfl⟩; rw [HB.out]))
    go_ret
    exact ⟨ret_bool HR.out.symm, Below.refl _ _⟩
  have g2 : decide (len < y) = false := decide_eq_false q2
  have HI2 : Hid (R = true ↔ ∀ j, j + 1 < L.length → ig L j < ig L (j + 1)) := Lib.hid (by
    rw [HI.out]
    exact ⟨fun h => h.2.2.2, fun h => ⟨by omega, by omega, by omega, h⟩⟩)
  clear q1 q2 HI
  go_enter Tryz.func50, Tryz.ntmps50
  go_wp2_with (first
    | (go_at_call 49; (with_reducible refine (betw_any (L.length : Int) 2 10 _).mono ?_); rintro e w1 ⟨rfl, rfl⟩; rw [HB.out]))
  clear g1 g2 z1 z2 z3 e0 eL
  go_loopw [5] (fun v wr => ∃ k : Nat, 1 ≤ k ∧ k ≤ L.length ∧ v = .int .i64 k ∧ Hid (∀ j, j + 1 < k → ig L j < ig L (j + 1)) ∧ Below w.heap.size w wr) (fun v _ => L.length - (intOf v).toNat)
  case atStart => exact ⟨1, Nat.le_refl _, by omega, rfl, Lib.hid (fun j hj => by omega), Below.refl _ _⟩
  case round =>
    obtain ⟨k, hk1, hk, rfl, HA, hBB⟩ := hrel
    by_cases hlt : k < L.length
    · obtain ⟨q, hq⟩ : ∃ q, k - 1 = q := ⟨_, rfl⟩
      have e1 := (hBB.cell (p := ⟨b, off + k, none⟩) HLT.out).trans (HC.out k hlt)
      have e2 := (hBB.cell (p := ⟨b, off + q, none⟩) HLT.out).trans (HC.out q (by omega))
      have hkq : k = q + 1 := by omega
      have HD : Hid (∀ p : Prop, (ig L q < ig L k → p) → (∀ j, j + 1 < k → ig L j < ig L (j + 1)) → p ∨ ¬ ig L q < ig L k) := Lib.hid fun p h _ => by
        by_cases c : ig L q < ig L k
        · exact .inl (h c)
        · exact .inr c
      have HN : Hid (ig L q < ig L k → ∀ j, j + 1 < k + 1 → ig L j < ig L (j + 1)) := Lib.hid fun h j hj => by
        rcases (show j + 1 < k ∨ j = q by omega) with l | l
        · exact HA.out j l
        · subst l; rw [← hkq]; exact h
      have HX : Hid (¬ ig L q < ig L k → R = false) := Lib.hid fun h => by
        rw [Bool.eq_false_iff]
        intro r
        have := HI2.out.1 r q (by omega)
        rw [← hkq] at this
        exact h this
      have z5 : (k : Int) - 1 = (q : Int) := by omega
      have z6 : (q : Int) < L.length := by omega
      have z7 : q < L.length := by omega
      have z8 : IntKind.i64.wrap ((k : Int) - 1) = (q : Int) := by rw [z5]; exact IntWalk.i64_in _ (by omega)
      have z9 : (k : Int) < L.length := by omega
      generalize ig L q = y' at *
      generalize ig L k = x' at *
      clear hq hkq HD
      by_cases c : y' < x'
      · have g3 : decide (x' ≤ y') = false := decide_eq_false (by omega)
        have HN2 := Lib.hid (HN.out c)
        clear c
        go_wp2_with (go_quiet (fail))
        go_roundw
        case rel => exact ⟨k + 1, by omega, by omega, by go_num, HN2, below_drewN hBB _⟩
        case measure => simp [intOf]; omega
      · have g3 : decide (x' ≤ y') = true := decide_eq_true (by omega)
        have HR := Lib.hid (HX.out c)
        clear c
        go_wp2_with (go_quiet (fail))
        go_ret
        exact ⟨ret_bool HR.out.symm, below_drewN hBB _⟩
    · obtain rfl : k = L.length := by omega
      have HR : Hid (R = true) := Lib.hid (HI2.out.2 HA.out)
      go_wp2_with fail
      go_ret
      exact ⟨ret_bool HR.out.symm, hBB⟩
theorem okTo_iff {L : List BrickR} : ∀ {k : Nat}, k ≤ L.length → (okTo L k = true ↔ (∀ j, j < k → brick1 (bg L j) = true) ∧ ((L.take k).map (·.name)).Nodup)
  | 0, _ => by simp [okTo]
  | k + 1, hk => by
    have ih := okTo_iff (L := L) (k := k) (by omega)
    rw [brick_names_next L (show k < L.length by omega), List.nodup_append]
    simp only [okTo, Bool.and_eq_true, ih]
    unfold brickK
    rw [Bool.and_eq_true, Bool.not_eq_true', brick_any_eq, Bool.eq_false_iff, Ne, List.any_eq_true]
    constructor
    · rintro ⟨⟨a, b⟩, c, d⟩
      refine ⟨fun j hj => ?_, b, by simp, fun x hx y hy => ?_⟩
      · rcases (show j < k ∨ j = k by omega) with l | l
        · exact a j l
        · subst l; exact c
      · rw [List.mem_singleton] at hy
        subst hy
        intro e
        apply d
        rw [List.mem_map] at hx
        obtain ⟨r, hr, e2⟩ := hx
        exact ⟨r, hr, by unfold sameN; rw [e2, e]; exact decide_eq_true rfl⟩
    · rintro ⟨a, b, _, d⟩
      refine ⟨⟨fun j hj => a j (by omega), b⟩, a k (by omega), ?_⟩
      rintro ⟨r, hr, e⟩
      unfold sameN at e
      rw [decide_eq_true_eq] at e
      exact d r.name (List.mem_map.2 ⟨r, hr, rfl⟩) (bg L k).name (List.mem_singleton.2 rfl) e
theorem brickB_iff {L : List BrickR} : brickB L = true ↔ L.length ≤ 8 ∧ (L.map (·.name)).Nodup ∧ (∀ j, j < L.length → brick1 (bg L j) = true) ∧ cntTo L L.length ≤ 60 := by
  unfold brickB
  rw [Bool.and_eq_true, Bool.and_eq_true, decide_eq_true_eq, decide_eq_true_eq, okTo_iff (Nat.le_refl _), List.take_length]
  constructor
  · rintro ⟨a, ⟨b, c⟩, d⟩; exact ⟨a, c, b, d⟩
  · rintro ⟨a, c, b, d⟩; exact ⟨a, ⟨b, c⟩, d⟩
theorem brick1_eq (r : BrickR) : brick1 r = (isNameB r.name && (betB r.weight 1 1048576 && betB r.count 0 60)) := by
  rw [Bool.eq_iff_iff, brick1_iff]
  simp only [Bool.and_eq_true, betB_iff]
  constructor
  · rintro ⟨a, b, c, d, e⟩; exact ⟨a, ⟨b, c⟩, d, e⟩
  · rintro ⟨a, ⟨b, c⟩, d, e⟩; exact ⟨a, b, c, d, e⟩
theorem cnt_bd2 {L : List BrickR} : ∀ {k : Nat}, (∀ j, j < k → brick1 (bg L j) = true) → 0 ≤ cntTo L k ∧ cntTo L k ≤ 60 * k
  | 0, _ => by simp [cntTo]
  | k + 1, h => by
    obtain ⟨a, b⟩ := cnt_bd2 (L := L) (k := k) fun j hj => h j (by omega)
    obtain ⟨_, _, _, c, d⟩ := (brick1_iff _).1 (h k (by omega))
    simp only [cntTo]
    omega
set_option maxRecDepth 100000 in
set_option maxHeartbeats 16000000 in
theorem bricks_any (a : Option Addr) (L : List BrickR) (cap : Nat) (w : World) (hsz : ∀ x ∈ L, x.name.size ≤ 1000) (h : Bricks w.heap.size w a L) :
    Calls Tryz.prog 52 #[.slice a L.length cap] w fun e w' => e = .returned (.bool (brickB L)) ∧ Below w.heap.size w w' := by
  have HU := Lib.hid h
  have HSZ := Lib.hid hsz
  clear h hsz
  obtain ⟨R, hR⟩ : ∃ R, brickB L = R := ⟨_, rfl⟩
  have HI : Hid (R = true ↔ L.length ≤ 8 ∧ (L.map (·.name)).Nodup ∧ (∀ j, j < L.length → brick1 (bg L j) = true) ∧ cntTo L L.length ≤ 60) := Lib.hid (by rw [← hR]; exact brickB_iff)
  rw [hR]
  clear hR
  by_cases q : 8 < L.length
  · have HR : Hid (R = false) := Lib.hid (by
      rw [Bool.eq_false_iff]
      intro h
      have := (HI.out.1 h).1
      omega)
    have g : decide ((8 : Int) < L.length) = true := decide_eq_true (by omega)
    have g' : decide (8 < L.length) = true := decide_eq_true (by omega)
    clear q
    go_enter Tryz.func52, Tryz.ntmps52
    go_wp2_with fail
    go_ret
    exact ⟨ret_bool HR.out.symm, Below.refl _ _⟩
  have g : decide ((8 : Int) < L.length) = false := decide_eq_false (by omega)
  have g' : decide (8 < L.length) = false := decide_eq_false (by omega)
  have hq : L.length ≤ 8 := by omega
  clear q
  cases ht : twiceB (L.map (·.name))
  case true =>
    have HT := Lib.hid ht
    have HR : Hid (R = false) := Lib.hid (by
      rw [Bool.eq_false_iff]
      intro h
      exact (of_decide_eq_true ht) (HI.out.1 h).2.1)
    clear ht
    go_enter Tryz.func52, Tryz.ntmps52
    go_wp2_with (first
      | (go_at_call 83; (with_reducible refine (brick_twice a L cap w.heap.size _ (Nat.le_refl _) (by omega) HSZ.out HU.out).mono ?_); rintro e w1 ⟨rfl, hb1⟩; rw [HT.out]))
    go_ret
    exact ⟨ret_bool HR.out.symm, hb1⟩
  have HT := Lib.hid ht
  have HI2 : Hid (R = true ↔ (∀ j, j < L.length → brick1 (bg L j) = true) ∧ cntTo L L.length ≤ 60) := Lib.hid (by
    rw [HI.out]
    have hn : (L.map (·.name)).Nodup := Classical.not_not.1 (of_decide_eq_false ht)
    exact ⟨fun h => ⟨h.2.2.1, h.2.2.2⟩, fun h => ⟨hq, hn, h.1, h.2⟩⟩)
  clear ht HI
  go_enter Tryz.func52, Tryz.ntmps52
  go_wp2_with (first
    | (go_at_call 83; (with_reducible refine (brick_twice a L cap w.heap.size _ (Nat.le_refl _) (by omega) HSZ.out HU.out).mono ?_); rintro e w1 ⟨rfl, hb1⟩; rw [HT.out]))
  go_loopw [3, 15] (fun s i wr => ∃ k : Nat, k ≤ L.length ∧ i = .int .i64 k ∧ s = .int .i64 (cntTo L k) ∧ Hid (∀ j, j < k → brick1 (bg L j) = true) ∧ Below w.heap.size w wr) (fun _ i _ => L.length - (intOf i).toNat)
  case atStart => exact ⟨0, Nat.zero_le _, rfl, rfl, Lib.hid (fun j hj => by omega), hb1⟩
  case round =>
    obtain ⟨k, hk, rfl, rfl, HO, hB⟩ := hrel
    by_cases hlt : k < L.length
    · obtain ⟨b, off, rfl, hb, hc⟩ := HU.out (by omega)
      obtain ⟨e0, e1, e2⟩ := hc k hlt
      have c0 := (hB.cell (p := ⟨b, off + k * 3, none⟩) hb).trans e0
      have c1 := (hB.cell (p := ⟨b, off + k * 3 + 1, none⟩) hb).trans e1
      have c2 := (hB.cell (p := ⟨b, off + k * 3 + 2, none⟩) hb).trans e2
      have hbd := cnt_bd2 HO.out
      have HC : Hid (cntTo L (k + 1) = cntTo L k + (bg L k).count) := Lib.hid rfl
      have HN : Hid (brick1 (bg L k) = false → R = false) := Lib.hid fun h => by
        rw [Bool.eq_false_iff]
        intro q
        rw [(HI2.out.1 q).1 k hlt] at h
        cases h
      have HY : Hid (brick1 (bg L k) = true → ∀ j, j < k + 1 → brick1 (bg L j) = true) := Lib.hid fun h j hj => by
        rcases (show j < k ∨ j = k by omega) with l | l
        · exact HO.out j l
        · subst l; exact h
      generalize cntTo L k = s at *
      generalize bg L k = r at *
      clear hc e0 e1 e2
      have hB2 := hB.alloc hB.size (.cells #[.string r.name, .int .i64 r.weight, .int .i64 r.count] 61)
      cases h0 : isNameB r.name
      · have HR : Hid ((isNameB r.name && (betB r.weight 1 1048576 && betB r.count 0 60)) = false) := Lib.hid (by simp only [h0, Bool.false_and])
        have H0 := Lib.hid h0
        clear h0
        have HZ := Lib.hid (HN.out (by rw [brick1_eq]; exact HR.out))
        clear HN HY
        go_wp2_with (first
          | (go_at_call 48; (with_reducible refine (isName_any r.name _).mono ?_); rintro e w1 ⟨rfl, rfl⟩; rw [H0.out])
          | (go_at_call 49; (with_reducible refine (betw_any r.weight 1 1048576 _).mono ?_); rintro e w1 ⟨rfl, rfl⟩; rw [H1.out])
          | (go_at_call 49; (with_reducible refine (betw_any r.count 0 60 _).mono ?_); rintro e w1 ⟨rfl, rfl⟩; rw [H2.out]))
        go_ret
        exact ⟨ret_bool HZ.out.symm, hB2⟩
      cases h1 : betB r.weight 1 1048576
      · have HR : Hid ((isNameB r.name && (betB r.weight 1 1048576 && betB r.count 0 60)) = false) := Lib.hid (by simp only [h0, h1, Bool.true_and, Bool.false_and])
        have H0 := Lib.hid h0
        have H1 := Lib.hid h1
        clear h0 h1
        have HZ := Lib.hid (HN.out (by rw [brick1_eq]; exact HR.out))
        clear HN HY
        go_wp2_with (first
          | (go_at_call 48; (with_reducible refine (isName_any r.name _).mono ?_); rintro e w1 ⟨rfl, rfl⟩; rw [H0.out])
          | (go_at_call 49; (with_reducible refine (betw_any r.weight 1 1048576 _).mono ?_); rintro e w1 ⟨rfl, rfl⟩; rw [H1.out])
          | (go_at_call 49; (with_reducible refine (betw_any r.count 0 60 _).mono ?_); rintro e w1 ⟨rfl, rfl⟩; rw [H2.out]))
        go_ret
        exact ⟨ret_bool HZ.out.symm, hB2⟩
      cases h2 : betB r.count 0 60
      · have HR : Hid ((isNameB r.name && (betB r.weight 1 1048576 && betB r.count 0 60)) = false) := Lib.hid (by simp only [h0, h1, h2, Bool.true_and])
        have H0 := Lib.hid h0
        have H1 := Lib.hid h1
        have H2 := Lib.hid h2
        clear h0 h1 h2
        have HZ := Lib.hid (HN.out (by rw [brick1_eq]; exact HR.out))
        clear HN HY
        go_wp2_with (first
          | (go_at_call 48; (with_reducible refine (isName_any r.name _).mono ?_); rintro e w1 ⟨rfl, rfl⟩; rw [H0.out])
          | (go_at_call 49; (with_reducible refine (betw_any r.weight 1 1048576 _).mono ?_); rintro e w1 ⟨rfl, rfl⟩; rw [H1.out])
          | (go_at_call 49; (with_reducible refine (betw_any r.count 0 60 _).mono ?_); rintro e w1 ⟨rfl, rfl⟩; rw [H2.out]))
        go_ret
        exact ⟨ret_bool HZ.out.symm, hB2⟩
      have HR : Hid ((isNameB r.name && (betB r.weight 1 1048576 && betB r.count 0 60)) = true) := Lib.hid (by simp only [h0, h1, h2, Bool.and_self])
      have H0 := Lib.hid h0
      have H1 := Lib.hid h1
      have H2 := Lib.hid h2
      have h2x := h2
      clear h0 h1 h2
      have HYY := Lib.hid (HY.out (by rw [brick1_eq]; exact HR.out))
      have hbb := betB_iff.1 h2x
      have t1 : IntKind.i64.wrap (s + r.count) = s + r.count := IntWalk.i64_in _ (by omega)
      clear HN HY h2x
      go_wp2_with (first
        | (go_at_call 48; (with_reducible refine (isName_any r.name _).mono ?_); rintro e w1 ⟨rfl, rfl⟩; rw [H0.out])
        | (go_at_call 49; (with_reducible refine (betw_any r.weight 1 1048576 _).mono ?_); rintro e w1 ⟨rfl, rfl⟩; rw [H1.out])
        | (go_at_call 49; (with_reducible refine (betw_any r.count 0 60 _).mono ?_); rintro e w1 ⟨rfl, rfl⟩; rw [H2.out]))
      go_roundw
      case rel => exact ⟨k + 1, by omega, by go_num, by rw [HC.out], HYY, hB2⟩
      case measure => simp [intOf]; omega
    · obtain rfl : k = L.length := by omega
      have HF : Hid (decide (cntTo L L.length ≤ 60) = R) := Lib.hid (by
        rw [Bool.eq_iff_iff, decide_eq_true_eq, HI2.out]
        exact ⟨fun h => ⟨HO.out, h⟩, fun h => h.2⟩)
      go_wp2_with fail
      go_ret
      exact ⟨ret_bool HF.out, hB⟩
theorem item_contains_n (a : Option Addr) (M : List ItemR) (n cap n₀ g : Nat) (cb : Array Value) (p : ItemR → Bool) (w : World) (hn : n = M.length) (eg : ∀ args w, (callFunc g args).run Tryz.prog w = .ok (.enter g args) w)
    (hl : n ≤ 1100) (hn₀ : n₀ ≤ w.heap.size) (hI : Items n₀ w a M) (hp : AsksI g cb n₀ w p) :
    Calls Tryz.prog 80 #[.slice a n cap, .func (.func g) #[] cb] w fun e w' => e = .returned (.bool (item_any M p)) ∧ Below w.heap.size w w' := by
  subst hn
  exact item_containsFunc a M cap n₀ g cb p w eg hl hn₀ hI hp
theorem tg_take {I : List ItemR} {k j : Nat} (h : j < k) : tg (I.take k) j = tg I j := by
  unfold tg
  rw [List.getElem?_take, if_pos h]
theorem items_iff2 {I : List ItemR} {len : Int} : itemsB I len = true ↔ I.length ≤ 40 ∧ (I.map (·.name)).Nodup ∧ (∀ j, j < I.length → item1 len (tg I j) = true) ∧ ∀ j, j < I.length → ∀ i, i < j → apartB (tg I i) (tg I j) = true := by
  rw [items_iff]
  have hm : (∀ x ∈ I, item1 len x = true) ↔ ∀ j, j < I.length → item1 len (tg I j) = true := by
    constructor
    · intro h j hj
      rw [tg_eq I j hj]
      exact h _ (List.getElem_mem hj)
    · intro h x hx
      obtain ⟨j, hj, rfl⟩ := List.getElem_of_mem hx
      rw [← tg_eq I j hj]
      exact h j hj
  rw [hm, List.Nodup, List.pairwise_map]
  constructor
  · rintro ⟨a, b, c⟩
    refine ⟨a, c.imp fun h => h.1, b, fun j hj i hi => ?_⟩
    rw [tg_eq I i (by omega), tg_eq I j hj]
    exact (List.pairwise_iff_getElem.1 c i j _ _ hi).2
  · rintro ⟨a, b, c, d⟩
    refine ⟨a, c, List.pairwise_iff_getElem.2 fun i j hi hj hij => ⟨List.pairwise_iff_getElem.1 b i j hi hj hij, ?_⟩⟩
    have := d j hj i hij
    rwa [tg_eq I i hi, tg_eq I j hj] at this
theorem apart_take {I : List ItemR} {k : Nat} {r : ItemR} {len : Int} (hk : k ≤ I.length) (hlen : 0 ≤ len ∧ len ≤ 1048576) (hr : item1 len r = true) (hI : ∀ j, j < k → item1 len (tg I j) = true) :
    item_any (I.take k) (fun y => !apartW r y) = false ↔ ∀ i, i < k → apartB (tg I i) r = true := by
  have hT : (I.take k).length = k := by rw [List.length_take]; omega
  rw [item_any_eq, Bool.eq_false_iff, Ne, List.any_eq_true]
  constructor
  · intro h i hi
    cases q : apartB (tg I i) r
    · exfalso
      apply h
      refine ⟨tg I i, ?_, ?_⟩
      · rw [← tg_take hi, tg_eq (I.take k) i (by omega)]
        exact List.getElem_mem _
      · rw [apartW_is hr (hI i hi) hlen, apart_symm, q]; rfl
    · rfl
  · rintro h ⟨x, hx, e⟩
    obtain ⟨i, hi, rfl⟩ := List.getElem_of_mem hx
    rw [← tg_eq (I.take k) i hi, tg_take (by omega), apartW_is hr (hI i (by omega)) hlen, apart_symm, h i (by omega)] at e
    cases e
set_option maxRecDepth 100000 in
set_option maxHeartbeats 32000000 in
theorem items_any (a : Option Addr) (I : List ItemR) (cap : Nat) (len : Int) (w : World) (hlen : 0 ≤ len ∧ len ≤ 1048576) (hcap : I.length ≤ cap) (hsz : ∀ x ∈ I, x.name.size ≤ 1000) (h : Items w.heap.size w a I) :
    Calls Tryz.prog 51 #[.slice a I.length cap, .int .i64 len] w fun e w' => e = .returned (.bool (itemsB I len)) ∧ Below w.heap.size w w' := by
  have HU := Lib.hid h
  have HSZ := Lib.hid hsz
  clear h hsz
  obtain ⟨R, hR⟩ : ∃ R, itemsB I len = R := ⟨_, rfl⟩
  have HI : Hid (R = true ↔ I.length ≤ 40 ∧ (I.map (·.name)).Nodup ∧ (∀ j, j < I.length → item1 len (tg I j) = true) ∧ ∀ j, j < I.length → ∀ i, i < j → apartB (tg I i) (tg I j) = true) := Lib.hid (by rw [← hR]; exact items_iff2)
  rw [hR]
  clear hR
  by_cases q : 40 < I.length
  · have HR : Hid (R = false) := Lib.hid (by
      rw [Bool.eq_false_iff]
      intro h
      have := (HI.out.1 h).1
      omega)
    have g : decide ((40 : Int) < I.length) = true := decide_eq_true (by omega)
    have g' : decide (40 < I.length) = true := decide_eq_true (by omega)
    clear q
    go_enter Tryz.func51, Tryz.ntmps51
    go_wp2_with fail
    go_ret
    exact ⟨ret_bool HR.out.symm, Below.refl _ _⟩
  have g : decide ((40 : Int) < I.length) = false := decide_eq_false (by omega)
  have g' : decide (40 < I.length) = false := decide_eq_false (by omega)
  have hq : I.length ≤ 40 := by omega
  clear q
  cases ht : twiceB (I.map (·.name))
  case true =>
    have HT := Lib.hid ht
    have HR : Hid (R = false) := Lib.hid (by
      rw [Bool.eq_false_iff]
      intro h
      exact (of_decide_eq_true ht) (HI.out.1 h).2.1)
    clear ht
    go_enter Tryz.func51, Tryz.ntmps51
    go_wp2_with (first
      | (go_at_call 76; (with_reducible refine (item_twice a I cap w.heap.size _ (Nat.le_refl _) (by omega) HSZ.out HU.out).mono ?_); rintro e w1 ⟨rfl, hb1⟩; rw [HT.out]))
    go_ret
    exact ⟨ret_bool HR.out.symm, hb1⟩
  have HT := Lib.hid ht
  have HI2 : Hid (R = true ↔ (∀ j, j < I.length → item1 len (tg I j) = true) ∧ ∀ j, j < I.length → ∀ i, i < j → apartB (tg I i) (tg I j) = true) := Lib.hid (by
    rw [HI.out]
    have hn : (I.map (·.name)).Nodup := Classical.not_not.1 (of_decide_eq_false ht)
    exact ⟨fun h => ⟨h.2.2.1, h.2.2.2⟩, fun h => ⟨hq, hn, h.1, h.2⟩⟩)
  clear ht HI
  go_enter Tryz.func51, Tryz.ntmps51
  go_wp2_with (first
    | (go_at_call 76; (with_reducible refine (item_twice a I cap w.heap.size _ (Nat.le_refl _) (by omega) HSZ.out HU.out).mono ?_); rintro e w1 ⟨rfl, hb1⟩; rw [HT.out]))
  go_loopw [16] (fun i wr => ∃ k : Nat, k ≤ I.length ∧ i = .int .i64 k ∧ Hid ((∀ j, j < k → item1 len (tg I j) = true) ∧ ∀ j, j < k → ∀ i, i < j → apartB (tg I i) (tg I j) = true) ∧ Below w.heap.size w wr) (fun i _ => I.length - (intOf i).toNat)
  case atStart => exact ⟨0, Nat.zero_le _, rfl, Lib.hid ⟨fun j hj => by omega, fun j hj => by omega⟩, hb1⟩
  case round =>
    obtain ⟨k, hk, rfl, HO, hB⟩ := hrel
    by_cases hlt : k < I.length
    · obtain ⟨b, off, rfl, hb, hc⟩ := HU.out (by omega)
      obtain ⟨e0, e1, e2, e3, e4, e5, e6⟩ := hc k hlt
      have c0 := (hB.cell (p := ⟨b, _, none⟩) hb).trans e0
      have c1 := (hB.cell (p := ⟨b, _, none⟩) hb).trans e1
      have c2 := (hB.cell (p := ⟨b, _, none⟩) hb).trans e2
      have c3 := (hB.cell (p := ⟨b, _, none⟩) hb).trans e3
      have c4 := (hB.cell (p := ⟨b, _, none⟩) hb).trans e4
      have c5 := (hB.cell (p := ⟨b, _, none⟩) hb).trans e5
      have c6 := (hB.cell (p := ⟨b, _, none⟩) hb).trans e6
      have HN1 : Hid (item1 len (tg I k) = false → R = false) := Lib.hid fun h => by
        rw [Bool.eq_false_iff]
        intro q
        rw [(HI2.out.1 q).1 k hlt] at h
        cases h
      have HT0 : Hid (item1 len (tg I k) = true → (item_any (I.take k) (fun y => !apartW (tg I k) y) = false ↔ ∀ i, i < k → apartB (tg I i) (tg I k) = true)) := Lib.hid fun h => apart_take (by omega) hlen h HO.out.1
      have HN2 : Hid (item1 len (tg I k) = true → item_any (I.take k) (fun y => !apartW (tg I k) y) = true → R = false) := Lib.hid fun h h2 => by
        rw [Bool.eq_false_iff]
        intro q
        rw [(HT0.out h).2 fun i hi => (HI2.out.1 q).2 k hlt i hi] at h2
        cases h2
      have HY : Hid (item1 len (tg I k) = true → item_any (I.take k) (fun y => !apartW (tg I k) y) = false → (∀ j, j < k + 1 → item1 len (tg I j) = true) ∧ ∀ j, j < k + 1 → ∀ i, i < j → apartB (tg I i) (tg I j) = true) := Lib.hid fun h h2 => by
        refine ⟨fun j hj => ?_, fun j hj i hi => ?_⟩
        · rcases (show j < k ∨ j = k by omega) with l | l
          · exact HO.out.1 j l
          · subst l; exact h
        · rcases (show j < k ∨ j = k by omega) with l | l
          · exact HO.out.2 j l i hi
          · subst l; exact (HT0.out h).1 h2 i hi
      have hTl : k = (I.take k).length := by rw [List.length_take]; omega
      have HTL := Lib.hid hTl
      have k1 : k ≤ cap := by omega
      have k2 : (k : Int) ≤ (cap : Int) := by omega
      generalize tg I k = r at *
      have hB2' := hB.alloc hB.size (.cells #[.string r.name, .int .i64 r.pos, .int .i64 r.width, .int .i64 r.weight, .int .i64 r.hang, .int .i64 r.front, .int .i64 r.back] 59)
      have HAT := ItemAt.new wr r 59
      have hz : wr.heap.size < (wr.alloc (.cells #[.string r.name, .int .i64 r.pos, .int .i64 r.width, .int .i64 r.weight, .int .i64 r.hang, .int .i64 r.front, .int .i64 r.back] 59)).heap.size := by simp
      have HIT : Hid (∀ wx, Below (wr.alloc (.cells #[.string r.name, .int .i64 r.pos, .int .i64 r.width, .int .i64 r.weight, .int .i64 r.hang, .int .i64 r.front, .int .i64 r.back] 59)).heap.size (wr.alloc (.cells #[.string r.name, .int .i64 r.pos, .int .i64 r.width, .int .i64 r.weight, .int .i64 r.hang, .int .i64 r.front, .int .i64 r.back] 59)) wx → Items wx.heap.size wx (some ⟨b, off, none⟩) (I.take k)) := Lib.hid fun wx h => (((HU.out.take k).below (hB2'.trans (h.mono hB2'.size))).mono (Nat.le_trans hB2'.size h.size))
      have HX : Hid (∀ wx, Below (wr.alloc (.cells #[.string r.name, .int .i64 r.pos, .int .i64 r.width, .int .i64 r.weight, .int .i64 r.hang, .int .i64 r.front, .int .i64 r.back] 59)).heap.size (wr.alloc (.cells #[.string r.name, .int .i64 r.pos, .int .i64 r.width, .int .i64 r.weight, .int .i64 r.hang, .int .i64 r.front, .int .i64 r.back] 59)) wx → Below w.heap.size w wx) := Lib.hid fun wx h => hB2'.trans (h.mono hB2'.size)
      have HAK : Hid (∀ wx, Below (wr.alloc (.cells #[.string r.name, .int .i64 r.pos, .int .i64 r.width, .int .i64 r.weight, .int .i64 r.hang, .int .i64 r.front, .int .i64 r.back] 59)).heap.size (wr.alloc (.cells #[.string r.name, .int .i64 r.pos, .int .i64 r.width, .int .i64 r.weight, .int .i64 r.hang, .int .i64 r.front, .int .i64 r.back] 59)) wx → AsksI 81 #[.pointer (some ⟨wr.heap.size, 0, none⟩)] wx.heap.size wx (fun y => !apartW r y)) := Lib.hid fun wx h => asks_apart (HAT.below h hz) (Nat.lt_of_lt_of_le hz h.size)
      have HCX : Hid (∀ wx, Below (wr.alloc (.cells #[.string r.name, .int .i64 r.pos, .int .i64 r.width, .int .i64 r.weight, .int .i64 r.hang, .int .i64 r.front, .int .i64 r.back] 59)).heap.size (wr.alloc (.cells #[.string r.name, .int .i64 r.pos, .int .i64 r.width, .int .i64 r.weight, .int .i64 r.hang, .int .i64 r.front, .int .i64 r.back] 59)) wx → ItemAt wx wr.heap.size r) := Lib.hid fun wx h => HAT.below h hz
      clear hc e0 e1 e2 e3 e4 e5 e6 HO HT0 hTl HAT hB2'
      go_wp2_with fail
      generalize (wr.alloc (.cells #[.string r.name, .int .i64 r.pos, .int .i64 r.width, .int .i64 r.weight, .int .i64 r.hang, .int .i64 r.front, .int .i64 r.back] 59)) = W1 at *
      have hB1 := Below.refl W1.heap.size W1
      have x0 : ∀ wx, Below W1.heap.size W1 wx → wx.cell? ⟨wr.heap.size, 0, none⟩ = some (.string r.name) := fun wx h => (HCX.out wx h).1
      have x1 : ∀ wx, Below W1.heap.size W1 wx → wx.cell? ⟨wr.heap.size, 1, none⟩ = some (.int .i64 r.pos) := fun wx h => (HCX.out wx h).2.1
      have x2 : ∀ wx, Below W1.heap.size W1 wx → wx.cell? ⟨wr.heap.size, 2, none⟩ = some (.int .i64 r.width) := fun wx h => (HCX.out wx h).2.2.1
      have x3 : ∀ wx, Below W1.heap.size W1 wx → wx.cell? ⟨wr.heap.size, 3, none⟩ = some (.int .i64 r.weight) := fun wx h => (HCX.out wx h).2.2.2.1
      have x4 : ∀ wx, Below W1.heap.size W1 wx → wx.cell? ⟨wr.heap.size, 4, none⟩ = some (.int .i64 r.hang) := fun wx h => (HCX.out wx h).2.2.2.2.1
      have x5 : ∀ wx, Below W1.heap.size W1 wx → wx.cell? ⟨wr.heap.size, 5, none⟩ = some (.int .i64 r.front) := fun wx h => (HCX.out wx h).2.2.2.2.2.1
      have x6 : ∀ wx, Below W1.heap.size W1 wx → wx.cell? ⟨wr.heap.size, 6, none⟩ = some (.int .i64 r.back) := fun wx h => (HCX.out wx h).2.2.2.2.2.2
      clear c0 c1 c2 c3 c4 c5 c6 HCX
      cases h0 : aloneB r
      · have HR : Hid ((aloneB r && (insideB r len && !item_any (I.take k) (fun y => !apartW r y))) = false) := Lib.hid (by simp only [h0, Bool.false_and])
        have H0 := Lib.hid h0
        clear h0
        have HZ := Lib.hid (HN1.out (by unfold item1; rw [H0.out]; rfl))
        clear HN1 HN2 HY
        go_wp2_with (first
          | (go_at_call 78; (with_reducible refine (alone_any r _).mono ?_); rintro e w2 ⟨rfl, hb⟩; rw [H0.out]; have hB2 := hB1.trans (hb.mono hB1.size); clear hb)
          | (go_at_call 79; (with_reducible refine (inside_any r len _ hlen).mono ?_); rintro e w3 ⟨rfl, hb⟩; rw [H1.out]; have hB3 := hB2.trans (hb.mono hB2.size); clear hb)
          | (go_at_call 80; (with_reducible refine (item_contains_n (some ⟨b, off, none⟩) (I.take k) k cap _ _ _ (fun y => !apartW r y) _ HTL.out ent_apart (by omega) (Nat.le_refl _) (HIT.out _ hB3) (HAK.out _ hB3)).mono ?_); rintro e w4 ⟨rfl, hb⟩; rw [H2.out]; have hB4 := hB3.trans (hb.mono hB3.size); clear hb))
        go_ret
        exact ⟨ret_bool HZ.out.symm, HX.out _ hB2⟩
      cases h1 : insideB r len
      · have HR : Hid ((aloneB r && (insideB r len && !item_any (I.take k) (fun y => !apartW r y))) = false) := Lib.hid (by simp only [h0, h1, Bool.true_and, Bool.false_and])
        have H0 := Lib.hid h0
        have H1 := Lib.hid h1
        clear h0 h1
        have HZ := Lib.hid (HN1.out (by unfold item1; rw [H0.out, H1.out]; rfl))
        clear HN1 HN2 HY
        go_wp2_with (first
          | (go_at_call 78; (with_reducible refine (alone_any r _).mono ?_); rintro e w2 ⟨rfl, hb⟩; rw [H0.out]; have hB2 := hB1.trans (hb.mono hB1.size); clear hb)
          | (go_at_call 79; (with_reducible refine (inside_any r len _ hlen).mono ?_); rintro e w3 ⟨rfl, hb⟩; rw [H1.out]; have hB3 := hB2.trans (hb.mono hB2.size); clear hb)
          | (go_at_call 80; (with_reducible refine (item_contains_n (some ⟨b, off, none⟩) (I.take k) k cap _ _ _ (fun y => !apartW r y) _ HTL.out ent_apart (by omega) (Nat.le_refl _) (HIT.out _ hB3) (HAK.out _ hB3)).mono ?_); rintro e w4 ⟨rfl, hb⟩; rw [H2.out]; have hB4 := hB3.trans (hb.mono hB3.size); clear hb))
        go_ret
        exact ⟨ret_bool HZ.out.symm, HX.out _ hB3⟩
      cases h2 : !item_any (I.take k) (fun y => !apartW r y)
      · have HR : Hid ((aloneB r && (insideB r len && !item_any (I.take k) (fun y => !apartW r y))) = false) := Lib.hid (by simp only [h0, h1, h2, Bool.true_and])
        have H0 := Lib.hid h0
        have H1 := Lib.hid h1
        have H2 := Lib.hid h2
        clear h0 h1 h2
        have HZ := Lib.hid (HN2.out (by unfold item1; rw [H0.out, H1.out]; rfl) (by have := H2.out; simpa using this))
        have H2 : Hid (item_any (I.take k) (fun y => !apartW r y) = true) := Lib.hid (by have := H2.out; simpa using this)
        clear HN1 HN2 HY
        go_wp2_with (first
          | (go_at_call 78; (with_reducible refine (alone_any r _).mono ?_); rintro e w2 ⟨rfl, hb⟩; rw [H0.out]; have hB2 := hB1.trans (hb.mono hB1.size); clear hb)
          | (go_at_call 79; (with_reducible refine (inside_any r len _ hlen).mono ?_); rintro e w3 ⟨rfl, hb⟩; rw [H1.out]; have hB3 := hB2.trans (hb.mono hB2.size); clear hb)
          | (go_at_call 80; (with_reducible refine (item_contains_n (some ⟨b, off, none⟩) (I.take k) k cap _ _ _ (fun y => !apartW r y) _ HTL.out ent_apart (by omega) (Nat.le_refl _) (HIT.out _ hB3) (HAK.out _ hB3)).mono ?_); rintro e w4 ⟨rfl, hb⟩; rw [H2.out]; have hB4 := hB3.trans (hb.mono hB3.size); clear hb))
        go_ret
        exact ⟨ret_bool HZ.out.symm, HX.out _ hB4⟩
      have HR : Hid ((aloneB r && (insideB r len && !item_any (I.take k) (fun y => !apartW r y))) = true) := Lib.hid (by simp only [h0, h1, h2, Bool.and_self])
      have H0 := Lib.hid h0
      have H1 := Lib.hid h1
      have H2 := Lib.hid h2
      clear h0 h1 h2
      have HYY := Lib.hid (HY.out (by unfold item1; rw [H0.out, H1.out]; rfl) (by have := H2.out; simpa using this))
      have H2 : Hid (item_any (I.take k) (fun y => !apartW r y) = false) := Lib.hid (by have := H2.out; simpa using this)
      clear HN1 HN2 HY
      go_wp2_with (first
        | (go_at_call 78; (with_reducible refine (alone_any r _).mono ?_); rintro e w2 ⟨rfl, hb⟩; rw [H0.out]; have hB2 := hB1.trans (hb.mono hB1.size); clear hb)
        | (go_at_call 79; (with_reducible refine (inside_any r len _ hlen).mono ?_); rintro e w3 ⟨rfl, hb⟩; rw [H1.out]; have hB3 := hB2.trans (hb.mono hB2.size); clear hb)
        | (go_at_call 80; (with_reducible refine (item_contains_n (some ⟨b, off, none⟩) (I.take k) k cap _ _ _ (fun y => !apartW r y) _ HTL.out ent_apart (by omega) (Nat.le_refl _) (HIT.out _ hB3) (HAK.out _ hB3)).mono ?_); rintro e w4 ⟨rfl, hb⟩; rw [H2.out]; have hB4 := hB3.trans (hb.mono hB3.size); clear hb))
      go_roundw
      case rel => exact ⟨k + 1, by omega, by go_num, HYY, HX.out _ hB4⟩
      case measure => simp [intOf]; omega
    · obtain rfl : k = I.length := by omega
      have HF : Hid (R = true) := Lib.hid (HI2.out.2 HO.out)
      go_wp2_with fail
      go_ret
      exact ⟨ret_bool HF.out.symm, hB⟩
end Go.Proofs.YtfkmnneieglolaaGreatDoor
