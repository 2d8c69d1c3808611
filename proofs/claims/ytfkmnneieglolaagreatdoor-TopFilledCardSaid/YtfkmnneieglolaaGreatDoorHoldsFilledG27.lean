/-
  THE WALKS of the reference's Pipe, Weight, items (21).
  THE WALKS of the reference's Valid and Small (21), Needed (25), Fill (26).
  THE WALKS of the reference's Small (21), Needed (25), Fill (26).
  The search for the nearest sum (bricks: nearest), by induction on the kinds that are left; the method nearest; Nearest.
  THE WALKS of batten.pipe, weight and Weight.
  THE WALKS of arbor's there, Needed, Balance, and of bricks.Fill.
  THE WALKS: the reference's Sum, bricks, Before (26), and arbor's Weight.
-/
import Derived.BigRegion
import Derived.BigQuiet
import Derived.Deep.RegionHeld3
import Derived.Test.YtfkmnneieglolaaGreatDoorBat3
import Derived.Test.YtfkmnneieglolaaGreatDoorNearN
import Derived.Test.YtfkmnneieglolaaGreatDoorFirst
import Derived.Test.YtfkmnneieglolaaGreatDoorFew
namespace Go.Proofs.YtfkmnneieglolaaGreatDoor
open Go.RowKit Go.Shelf
attribute [local go_sem] Oper.semAt_some
theorem items_iff3 {I : List ItemR} {len : Int} : itemsB I len = true ↔ I.length ≤ 40 ∧ ∀ j, j < I.length → item1 len (tg I j) = true ∧ ∀ i, i < j → (tg I i).name ≠ (tg I j).name ∧ apartB (tg I i) (tg I j) = true := by
  rw [items_iff2]
  have hn : (I.map (·.name)).Nodup ↔ ∀ j, j < I.length → ∀ i, i < j → (tg I i).name ≠ (tg I j).name := by
    rw [List.Nodup, List.pairwise_map, List.pairwise_iff_getElem]
    constructor
    · intro h j hj i hi
      rw [tg_eq I i (by omega), tg_eq I j hj]
      exact h i j (by omega) hj hi
    · intro h i j hi hj hij
      have := h j hj i hij
      rwa [tg_eq I i hi, tg_eq I j hj] at this
  rw [hn]
  constructor
  · rintro ⟨a, b, c, d⟩
    exact ⟨a, fun j hj => ⟨c j hj, fun i hi => ⟨b j hj i hi, d j hj i hi⟩⟩⟩
  · rintro ⟨a, b⟩
    exact ⟨a, fun j hj i hi => ((b j hj).2 i hi).1, fun j hj => (b j hj).1, fun j hj i hi => ((b j hj).2 i hi).2⟩
set_option maxRecDepth 100000 in
set_option maxHeartbeats 32000000 in
theorem ritems_any (r : SetR) (w : World) (hlen : 0 ≤ r.length ∧ r.length ≤ 1048576) (hs : SetIn w r) :
    Calls Tryz.prog 19 #[.agg #[.string r.name, .int .i64 r.depth, .int .i64 r.low, .int .i64 r.high, .int .i64 r.length, .slice r.la r.lines.length r.lc, .int .i64 r.pipe, .int .i64 r.arbor, .int .i64 r.purchase, .int .i64 r.most, .int .i64 r.brake, .slice r.ia r.items.length r.ic, .slice r.ba r.bricks.length r.bc]] w fun e w' => e = .returned (.bool (itemsB r.items r.length)) ∧ Below w.heap.size w w' := by
  have HLEN := Lib.hid hlen
  obtain ⟨R, hR⟩ : ∃ R, itemsB r.items r.length = R := ⟨_, rfl⟩
  have HI : Hid (R = true ↔ r.items.length ≤ 40 ∧ ∀ j, j < r.items.length → item1 r.length (tg r.items j) = true ∧ ∀ i, i < j → (tg r.items i).name ≠ (tg r.items j).name ∧ apartB (tg r.items i) (tg r.items j) = true) := Lib.hid (by rw [← hR]; exact items_iff3)
  rw [hR]
  clear hR
  have hb0 := below_new w (.cells #[.string r.name, .int .i64 r.depth, .int .i64 r.low, .int .i64 r.high, .int .i64 r.length, .slice r.la r.lines.length r.lc, .int .i64 r.pipe, .int .i64 r.arbor, .int .i64 r.purchase, .int .i64 r.most, .int .i64 r.brake, .slice r.ia r.items.length r.ic, .slice r.ba r.bricks.length r.bc] 26)
  have HX : Hid (∀ wx, Below (w.alloc (.cells #[.string r.name, .int .i64 r.depth, .int .i64 r.low, .int .i64 r.high, .int .i64 r.length, .slice r.la r.lines.length r.lc, .int .i64 r.pipe, .int .i64 r.arbor, .int .i64 r.purchase, .int .i64 r.most, .int .i64 r.brake, .slice r.ia r.items.length r.ic, .slice r.ba r.bricks.length r.bc] 26)).heap.size (w.alloc (.cells #[.string r.name, .int .i64 r.depth, .int .i64 r.low, .int .i64 r.high, .int .i64 r.length, .slice r.la r.lines.length r.lc, .int .i64 r.pipe, .int .i64 r.arbor, .int .i64 r.purchase, .int .i64 r.most, .int .i64 r.brake, .slice r.ia r.items.length r.ic, .slice r.ba r.bricks.length r.bc] 26)) wx → Below w.heap.size w wx) := Lib.hid fun wx h => mono_in _ h
  have HS : Hid (∀ wx, Below (w.alloc (.cells #[.string r.name, .int .i64 r.depth, .int .i64 r.low, .int .i64 r.high, .int .i64 r.length, .slice r.la r.lines.length r.lc, .int .i64 r.pipe, .int .i64 r.arbor, .int .i64 r.purchase, .int .i64 r.most, .int .i64 r.brake, .slice r.ia r.items.length r.ic, .slice r.ba r.bricks.length r.bc] 26)).heap.size (w.alloc (.cells #[.string r.name, .int .i64 r.depth, .int .i64 r.low, .int .i64 r.high, .int .i64 r.length, .slice r.la r.lines.length r.lc, .int .i64 r.pipe, .int .i64 r.arbor, .int .i64 r.purchase, .int .i64 r.most, .int .i64 r.brake, .slice r.ia r.items.length r.ic, .slice r.ba r.bricks.length r.bc] 26)) wx → SetIn wx r) := Lib.hid fun wx h => (hs.grow hb0).grow h
  have HAT : Hid (∀ wx, Below (w.alloc (.cells #[.string r.name, .int .i64 r.depth, .int .i64 r.low, .int .i64 r.high, .int .i64 r.length, .slice r.la r.lines.length r.lc, .int .i64 r.pipe, .int .i64 r.arbor, .int .i64 r.purchase, .int .i64 r.most, .int .i64 r.brake, .slice r.ia r.items.length r.ic, .slice r.ba r.bricks.length r.bc] 26)).heap.size (w.alloc (.cells #[.string r.name, .int .i64 r.depth, .int .i64 r.low, .int .i64 r.high, .int .i64 r.length, .slice r.la r.lines.length r.lc, .int .i64 r.pipe, .int .i64 r.arbor, .int .i64 r.purchase, .int .i64 r.most, .int .i64 r.brake, .slice r.ia r.items.length r.ic, .slice r.ba r.bricks.length r.bc] 26)) wx → SetAt wx w.heap.size r) := Lib.hid fun wx h => (SetAt.new w r 26).below h (by simp)
  clear hb0 hs
  by_cases q : 40 < r.items.length
  · have HR : Hid (R = false) := Lib.hid (by
      rw [Bool.eq_false_iff]
      intro h
      have := (HI.out.1 h).1
      omega)
    have g : decide ((40 : Int) < r.items.length) = true := decide_eq_true (by omega)
    have g' : decide (40 < r.items.length) = true := decide_eq_true (by omega)
    clear q
    go_enter Tryz.func19, Tryz.ntmps19
    go_wp2_with fail
    go_ret
    exact ⟨ret_bool HR.out.symm, HX.out _ (Below.refl _ _)⟩
  have g : decide ((40 : Int) < r.items.length) = false := decide_eq_false (by omega)
  have g' : decide (40 < r.items.length) = false := decide_eq_false (by omega)
  have hq : r.items.length ≤ 40 := by omega
  have HI2 : Hid (R = true ↔ ∀ j, j < r.items.length → item1 r.length (tg r.items j) = true ∧ ∀ i, i < j → (tg r.items i).name ≠ (tg r.items j).name ∧ apartB (tg r.items i) (tg r.items j) = true) := Lib.hid (by rw [HI.out]; exact ⟨fun h => h.2, fun h => ⟨hq, h⟩⟩)
  clear q HI
  go_enter Tryz.func19, Tryz.ntmps19
  go_wp2_with fail
  generalize (w.alloc (.cells #[.string r.name, .int .i64 r.depth, .int .i64 r.low, .int .i64 r.high, .int .i64 r.length, .slice r.la r.lines.length r.lc, .int .i64 r.pipe, .int .i64 r.arbor, .int .i64 r.purchase, .int .i64 r.most, .int .i64 r.brake, .slice r.ia r.items.length r.ic, .slice r.ba r.bricks.length r.bc] 26)) = W0 at *
  have hB1 := Below.refl W0.heap.size W0
  have x4 : ∀ wx, Below W0.heap.size W0 wx → wx.cell? ⟨w.heap.size, 4, none⟩ = some (.int .i64 r.length) := fun wx h => (HAT.out wx h).2.2.2.2.1
  have x11 : ∀ wx, Below W0.heap.size W0 wx → wx.cell? ⟨w.heap.size, 11, none⟩ = some (.slice r.ia r.items.length r.ic) := fun wx h => (HAT.out wx h).2.2.2.2.2.2.2.2.2.2.2.1
  go_loopw [3] (fun i wr => ∃ k : Nat, k ≤ r.items.length ∧ i = .int .i64 k ∧ Hid (∀ j, j < k → item1 r.length (tg r.items j) = true ∧ ∀ i, i < j → (tg r.items i).name ≠ (tg r.items j).name ∧ apartB (tg r.items i) (tg r.items j) = true) ∧ Below W0.heap.size W0 wr) (fun i _ => r.items.length - (intOf i).toNat)
  case atStart => exact ⟨0, Nat.zero_le _, rfl, Lib.hid (fun j hj => by omega), hB1⟩
  case round =>
    obtain ⟨k, hk, rfl, HO, hB⟩ := hrel
    by_cases hlt : k < r.items.length
    · obtain ⟨b, off, hia, _, _⟩ := (HS.out W0 hB1).items (by omega)
      have y11 : ∀ wx, Below W0.heap.size W0 wx → wx.cell? ⟨w.heap.size, 11, none⟩ = some (.slice (some ⟨b, off, none⟩) r.items.length r.ic) := fun wx h => by rw [← hia]; exact x11 wx h
      have HIA := Lib.hid hia
      clear x11 hia
      obtain ⟨x, hx⟩ : ∃ x, tg r.items k = x := ⟨_, rfl⟩
      have c0 : ∀ wx, Below W0.heap.size W0 wx → wx.cell? ⟨b, off + k * 7, none⟩ = some (.string (tg r.items k).name) := fun wx h => by
        obtain ⟨b', off', e, _, hc⟩ := (HS.out wx h).items (by omega)
        rw [HIA.out] at e
        cases e
        exact (hc k hlt).1
      have c1 : ∀ wx, Below W0.heap.size W0 wx → wx.cell? ⟨b, off + k * 7 + 1, none⟩ = some (.int .i64 (tg r.items k).pos) := fun wx h => by
        obtain ⟨b', off', e, _, hc⟩ := (HS.out wx h).items (by omega)
        rw [HIA.out] at e
        cases e
        exact (hc k hlt).2.1
      have c2 : ∀ wx, Below W0.heap.size W0 wx → wx.cell? ⟨b, off + k * 7 + 2, none⟩ = some (.int .i64 (tg r.items k).width) := fun wx h => by
        obtain ⟨b', off', e, _, hc⟩ := (HS.out wx h).items (by omega)
        rw [HIA.out] at e
        cases e
        exact (hc k hlt).2.2.1
      have c3 : ∀ wx, Below W0.heap.size W0 wx → wx.cell? ⟨b, off + k * 7 + 3, none⟩ = some (.int .i64 (tg r.items k).weight) := fun wx h => by
        obtain ⟨b', off', e, _, hc⟩ := (HS.out wx h).items (by omega)
        rw [HIA.out] at e
        cases e
        exact (hc k hlt).2.2.2.1
      have c4 : ∀ wx, Below W0.heap.size W0 wx → wx.cell? ⟨b, off + k * 7 + 4, none⟩ = some (.int .i64 (tg r.items k).hang) := fun wx h => by
        obtain ⟨b', off', e, _, hc⟩ := (HS.out wx h).items (by omega)
        rw [HIA.out] at e
        cases e
        exact (hc k hlt).2.2.2.2.1
      have c5 : ∀ wx, Below W0.heap.size W0 wx → wx.cell? ⟨b, off + k * 7 + 5, none⟩ = some (.int .i64 (tg r.items k).front) := fun wx h => by
        obtain ⟨b', off', e, _, hc⟩ := (HS.out wx h).items (by omega)
        rw [HIA.out] at e
        cases e
        exact (hc k hlt).2.2.2.2.2.1
      have c6 : ∀ wx, Below W0.heap.size W0 wx → wx.cell? ⟨b, off + k * 7 + 6, none⟩ = some (.int .i64 (tg r.items k).back) := fun wx h => by
        obtain ⟨b', off', e, _, hc⟩ := (HS.out wx h).items (by omega)
        rw [HIA.out] at e
        cases e
        exact (hc k hlt).2.2.2.2.2.2
      have HN : Hid (item1 r.length x = false → R = false) := Lib.hid fun h => by
        rw [Bool.eq_false_iff]
        intro q
        rw [← hx, (HI2.out.1 q k hlt).1] at h
        cases h
      have HNB : Hid (∀ i, i < k → ¬ ((tg r.items i).name ≠ x.name ∧ apartB (tg r.items i) x = true) → R = false) := Lib.hid fun i hi h => by
        rw [Bool.eq_false_iff]
        intro q
        apply h
        rw [← hx]
        exact (HI2.out.1 q k hlt).2 i hi
      have HY : Hid (item1 r.length x = true → (∀ i, i < k → (tg r.items i).name ≠ x.name ∧ apartB (tg r.items i) x = true) → ∀ j, j < k + 1 → item1 r.length (tg r.items j) = true ∧ ∀ i, i < j → (tg r.items i).name ≠ (tg r.items j).name ∧ apartB (tg r.items i) (tg r.items j) = true) := Lib.hid fun h h2 j hj => by
        rcases (show j < k ∨ j = k by omega) with l | l
        · exact HO.out j l
        · subst l; rw [hx]; exact ⟨h, h2⟩
      rw [hx] at c0 c1 c2 c3 c4 c5 c6
      clear hx
      have k1 : (k : Int) < r.items.length := by omega
      cases hv : item1 r.length x
      · have HV := Lib.hid hv
        have HR := Lib.hid (HN.out hv)
        clear hv HN HNB HY
        go_wp2_with fail
        refine wp_region_held_drew (S := (fun w' => Below W0.heap.size W0 w')) (by kernel_rfl) (hB.drew) (fun hHeld => ?_)
        refine wpAnyH_take (i := 0) (oi := _) (v := ?_) rfl (by kernel_rfl) (by kernel_rfl) (by kernel_rfl) (fun _ _ _ h => h) (Or.inl ⟨by rfl, ?_⟩) (by assumption) ?_
        rotate_left
        · (intro w hSw; (try dsimp only at hSw); (try simp only [List.getElem_toArray, List.getElem_cons_zero]); go_simp; try with_reducible rfl)
        simp only [Act.put, List.setIfInBounds_toArray, List.set_cons_zero, List.set_cons_succ, List.getElem_toArray, List.getElem_cons_zero]
        refine wpAnyH_take (i := 1) (oi := _) (v := ?_) rfl (by kernel_rfl) (by kernel_rfl) (by kernel_rfl) (fun _ _ _ h => h) (Or.inl ⟨by rfl, ?_⟩) (by assumption) ?_
        rotate_left
        · (intro w hSw; (try dsimp only at hSw); (try simp only [List.getElem_toArray, List.getElem_cons_succ, List.getElem_cons_zero]); go_simp; try with_reducible rfl)
        simp only [Act.put, List.setIfInBounds_toArray, List.set_cons_zero, List.set_cons_succ, List.getElem_toArray, List.getElem_cons_succ, List.getElem_cons_zero]
        refine wpAnyH_take (i := 2) (oi := _) (v := ?_) rfl (by kernel_rfl) (by kernel_rfl) (by kernel_rfl) (fun _ _ _ h => h) (Or.inl ⟨by rfl, ?_⟩) (by assumption) ?_
        rotate_left
        · (intro w hSw; (try dsimp only at hSw); (try simp only [List.getElem_toArray, List.getElem_cons_succ, List.getElem_cons_zero]); go_simp; try with_reducible rfl)
        simp only [Act.put, List.setIfInBounds_toArray, List.set_cons_zero, List.set_cons_succ, List.getElem_toArray, List.getElem_cons_succ, List.getElem_cons_zero]
        refine wpAnyH_take (i := 3) (oi := _) (v := ?_) rfl (by kernel_rfl) (by kernel_rfl) (by kernel_rfl) (fun _ _ _ h => h) (Or.inl ⟨by rfl, ?_⟩) (by assumption) ?_
        rotate_left
        · (intro w hSw; (try dsimp only at hSw); (try simp only [List.getElem_toArray, List.getElem_cons_succ, List.getElem_cons_zero]); go_simp; try with_reducible rfl)
        simp only [Act.put, List.setIfInBounds_toArray, List.set_cons_zero, List.set_cons_succ, List.getElem_toArray, List.getElem_cons_succ, List.getElem_cons_zero]
        refine wpAnyH_take (i := 4) (oi := _) (v := ?_) rfl (by kernel_rfl) (by kernel_rfl) (by kernel_rfl) (fun _ _ _ h => h) (Or.inl ⟨by rfl, ?_⟩) (by assumption) ?_
        rotate_left
        · (intro w hSw; (try dsimp only at hSw); (try simp only [List.getElem_toArray, List.getElem_cons_succ, List.getElem_cons_zero]); go_simp; try with_reducible rfl)
        simp only [Act.put, List.setIfInBounds_toArray, List.set_cons_zero, List.set_cons_succ, List.getElem_toArray, List.getElem_cons_succ, List.getElem_cons_zero]
        refine wpAnyH_take (i := 5) (oi := _) (v := ?_) rfl (by kernel_rfl) (by kernel_rfl) (by kernel_rfl) (fun _ _ _ h => h) (Or.inl ⟨by rfl, ?_⟩) (by assumption) ?_
        rotate_left
        · (intro w hSw; (try dsimp only at hSw); (try simp only [List.getElem_toArray, List.getElem_cons_succ, List.getElem_cons_zero]); go_simp; try with_reducible rfl)
        simp only [Act.put, List.setIfInBounds_toArray, List.set_cons_zero, List.set_cons_succ, List.getElem_toArray, List.getElem_cons_succ, List.getElem_cons_zero]
        refine wpAnyH_take (i := 6) (oi := _) (v := ?_) rfl (by kernel_rfl) (by kernel_rfl) (by kernel_rfl) (fun _ _ _ h => h) (Or.inl ⟨by rfl, ?_⟩) (by assumption) ?_
        rotate_left
        · (intro w hSw; (try dsimp only at hSw); (try simp only [List.getElem_toArray, List.getElem_cons_succ, List.getElem_cons_zero]); go_simp; try with_reducible rfl)
        simp only [Act.put, List.setIfInBounds_toArray, List.set_cons_zero, List.set_cons_succ, List.getElem_toArray, List.getElem_cons_succ, List.getElem_cons_zero]
        refine wpAnyH_ready (rs := [7]) (by kernel_rfl) (by simp) ?_
        refine AllReadyH.cons (o := _) rfl (fun K hK => ?_) AllReadyH.nil
        try simp only [List.getElem_toArray, List.getElem_cons_succ, List.getElem_cons_zero]
        go_simp
        (go_at_call 42; go_split_ands; (with_reducible refine (ralone_any x r.length _ HLEN.out).mono ?_); rintro e w2 ⟨rfl, hb⟩; rw [HV.out])
        go_wp2_with fail
        refine hK.out _ _ (hHeld.trans (hb.mono hHeld.size)) (fun hHeld => ?_)
        clear hK K
        try simp only [Act.put, List.setIfInBounds_toArray, List.set_cons_zero, List.set_cons_succ, List.getElem_toArray, List.getElem_cons_succ, List.getElem_cons_zero]
        refine wpAnyH_take (i := 8) (oi := _) (v := ?_) rfl (by kernel_rfl) (by kernel_rfl) (by kernel_rfl) (fun _ _ _ h => h) (Or.inl ⟨by rfl, ?_⟩) (by assumption) ?_
        rotate_left
        · (intro w hSw; (try dsimp only at hSw); (try simp only [List.getElem_toArray, List.getElem_cons_succ, List.getElem_cons_zero]); go_simp; try with_reducible rfl)
        simp only [Act.put, List.setIfInBounds_toArray, List.set_cons_zero, List.set_cons_succ, List.getElem_toArray, List.getElem_cons_succ, List.getElem_cons_zero]
        refine wpAnyH_done (by kernel_rfl) ?_ _
        go_wp2_with fail
        go_ret
        exact ⟨ret_bool HR.out.symm, HX.out _ hHeld⟩
      have HV := Lib.hid hv
      have HY2 := Lib.hid (HY.out hv)
      clear hv HN HY
      go_wp2_with fail
      refine wp_region_held_drew (S := (fun w' => Below W0.heap.size W0 w')) (by kernel_rfl) (hB.drew) (fun hHeld => ?_)
      refine wpAnyH_take (i := 0) (oi := _) (v := ?_) rfl (by kernel_rfl) (by kernel_rfl) (by kernel_rfl) (fun _ _ _ h => h) (Or.inl ⟨by rfl, ?_⟩) (by assumption) ?_
      rotate_left
      · (intro w hSw; (try dsimp only at hSw); (try simp only [List.getElem_toArray, List.getElem_cons_zero]); go_simp; try with_reducible rfl)
      simp only [Act.put, List.setIfInBounds_toArray, List.set_cons_zero, List.set_cons_succ, List.getElem_toArray, List.getElem_cons_zero]
      refine wpAnyH_take (i := 1) (oi := _) (v := ?_) rfl (by kernel_rfl) (by kernel_rfl) (by kernel_rfl) (fun _ _ _ h => h) (Or.inl ⟨by rfl, ?_⟩) (by assumption) ?_
      rotate_left
      · (intro w hSw; (try dsimp only at hSw); (try simp only [List.getElem_toArray, List.getElem_cons_succ, List.getElem_cons_zero]); go_simp; try with_reducible rfl)
      simp only [Act.put, List.setIfInBounds_toArray, List.set_cons_zero, List.set_cons_succ, List.getElem_toArray, List.getElem_cons_succ, List.getElem_cons_zero]
      refine wpAnyH_take (i := 2) (oi := _) (v := ?_) rfl (by kernel_rfl) (by kernel_rfl) (by kernel_rfl) (fun _ _ _ h => h) (Or.inl ⟨by rfl, ?_⟩) (by assumption) ?_
      rotate_left
      · (intro w hSw; (try dsimp only at hSw); (try simp only [List.getElem_toArray, List.getElem_cons_succ, List.getElem_cons_zero]); go_simp; try with_reducible rfl)
      simp only [Act.put, List.setIfInBounds_toArray, List.set_cons_zero, List.set_cons_succ, List.getElem_toArray, List.getElem_cons_succ, List.getElem_cons_zero]
      refine wpAnyH_take (i := 3) (oi := _) (v := ?_) rfl (by kernel_rfl) (by kernel_rfl) (by kernel_rfl) (fun _ _ _ h => h) (Or.inl ⟨by rfl, ?_⟩) (by assumption) ?_
      rotate_left
      · (intro w hSw; (try dsimp only at hSw); (try simp only [List.getElem_toArray, List.getElem_cons_succ, List.getElem_cons_zero]); go_simp; try with_reducible rfl)
      simp only [Act.put, List.setIfInBounds_toArray, List.set_cons_zero, List.set_cons_succ, List.getElem_toArray, List.getElem_cons_succ, List.getElem_cons_zero]
      refine wpAnyH_take (i := 4) (oi := _) (v := ?_) rfl (by kernel_rfl) (by kernel_rfl) (by kernel_rfl) (fun _ _ _ h => h) (Or.inl ⟨by rfl, ?_⟩) (by assumption) ?_
      rotate_left
      · (intro w hSw; (try dsimp only at hSw); (try simp only [List.getElem_toArray, List.getElem_cons_succ, List.getElem_cons_zero]); go_simp; try with_reducible rfl)
      simp only [Act.put, List.setIfInBounds_toArray, List.set_cons_zero, List.set_cons_succ, List.getElem_toArray, List.getElem_cons_succ, List.getElem_cons_zero]
      refine wpAnyH_take (i := 5) (oi := _) (v := ?_) rfl (by kernel_rfl) (by kernel_rfl) (by kernel_rfl) (fun _ _ _ h => h) (Or.inl ⟨by rfl, ?_⟩) (by assumption) ?_
      rotate_left
      · (intro w hSw; (try dsimp only at hSw); (try simp only [List.getElem_toArray, List.getElem_cons_succ, List.getElem_cons_zero]); go_simp; try with_reducible rfl)
      simp only [Act.put, List.setIfInBounds_toArray, List.set_cons_zero, List.set_cons_succ, List.getElem_toArray, List.getElem_cons_succ, List.getElem_cons_zero]
      refine wpAnyH_take (i := 6) (oi := _) (v := ?_) rfl (by kernel_rfl) (by kernel_rfl) (by kernel_rfl) (fun _ _ _ h => h) (Or.inl ⟨by rfl, ?_⟩) (by assumption) ?_
      rotate_left
      · (intro w hSw; (try dsimp only at hSw); (try simp only [List.getElem_toArray, List.getElem_cons_succ, List.getElem_cons_zero]); go_simp; try with_reducible rfl)
      simp only [Act.put, List.setIfInBounds_toArray, List.set_cons_zero, List.set_cons_succ, List.getElem_toArray, List.getElem_cons_succ, List.getElem_cons_zero]
      refine wpAnyH_ready (rs := [7]) (by kernel_rfl) (by simp) ?_
      refine AllReadyH.cons (o := _) rfl (fun K hK => ?_) AllReadyH.nil
      try simp only [List.getElem_toArray, List.getElem_cons_succ, List.getElem_cons_zero]
      go_simp
      (go_at_call 42; go_split_ands; (with_reducible refine (ralone_any x r.length _ HLEN.out).mono ?_); rintro e w2 ⟨rfl, hb⟩; rw [HV.out])
      go_wp2_with fail
      refine hK.out _ _ (hHeld.trans (hb.mono hHeld.size)) (fun hHeld => ?_)
      clear hK K
      try simp only [Act.put, List.setIfInBounds_toArray, List.set_cons_zero, List.set_cons_succ, List.getElem_toArray, List.getElem_cons_succ, List.getElem_cons_zero]
      refine wpAnyH_take (i := 8) (oi := _) (v := ?_) rfl (by kernel_rfl) (by kernel_rfl) (by kernel_rfl) (fun _ _ _ h => h) (Or.inl ⟨by rfl, ?_⟩) (by assumption) ?_
      rotate_left
      · (intro w hSw; (try dsimp only at hSw); (try simp only [List.getElem_toArray, List.getElem_cons_succ, List.getElem_cons_zero]); go_simp; try with_reducible rfl)
      simp only [Act.put, List.setIfInBounds_toArray, List.set_cons_zero, List.set_cons_succ, List.getElem_toArray, List.getElem_cons_succ, List.getElem_cons_zero]
      refine wpAnyH_done (by kernel_rfl) ?_ _
      clear hb
      have hB2 := hHeld
      clear hHeld
      go_wp2_with fail
      go_loopw [4] (fun i wr => ∃ m : Nat, m ≤ k ∧ i = .int .i64 m ∧ Hid (∀ i, i < m → (tg r.items i).name ≠ x.name ∧ apartB (tg r.items i) x = true) ∧ Below W0.heap.size W0 wr) (fun i _ => k - (intOf i).toNat)
      case atStart => exact ⟨0, Nat.zero_le _, rfl, Lib.hid (fun j hj => by omega), hB2⟩
      case round =>
        obtain ⟨m, hm, rfl, HA, hD⟩ := hrel
        by_cases hlm : m < k
        · obtain ⟨y, hy⟩ : ∃ y, tg r.items m = y := ⟨_, rfl⟩
          have hmlt : m < r.items.length := by omega
          have d0 : ∀ wx, Below W0.heap.size W0 wx → wx.cell? ⟨b, off + m * 7, none⟩ = some (.string (tg r.items m).name) := fun wx h => by
            obtain ⟨b', off', e, _, hc⟩ := (HS.out wx h).items (by omega)
            rw [HIA.out] at e
            cases e
            exact (hc m hmlt).1
          have d1 : ∀ wx, Below W0.heap.size W0 wx → wx.cell? ⟨b, off + m * 7 + 1, none⟩ = some (.int .i64 (tg r.items m).pos) := fun wx h => by
            obtain ⟨b', off', e, _, hc⟩ := (HS.out wx h).items (by omega)
            rw [HIA.out] at e
            cases e
            exact (hc m hmlt).2.1
          have d2 : ∀ wx, Below W0.heap.size W0 wx → wx.cell? ⟨b, off + m * 7 + 2, none⟩ = some (.int .i64 (tg r.items m).width) := fun wx h => by
            obtain ⟨b', off', e, _, hc⟩ := (HS.out wx h).items (by omega)
            rw [HIA.out] at e
            cases e
            exact (hc m hmlt).2.2.1
          have d3 : ∀ wx, Below W0.heap.size W0 wx → wx.cell? ⟨b, off + m * 7 + 3, none⟩ = some (.int .i64 (tg r.items m).weight) := fun wx h => by
            obtain ⟨b', off', e, _, hc⟩ := (HS.out wx h).items (by omega)
            rw [HIA.out] at e
            cases e
            exact (hc m hmlt).2.2.2.1
          have d4 : ∀ wx, Below W0.heap.size W0 wx → wx.cell? ⟨b, off + m * 7 + 4, none⟩ = some (.int .i64 (tg r.items m).hang) := fun wx h => by
            obtain ⟨b', off', e, _, hc⟩ := (HS.out wx h).items (by omega)
            rw [HIA.out] at e
            cases e
            exact (hc m hmlt).2.2.2.2.1
          have d5 : ∀ wx, Below W0.heap.size W0 wx → wx.cell? ⟨b, off + m * 7 + 5, none⟩ = some (.int .i64 (tg r.items m).front) := fun wx h => by
            obtain ⟨b', off', e, _, hc⟩ := (HS.out wx h).items (by omega)
            rw [HIA.out] at e
            cases e
            exact (hc m hmlt).2.2.2.2.2.1
          have d6 : ∀ wx, Below W0.heap.size W0 wx → wx.cell? ⟨b, off + m * 7 + 6, none⟩ = some (.int .i64 (tg r.items m).back) := fun wx h => by
            obtain ⟨b', off', e, _, hc⟩ := (HS.out wx h).items (by omega)
            rw [HIA.out] at e
            cases e
            exact (hc m hmlt).2.2.2.2.2.2
          have HZ : Hid (¬ (y.name ≠ x.name ∧ apartB y x = true) → R = false) := Lib.hid (by rw [← hy]; exact HNB.out m hlm)
          have HA2 : Hid (y.name ≠ x.name → apartB y x = true → ∀ i, i < m + 1 → (tg r.items i).name ≠ x.name ∧ apartB (tg r.items i) x = true) := Lib.hid fun h1 h2 i hi => by
            rcases (show i < m ∨ i = m by omega) with l | l
            · exact HA.out i l
            · subst l; rw [hy]; exact ⟨h1, h2⟩
          have HW : Hid (apartW y x = apartB y x) := Lib.hid (apartW_is (by rw [← hy]; exact (HO.out m hlm).1) HV.out HLEN.out)
          rw [hy] at d0 d1 d2 d3 d4 d5 d6
          clear hy
          have m1 : (m : Int) < r.items.length := by omega
          have m2 : (m : Int) < (k : Int) := by omega
          by_cases hne : y.name = x.name
          · have g1 : (y.name.toList == x.name.toList) = true := by rw [str_eq]; exact decide_eq_true hne
            have HR := Lib.hid (HZ.out fun h => h.1 hne)
            clear hne HZ HA2
            go_wp2_with fail
            refine wp_region_held_drew (S := (fun w' => Below W0.heap.size W0 w')) (by kernel_rfl) (hD.drew) (fun hHeld => ?_)
            refine wpAnyH_take (i := 0) (oi := _) (v := ?_) rfl (by kernel_rfl) (by kernel_rfl) (by kernel_rfl) (fun _ _ _ h => h) (Or.inl ⟨by rfl, ?_⟩) (by assumption) ?_
            rotate_left
            · (intro w hSw; (try dsimp only at hSw); (try simp only [List.getElem_toArray, List.getElem_cons_zero]); go_simp; try with_reducible rfl)
            simp only [Act.put, List.setIfInBounds_toArray, List.set_cons_zero, List.set_cons_succ, List.getElem_toArray, List.getElem_cons_zero]
            refine wpAnyH_take (i := 1) (oi := _) (v := ?_) rfl (by kernel_rfl) (by kernel_rfl) (by kernel_rfl) (fun _ _ _ h => h) (Or.inl ⟨by rfl, ?_⟩) (by assumption) ?_
            rotate_left
            · (intro w hSw; (try dsimp only at hSw); (try simp only [List.getElem_toArray, List.getElem_cons_succ, List.getElem_cons_zero]); go_simp; try with_reducible rfl)
            simp only [Act.put, List.setIfInBounds_toArray, List.set_cons_zero, List.set_cons_succ, List.getElem_toArray, List.getElem_cons_succ, List.getElem_cons_zero]
            refine wpAnyH_take (i := 2) (oi := _) (v := ?_) rfl (by kernel_rfl) (by kernel_rfl) (by kernel_rfl) (fun _ _ _ h => h) (Or.inl ⟨by rfl, ?_⟩) (by assumption) ?_
            rotate_left
            · (intro w hSw; (try dsimp only at hSw); (try simp only [List.getElem_toArray, List.getElem_cons_succ, List.getElem_cons_zero]); go_simp; try with_reducible rfl)
            simp only [Act.put, List.setIfInBounds_toArray, List.set_cons_zero, List.set_cons_succ, List.getElem_toArray, List.getElem_cons_succ, List.getElem_cons_zero]
            refine wpAnyH_take (i := 3) (oi := _) (v := ?_) rfl (by kernel_rfl) (by kernel_rfl) (by kernel_rfl) (fun _ _ _ h => h) (Or.inl ⟨by rfl, ?_⟩) (by assumption) ?_
            rotate_left
            · (intro w hSw; (try dsimp only at hSw); (try simp only [List.getElem_toArray, List.getElem_cons_succ, List.getElem_cons_zero]); go_simp; try with_reducible rfl)
            simp only [Act.put, List.setIfInBounds_toArray, List.set_cons_zero, List.set_cons_succ, List.getElem_toArray, List.getElem_cons_succ, List.getElem_cons_zero]
            refine wpAnyH_take (i := 4) (oi := _) (v := ?_) rfl (by kernel_rfl) (by kernel_rfl) (by kernel_rfl) (fun _ _ _ h => h) (Or.inl ⟨by rfl, ?_⟩) (by assumption) ?_
            rotate_left
            · (intro w hSw; (try dsimp only at hSw); (try simp only [List.getElem_toArray, List.getElem_cons_succ, List.getElem_cons_zero]); go_simp; try with_reducible rfl)
            simp only [Act.put, List.setIfInBounds_toArray, List.set_cons_zero, List.set_cons_succ, List.getElem_toArray, List.getElem_cons_succ, List.getElem_cons_zero]
            refine wpAnyH_take (i := 5) (oi := _) (v := ?_) rfl (by kernel_rfl) (by kernel_rfl) (by kernel_rfl) (fun _ _ _ h => h) (Or.inl ⟨by rfl, ?_⟩) (by assumption) ?_
            rotate_left
            · (intro w hSw; (try dsimp only at hSw); (try simp only [List.getElem_toArray, List.getElem_cons_succ, List.getElem_cons_zero]); go_simp; try with_reducible rfl)
            simp only [Act.put, List.setIfInBounds_toArray, List.set_cons_zero, List.set_cons_succ, List.getElem_toArray, List.getElem_cons_succ, List.getElem_cons_zero]
            refine wpAnyH_take (i := 6) (oi := _) (v := ?_) rfl (by kernel_rfl) (by kernel_rfl) (by kernel_rfl) (fun _ _ _ h => h) (Or.inl ⟨by rfl, ?_⟩) (by assumption) ?_
            rotate_left
            · (intro w hSw; (try dsimp only at hSw); (try simp only [List.getElem_toArray, List.getElem_cons_succ, List.getElem_cons_zero]); go_simp; try with_reducible rfl)
            simp only [Act.put, List.setIfInBounds_toArray, List.set_cons_zero, List.set_cons_succ, List.getElem_toArray, List.getElem_cons_succ, List.getElem_cons_zero]
            refine wpAnyH_take (i := 7) (oi := _) (v := ?_) rfl (by kernel_rfl) (by kernel_rfl) (by kernel_rfl) (fun _ _ _ h => h) (Or.inl ⟨by rfl, ?_⟩) (by assumption) ?_
            rotate_left
            · (intro w hSw; (try dsimp only at hSw); (try simp only [List.getElem_toArray, List.getElem_cons_succ, List.getElem_cons_zero]); go_simp; try with_reducible rfl)
            simp only [Act.put, List.setIfInBounds_toArray, List.set_cons_zero, List.set_cons_succ, List.getElem_toArray, List.getElem_cons_succ, List.getElem_cons_zero]
            refine wpAnyH_take (i := 8) (oi := _) (v := ?_) rfl (by kernel_rfl) (by kernel_rfl) (by kernel_rfl) (fun _ _ _ h => h) (Or.inl ⟨by rfl, ?_⟩) (by assumption) ?_
            rotate_left
            · (intro w hSw; (try dsimp only at hSw); (try simp only [List.getElem_toArray, List.getElem_cons_succ, List.getElem_cons_zero]); go_simp; try with_reducible rfl)
            simp only [Act.put, List.setIfInBounds_toArray, List.set_cons_zero, List.set_cons_succ, List.getElem_toArray, List.getElem_cons_succ, List.getElem_cons_zero]
            refine wpAnyH_take (i := 9) (oi := _) (v := ?_) rfl (by kernel_rfl) (by kernel_rfl) (by kernel_rfl) (fun _ _ _ h => h) (Or.inl ⟨by rfl, ?_⟩) (by assumption) ?_
            rotate_left
            · (intro w hSw; (try dsimp only at hSw); (try simp only [List.getElem_toArray, List.getElem_cons_succ, List.getElem_cons_zero]); go_simp; try with_reducible rfl)
            simp only [Act.put, List.setIfInBounds_toArray, List.set_cons_zero, List.set_cons_succ, List.getElem_toArray, List.getElem_cons_succ, List.getElem_cons_zero]
            refine wpAnyH_take (i := 10) (oi := _) (v := ?_) rfl (by kernel_rfl) (by kernel_rfl) (by kernel_rfl) (fun _ _ _ h => h) (Or.inl ⟨by rfl, ?_⟩) (by assumption) ?_
            rotate_left
            · (intro w hSw; (try dsimp only at hSw); (try simp only [List.getElem_toArray, List.getElem_cons_succ, List.getElem_cons_zero]); go_simp; try with_reducible rfl)
            simp only [Act.put, List.setIfInBounds_toArray, List.set_cons_zero, List.set_cons_succ, List.getElem_toArray, List.getElem_cons_succ, List.getElem_cons_zero]
            refine wpAnyH_take (i := 11) (oi := _) (v := ?_) rfl (by kernel_rfl) (by kernel_rfl) (by kernel_rfl) (fun _ _ _ h => h) (Or.inl ⟨by rfl, ?_⟩) (by assumption) ?_
            rotate_left
            · (intro w hSw; (try dsimp only at hSw); (try simp only [List.getElem_toArray, List.getElem_cons_succ, List.getElem_cons_zero]); go_simp; try with_reducible rfl)
            simp only [Act.put, List.setIfInBounds_toArray, List.set_cons_zero, List.set_cons_succ, List.getElem_toArray, List.getElem_cons_succ, List.getElem_cons_zero]
            refine wpAnyH_take (i := 12) (oi := _) (v := ?_) rfl (by kernel_rfl) (by kernel_rfl) (by kernel_rfl) (fun _ _ _ h => h) (Or.inl ⟨by rfl, ?_⟩) (by assumption) ?_
            rotate_left
            · (intro w hSw; (try dsimp only at hSw); (try simp only [List.getElem_toArray, List.getElem_cons_succ, List.getElem_cons_zero]); go_simp; try with_reducible rfl)
            simp only [Act.put, List.setIfInBounds_toArray, List.set_cons_zero, List.set_cons_succ, List.getElem_toArray, List.getElem_cons_succ, List.getElem_cons_zero]
            refine wpAnyH_take (i := 13) (oi := _) (v := ?_) rfl (by kernel_rfl) (by kernel_rfl) (by kernel_rfl) (fun _ _ _ h => h) (Or.inl ⟨by rfl, ?_⟩) (by assumption) ?_
            rotate_left
            · (intro w hSw; (try dsimp only at hSw); (try simp only [List.getElem_toArray, List.getElem_cons_succ, List.getElem_cons_zero]); go_simp; try with_reducible rfl)
            simp only [Act.put, List.setIfInBounds_toArray, List.set_cons_zero, List.set_cons_succ, List.getElem_toArray, List.getElem_cons_succ, List.getElem_cons_zero]
            refine wpAnyH_take (i := 14) (oi := _) (v := undef) rfl (by kernel_rfl) (by kernel_rfl) (by kernel_rfl) (fun _ _ _ h => h) (Or.inr ⟨by rfl, rfl⟩) (by assumption) ?_
            simp only [Act.put, List.setIfInBounds_toArray, List.set_cons_zero, List.set_cons_succ, List.getElem_toArray, List.getElem_cons_succ, List.getElem_cons_zero]
            refine wpAnyH_take (i := 15) (oi := _) (v := undef) rfl (by kernel_rfl) (by kernel_rfl) (by kernel_rfl) (fun _ _ _ h => h) (Or.inr ⟨by rfl, rfl⟩) (by assumption) ?_
            simp only [Act.put, List.setIfInBounds_toArray, List.set_cons_zero, List.set_cons_succ, List.getElem_toArray, List.getElem_cons_succ, List.getElem_cons_zero]
            refine wpAnyH_take (i := 16) (oi := _) (v := undef) rfl (by kernel_rfl) (by kernel_rfl) (by kernel_rfl) (fun _ _ _ h => h) (Or.inr ⟨by rfl, rfl⟩) (by assumption) ?_
            simp only [Act.put, List.setIfInBounds_toArray, List.set_cons_zero, List.set_cons_succ, List.getElem_toArray, List.getElem_cons_succ, List.getElem_cons_zero]
            refine wpAnyH_take (i := 17) (oi := _) (v := undef) rfl (by kernel_rfl) (by kernel_rfl) (by kernel_rfl) (fun _ _ _ h => h) (Or.inr ⟨by rfl, rfl⟩) (by assumption) ?_
            simp only [Act.put, List.setIfInBounds_toArray, List.set_cons_zero, List.set_cons_succ, List.getElem_toArray, List.getElem_cons_succ, List.getElem_cons_zero]
            refine wpAnyH_take (i := 18) (oi := _) (v := undef) rfl (by kernel_rfl) (by kernel_rfl) (by kernel_rfl) (fun _ _ _ h => h) (Or.inr ⟨by rfl, rfl⟩) (by assumption) ?_
            simp only [Act.put, List.setIfInBounds_toArray, List.set_cons_zero, List.set_cons_succ, List.getElem_toArray, List.getElem_cons_succ, List.getElem_cons_zero]
            refine wpAnyH_take (i := 19) (oi := _) (v := undef) rfl (by kernel_rfl) (by kernel_rfl) (by kernel_rfl) (fun _ _ _ h => h) (Or.inr ⟨by rfl, rfl⟩) (by assumption) ?_
            simp only [Act.put, List.setIfInBounds_toArray, List.set_cons_zero, List.set_cons_succ, List.getElem_toArray, List.getElem_cons_succ, List.getElem_cons_zero]
            refine wpAnyH_take (i := 20) (oi := _) (v := undef) rfl (by kernel_rfl) (by kernel_rfl) (by kernel_rfl) (fun _ _ _ h => h) (Or.inr ⟨by rfl, rfl⟩) (by assumption) ?_
            simp only [Act.put, List.setIfInBounds_toArray, List.set_cons_zero, List.set_cons_succ, List.getElem_toArray, List.getElem_cons_succ, List.getElem_cons_zero]
            refine wpAnyH_take (i := 21) (oi := _) (v := undef) rfl (by kernel_rfl) (by kernel_rfl) (by kernel_rfl) (fun _ _ _ h => h) (Or.inr ⟨by rfl, rfl⟩) (by assumption) ?_
            simp only [Act.put, List.setIfInBounds_toArray, List.set_cons_zero, List.set_cons_succ, List.getElem_toArray, List.getElem_cons_succ, List.getElem_cons_zero]
            refine wpAnyH_take (i := 22) (oi := _) (v := undef) rfl (by kernel_rfl) (by kernel_rfl) (by kernel_rfl) (fun _ _ _ h => h) (Or.inr ⟨by rfl, rfl⟩) (by assumption) ?_
            simp only [Act.put, List.setIfInBounds_toArray, List.set_cons_zero, List.set_cons_succ, List.getElem_toArray, List.getElem_cons_succ, List.getElem_cons_zero]
            refine wpAnyH_take (i := 23) (oi := _) (v := undef) rfl (by kernel_rfl) (by kernel_rfl) (by kernel_rfl) (fun _ _ _ h => h) (Or.inr ⟨by rfl, rfl⟩) (by assumption) ?_
            simp only [Act.put, List.setIfInBounds_toArray, List.set_cons_zero, List.set_cons_succ, List.getElem_toArray, List.getElem_cons_succ, List.getElem_cons_zero]
            refine wpAnyH_take (i := 24) (oi := _) (v := undef) rfl (by kernel_rfl) (by kernel_rfl) (by kernel_rfl) (fun _ _ _ h => h) (Or.inr ⟨by rfl, rfl⟩) (by assumption) ?_
            simp only [Act.put, List.setIfInBounds_toArray, List.set_cons_zero, List.set_cons_succ, List.getElem_toArray, List.getElem_cons_succ, List.getElem_cons_zero]
            refine wpAnyH_take (i := 25) (oi := _) (v := undef) rfl (by kernel_rfl) (by kernel_rfl) (by kernel_rfl) (fun _ _ _ h => h) (Or.inr ⟨by rfl, rfl⟩) (by assumption) ?_
            simp only [Act.put, List.setIfInBounds_toArray, List.set_cons_zero, List.set_cons_succ, List.getElem_toArray, List.getElem_cons_succ, List.getElem_cons_zero]
            refine wpAnyH_take (i := 26) (oi := _) (v := ?_) rfl (by kernel_rfl) (by kernel_rfl) (by kernel_rfl) (fun _ _ _ h => h) (Or.inl ⟨by rfl, ?_⟩) (by assumption) ?_
            rotate_left
            · (intro w hSw; (try dsimp only at hSw); (try simp only [List.getElem_toArray, List.getElem_cons_succ, List.getElem_cons_zero]); go_simp; try with_reducible rfl)
            simp only [Act.put, List.setIfInBounds_toArray, List.set_cons_zero, List.set_cons_succ, List.getElem_toArray, List.getElem_cons_succ, List.getElem_cons_zero]
            refine wpAnyH_done (by kernel_rfl) ?_ _
            go_wp2_with fail
            go_ret
            exact ⟨ret_bool HR.out.symm, HX.out _ hHeld⟩
          have g1 : (y.name.toList == x.name.toList) = false := by rw [str_eq]; exact decide_eq_false hne
          cases hv2 : apartB y x
          · have HV2 : Hid (apartW y x = false) := Lib.hid (by rw [HW.out, hv2])
            have HR := Lib.hid (HZ.out fun h => by rw [hv2] at h; cases h.2)
            clear hne HZ HA2 hv2
            go_wp2_with fail
            refine wp_region_held_drew (S := (fun w' => Below W0.heap.size W0 w')) (by kernel_rfl) (hD.drew) (fun hHeld => ?_)
            refine wpAnyH_take (i := 0) (oi := _) (v := ?_) rfl (by kernel_rfl) (by kernel_rfl) (by kernel_rfl) (fun _ _ _ h => h) (Or.inl ⟨by rfl, ?_⟩) (by assumption) ?_
            rotate_left
            · (intro w hSw; (try dsimp only at hSw); (try simp only [List.getElem_toArray, List.getElem_cons_zero]); go_simp; try with_reducible rfl)
            simp only [Act.put, List.setIfInBounds_toArray, List.set_cons_zero, List.set_cons_succ, List.getElem_toArray, List.getElem_cons_zero]
            refine wpAnyH_take (i := 1) (oi := _) (v := ?_) rfl (by kernel_rfl) (by kernel_rfl) (by kernel_rfl) (fun _ _ _ h => h) (Or.inl ⟨by rfl, ?_⟩) (by assumption) ?_
            rotate_left
            · (intro w hSw; (try dsimp only at hSw); (try simp only [List.getElem_toArray, List.getElem_cons_succ, List.getElem_cons_zero]); go_simp; try with_reducible rfl)
            simp only [Act.put, List.setIfInBounds_toArray, List.set_cons_zero, List.set_cons_succ, List.getElem_toArray, List.getElem_cons_succ, List.getElem_cons_zero]
            refine wpAnyH_take (i := 2) (oi := _) (v := ?_) rfl (by kernel_rfl) (by kernel_rfl) (by kernel_rfl) (fun _ _ _ h => h) (Or.inl ⟨by rfl, ?_⟩) (by assumption) ?_
            rotate_left
            · (intro w hSw; (try dsimp only at hSw); (try simp only [List.getElem_toArray, List.getElem_cons_succ, List.getElem_cons_zero]); go_simp; try with_reducible rfl)
            simp only [Act.put, List.setIfInBounds_toArray, List.set_cons_zero, List.set_cons_succ, List.getElem_toArray, List.getElem_cons_succ, List.getElem_cons_zero]
            refine wpAnyH_take (i := 3) (oi := _) (v := ?_) rfl (by kernel_rfl) (by kernel_rfl) (by kernel_rfl) (fun _ _ _ h => h) (Or.inl ⟨by rfl, ?_⟩) (by assumption) ?_
            rotate_left
            · (intro w hSw; (try dsimp only at hSw); (try simp only [List.getElem_toArray, List.getElem_cons_succ, List.getElem_cons_zero]); go_simp; try with_reducible rfl)
            simp only [Act.put, List.setIfInBounds_toArray, List.set_cons_zero, List.set_cons_succ, List.getElem_toArray, List.getElem_cons_succ, List.getElem_cons_zero]
            refine wpAnyH_take (i := 4) (oi := _) (v := ?_) rfl (by kernel_rfl) (by kernel_rfl) (by kernel_rfl) (fun _ _ _ h => h) (Or.inl ⟨by rfl, ?_⟩) (by assumption) ?_
            rotate_left
            · (intro w hSw; (try dsimp only at hSw); (try simp only [List.getElem_toArray, List.getElem_cons_succ, List.getElem_cons_zero]); go_simp; try with_reducible rfl)
            simp only [Act.put, List.setIfInBounds_toArray, List.set_cons_zero, List.set_cons_succ, List.getElem_toArray, List.getElem_cons_succ, List.getElem_cons_zero]
            refine wpAnyH_take (i := 5) (oi := _) (v := ?_) rfl (by kernel_rfl) (by kernel_rfl) (by kernel_rfl) (fun _ _ _ h => h) (Or.inl ⟨by rfl, ?_⟩) (by assumption) ?_
            rotate_left
            · (intro w hSw; (try dsimp only at hSw); (try simp only [List.getElem_toArray, List.getElem_cons_succ, List.getElem_cons_zero]); go_simp; try with_reducible rfl)
            simp only [Act.put, List.setIfInBounds_toArray, List.set_cons_zero, List.set_cons_succ, List.getElem_toArray, List.getElem_cons_succ, List.getElem_cons_zero]
            refine wpAnyH_take (i := 6) (oi := _) (v := ?_) rfl (by kernel_rfl) (by kernel_rfl) (by kernel_rfl) (fun _ _ _ h => h) (Or.inl ⟨by rfl, ?_⟩) (by assumption) ?_
            rotate_left
            · (intro w hSw; (try dsimp only at hSw); (try simp only [List.getElem_toArray, List.getElem_cons_succ, List.getElem_cons_zero]); go_simp; try with_reducible rfl)
            simp only [Act.put, List.setIfInBounds_toArray, List.set_cons_zero, List.set_cons_succ, List.getElem_toArray, List.getElem_cons_succ, List.getElem_cons_zero]
            refine wpAnyH_take (i := 7) (oi := _) (v := ?_) rfl (by kernel_rfl) (by kernel_rfl) (by kernel_rfl) (fun _ _ _ h => h) (Or.inl ⟨by rfl, ?_⟩) (by assumption) ?_
            rotate_left
            · (intro w hSw; (try dsimp only at hSw); (try simp only [List.getElem_toArray, List.getElem_cons_succ, List.getElem_cons_zero]); go_simp; try with_reducible rfl)
            simp only [Act.put, List.setIfInBounds_toArray, List.set_cons_zero, List.set_cons_succ, List.getElem_toArray, List.getElem_cons_succ, List.getElem_cons_zero]
            refine wpAnyH_take (i := 8) (oi := _) (v := ?_) rfl (by kernel_rfl) (by kernel_rfl) (by kernel_rfl) (fun _ _ _ h => h) (Or.inl ⟨by rfl, ?_⟩) (by assumption) ?_
            rotate_left
            · (intro w hSw; (try dsimp only at hSw); (try simp only [List.getElem_toArray, List.getElem_cons_succ, List.getElem_cons_zero]); go_simp; try with_reducible rfl)
            simp only [Act.put, List.setIfInBounds_toArray, List.set_cons_zero, List.set_cons_succ, List.getElem_toArray, List.getElem_cons_succ, List.getElem_cons_zero]
            refine wpAnyH_take (i := 9) (oi := _) (v := ?_) rfl (by kernel_rfl) (by kernel_rfl) (by kernel_rfl) (fun _ _ _ h => h) (Or.inl ⟨by rfl, ?_⟩) (by assumption) ?_
            rotate_left
            · (intro w hSw; (try dsimp only at hSw); (try simp only [List.getElem_toArray, List.getElem_cons_succ, List.getElem_cons_zero]); go_simp; try with_reducible rfl)
            simp only [Act.put, List.setIfInBounds_toArray, List.set_cons_zero, List.set_cons_succ, List.getElem_toArray, List.getElem_cons_succ, List.getElem_cons_zero]
            refine wpAnyH_take (i := 10) (oi := _) (v := ?_) rfl (by kernel_rfl) (by kernel_rfl) (by kernel_rfl) (fun _ _ _ h => h) (Or.inl ⟨by rfl, ?_⟩) (by assumption) ?_
            rotate_left
            · (intro w hSw; (try dsimp only at hSw); (try simp only [List.getElem_toArray, List.getElem_cons_succ, List.getElem_cons_zero]); go_simp; try with_reducible rfl)
            simp only [Act.put, List.setIfInBounds_toArray, List.set_cons_zero, List.set_cons_succ, List.getElem_toArray, List.getElem_cons_succ, List.getElem_cons_zero]
            refine wpAnyH_take (i := 11) (oi := _) (v := ?_) rfl (by kernel_rfl) (by kernel_rfl) (by kernel_rfl) (fun _ _ _ h => h) (Or.inl ⟨by rfl, ?_⟩) (by assumption) ?_
            rotate_left
            · (intro w hSw; (try dsimp only at hSw); (try simp only [List.getElem_toArray, List.getElem_cons_succ, List.getElem_cons_zero]); go_simp; try with_reducible rfl)
            simp only [Act.put, List.setIfInBounds_toArray, List.set_cons_zero, List.set_cons_succ, List.getElem_toArray, List.getElem_cons_succ, List.getElem_cons_zero]
            refine wpAnyH_take (i := 12) (oi := _) (v := ?_) rfl (by kernel_rfl) (by kernel_rfl) (by kernel_rfl) (fun _ _ _ h => h) (Or.inl ⟨by rfl, ?_⟩) (by assumption) ?_
            rotate_left
            · (intro w hSw; (try dsimp only at hSw); (try simp only [List.getElem_toArray, List.getElem_cons_succ, List.getElem_cons_zero]); go_simp; try with_reducible rfl)
            simp only [Act.put, List.setIfInBounds_toArray, List.set_cons_zero, List.set_cons_succ, List.getElem_toArray, List.getElem_cons_succ, List.getElem_cons_zero]
            refine wpAnyH_take (i := 13) (oi := _) (v := ?_) rfl (by kernel_rfl) (by kernel_rfl) (by kernel_rfl) (fun _ _ _ h => h) (Or.inl ⟨by rfl, ?_⟩) (by assumption) ?_
            rotate_left
            · (intro w hSw; (try dsimp only at hSw); (try simp only [List.getElem_toArray, List.getElem_cons_succ, List.getElem_cons_zero]); go_simp; try with_reducible rfl)
            simp only [Act.put, List.setIfInBounds_toArray, List.set_cons_zero, List.set_cons_succ, List.getElem_toArray, List.getElem_cons_succ, List.getElem_cons_zero]
            refine wpAnyH_take (i := 14) (oi := _) (v := ?_) rfl (by kernel_rfl) (by kernel_rfl) (by kernel_rfl) (fun _ _ _ h => h) (Or.inl ⟨by rfl, ?_⟩) (by assumption) ?_
            rotate_left
            · (intro w hSw; (try dsimp only at hSw); (try simp only [List.getElem_toArray, List.getElem_cons_succ, List.getElem_cons_zero]); go_simp; try with_reducible rfl)
            simp only [Act.put, List.setIfInBounds_toArray, List.set_cons_zero, List.set_cons_succ, List.getElem_toArray, List.getElem_cons_succ, List.getElem_cons_zero]
            refine wpAnyH_take (i := 15) (oi := _) (v := ?_) rfl (by kernel_rfl) (by kernel_rfl) (by kernel_rfl) (fun _ _ _ h => h) (Or.inl ⟨by rfl, ?_⟩) (by assumption) ?_
            rotate_left
            · (intro w hSw; (try dsimp only at hSw); (try simp only [List.getElem_toArray, List.getElem_cons_succ, List.getElem_cons_zero]); go_simp; try with_reducible rfl)
            simp only [Act.put, List.setIfInBounds_toArray, List.set_cons_zero, List.set_cons_succ, List.getElem_toArray, List.getElem_cons_succ, List.getElem_cons_zero]
            refine wpAnyH_take (i := 16) (oi := _) (v := ?_) rfl (by kernel_rfl) (by kernel_rfl) (by kernel_rfl) (fun _ _ _ h => h) (Or.inl ⟨by rfl, ?_⟩) (by assumption) ?_
            rotate_left
            · (intro w hSw; (try dsimp only at hSw); (try simp only [List.getElem_toArray, List.getElem_cons_succ, List.getElem_cons_zero]); go_simp; try with_reducible rfl)
            simp only [Act.put, List.setIfInBounds_toArray, List.set_cons_zero, List.set_cons_succ, List.getElem_toArray, List.getElem_cons_succ, List.getElem_cons_zero]
            refine wpAnyH_take (i := 17) (oi := _) (v := ?_) rfl (by kernel_rfl) (by kernel_rfl) (by kernel_rfl) (fun _ _ _ h => h) (Or.inl ⟨by rfl, ?_⟩) (by assumption) ?_
            rotate_left
            · (intro w hSw; (try dsimp only at hSw); (try simp only [List.getElem_toArray, List.getElem_cons_succ, List.getElem_cons_zero]); go_simp; try with_reducible rfl)
            simp only [Act.put, List.setIfInBounds_toArray, List.set_cons_zero, List.set_cons_succ, List.getElem_toArray, List.getElem_cons_succ, List.getElem_cons_zero]
            refine wpAnyH_take (i := 18) (oi := _) (v := ?_) rfl (by kernel_rfl) (by kernel_rfl) (by kernel_rfl) (fun _ _ _ h => h) (Or.inl ⟨by rfl, ?_⟩) (by assumption) ?_
            rotate_left
            · (intro w hSw; (try dsimp only at hSw); (try simp only [List.getElem_toArray, List.getElem_cons_succ, List.getElem_cons_zero]); go_simp; try with_reducible rfl)
            simp only [Act.put, List.setIfInBounds_toArray, List.set_cons_zero, List.set_cons_succ, List.getElem_toArray, List.getElem_cons_succ, List.getElem_cons_zero]
            refine wpAnyH_take (i := 19) (oi := _) (v := ?_) rfl (by kernel_rfl) (by kernel_rfl) (by kernel_rfl) (fun _ _ _ h => h) (Or.inl ⟨by rfl, ?_⟩) (by assumption) ?_
            rotate_left
            · (intro w hSw; (try dsimp only at hSw); (try simp only [List.getElem_toArray, List.getElem_cons_succ, List.getElem_cons_zero]); go_simp; try with_reducible rfl)
            simp only [Act.put, List.setIfInBounds_toArray, List.set_cons_zero, List.set_cons_succ, List.getElem_toArray, List.getElem_cons_succ, List.getElem_cons_zero]
            refine wpAnyH_take (i := 20) (oi := _) (v := ?_) rfl (by kernel_rfl) (by kernel_rfl) (by kernel_rfl) (fun _ _ _ h => h) (Or.inl ⟨by rfl, ?_⟩) (by assumption) ?_
            rotate_left
            · (intro w hSw; (try dsimp only at hSw); (try simp only [List.getElem_toArray, List.getElem_cons_succ, List.getElem_cons_zero]); go_simp; try with_reducible rfl)
            simp only [Act.put, List.setIfInBounds_toArray, List.set_cons_zero, List.set_cons_succ, List.getElem_toArray, List.getElem_cons_succ, List.getElem_cons_zero]
            refine wpAnyH_take (i := 21) (oi := _) (v := ?_) rfl (by kernel_rfl) (by kernel_rfl) (by kernel_rfl) (fun _ _ _ h => h) (Or.inl ⟨by rfl, ?_⟩) (by assumption) ?_
            rotate_left
            · (intro w hSw; (try dsimp only at hSw); (try simp only [List.getElem_toArray, List.getElem_cons_succ, List.getElem_cons_zero]); go_simp; try with_reducible rfl)
            simp only [Act.put, List.setIfInBounds_toArray, List.set_cons_zero, List.set_cons_succ, List.getElem_toArray, List.getElem_cons_succ, List.getElem_cons_zero]
            refine wpAnyH_take (i := 22) (oi := _) (v := ?_) rfl (by kernel_rfl) (by kernel_rfl) (by kernel_rfl) (fun _ _ _ h => h) (Or.inl ⟨by rfl, ?_⟩) (by assumption) ?_
            rotate_left
            · (intro w hSw; (try dsimp only at hSw); (try simp only [List.getElem_toArray, List.getElem_cons_succ, List.getElem_cons_zero]); go_simp; try with_reducible rfl)
            simp only [Act.put, List.setIfInBounds_toArray, List.set_cons_zero, List.set_cons_succ, List.getElem_toArray, List.getElem_cons_succ, List.getElem_cons_zero]
            refine wpAnyH_take (i := 23) (oi := _) (v := ?_) rfl (by kernel_rfl) (by kernel_rfl) (by kernel_rfl) (fun _ _ _ h => h) (Or.inl ⟨by rfl, ?_⟩) (by assumption) ?_
            rotate_left
            · (intro w hSw; (try dsimp only at hSw); (try simp only [List.getElem_toArray, List.getElem_cons_succ, List.getElem_cons_zero]); go_simp; try with_reducible rfl)
            simp only [Act.put, List.setIfInBounds_toArray, List.set_cons_zero, List.set_cons_succ, List.getElem_toArray, List.getElem_cons_succ, List.getElem_cons_zero]
            refine wpAnyH_ready (rs := [24]) (by kernel_rfl) (by simp) ?_
            refine AllReadyH.cons (o := _) rfl (fun K hK => ?_) AllReadyH.nil
            try simp only [List.getElem_toArray, List.getElem_cons_succ, List.getElem_cons_zero]
            go_simp
            (go_at_call 43; go_split_ands; (with_reducible refine (rapart_any y x _).mono ?_); rintro e w2 ⟨rfl, hb⟩; rw [HV2.out])
            go_wp2_with fail
            refine hK.out _ _ (hHeld.trans (hb.mono hHeld.size)) (fun hHeld => ?_)
            clear hK K
            try simp only [Act.put, List.setIfInBounds_toArray, List.set_cons_zero, List.set_cons_succ, List.getElem_toArray, List.getElem_cons_succ, List.getElem_cons_zero]
            refine wpAnyH_take (i := 25) (oi := _) (v := ?_) rfl (by kernel_rfl) (by kernel_rfl) (by kernel_rfl) (fun _ _ _ h => h) (Or.inl ⟨by rfl, ?_⟩) (by assumption) ?_
            rotate_left
            · (intro w hSw; (try dsimp only at hSw); (try simp only [List.getElem_toArray, List.getElem_cons_succ, List.getElem_cons_zero]); go_simp; try with_reducible rfl)
            simp only [Act.put, List.setIfInBounds_toArray, List.set_cons_zero, List.set_cons_succ, List.getElem_toArray, List.getElem_cons_succ, List.getElem_cons_zero]
            refine wpAnyH_take (i := 26) (oi := _) (v := ?_) rfl (by kernel_rfl) (by kernel_rfl) (by kernel_rfl) (fun _ _ _ h => h) (Or.inl ⟨by rfl, ?_⟩) (by assumption) ?_
            rotate_left
            · (intro w hSw; (try dsimp only at hSw); (try simp only [List.getElem_toArray, List.getElem_cons_succ, List.getElem_cons_zero]); go_simp; try with_reducible rfl)
            simp only [Act.put, List.setIfInBounds_toArray, List.set_cons_zero, List.set_cons_succ, List.getElem_toArray, List.getElem_cons_succ, List.getElem_cons_zero]
            refine wpAnyH_done (by kernel_rfl) ?_ _
            go_wp2_with fail
            go_ret
            exact ⟨ret_bool HR.out.symm, HX.out _ hHeld⟩
          have HV2 : Hid (apartW y x = true) := Lib.hid (by rw [HW.out, hv2])
          have HA3 := Lib.hid (HA2.out hne hv2)
          clear hne HZ HA2 hv2
          go_wp2_with fail
          refine wp_region_held_drew (S := (fun w' => Below W0.heap.size W0 w')) (by kernel_rfl) (hD.drew) (fun hHeld => ?_)
          refine wpAnyH_take (i := 0) (oi := _) (v := ?_) rfl (by kernel_rfl) (by kernel_rfl) (by kernel_rfl) (fun _ _ _ h => h) (Or.inl ⟨by rfl, ?_⟩) (by assumption) ?_
          rotate_left
          · (intro w hSw; (try dsimp only at hSw); (try simp only [List.getElem_toArray, List.getElem_cons_zero]); go_simp; try with_reducible rfl)
          simp only [Act.put, List.setIfInBounds_toArray, List.set_cons_zero, List.set_cons_succ, List.getElem_toArray, List.getElem_cons_zero]
          refine wpAnyH_take (i := 1) (oi := _) (v := ?_) rfl (by kernel_rfl) (by kernel_rfl) (by kernel_rfl) (fun _ _ _ h => h) (Or.inl ⟨by rfl, ?_⟩) (by assumption) ?_
          rotate_left
          · (intro w hSw; (try dsimp only at hSw); (try simp only [List.getElem_toArray, List.getElem_cons_succ, List.getElem_cons_zero]); go_simp; try with_reducible rfl)
          simp only [Act.put, List.setIfInBounds_toArray, List.set_cons_zero, List.set_cons_succ, List.getElem_toArray, List.getElem_cons_succ, List.getElem_cons_zero]
          refine wpAnyH_take (i := 2) (oi := _) (v := ?_) rfl (by kernel_rfl) (by kernel_rfl) (by kernel_rfl) (fun _ _ _ h => h) (Or.inl ⟨by rfl, ?_⟩) (by assumption) ?_
          rotate_left
          · (intro w hSw; (try dsimp only at hSw); (try simp only [List.getElem_toArray, List.getElem_cons_succ, List.getElem_cons_zero]); go_simp; try with_reducible rfl)
          simp only [Act.put, List.setIfInBounds_toArray, List.set_cons_zero, List.set_cons_succ, List.getElem_toArray, List.getElem_cons_succ, List.getElem_cons_zero]
          refine wpAnyH_take (i := 3) (oi := _) (v := ?_) rfl (by kernel_rfl) (by kernel_rfl) (by kernel_rfl) (fun _ _ _ h => h) (Or.inl ⟨by rfl, ?_⟩) (by assumption) ?_
          rotate_left
          · (intro w hSw; (try dsimp only at hSw); (try simp only [List.getElem_toArray, List.getElem_cons_succ, List.getElem_cons_zero]); go_simp; try with_reducible rfl)
          simp only [Act.put, List.setIfInBounds_toArray, List.set_cons_zero, List.set_cons_succ, List.getElem_toArray, List.getElem_cons_succ, List.getElem_cons_zero]
          refine wpAnyH_take (i := 4) (oi := _) (v := ?_) rfl (by kernel_rfl) (by kernel_rfl) (by kernel_rfl) (fun _ _ _ h => h) (Or.inl ⟨by rfl, ?_⟩) (by assumption) ?_
          rotate_left
          · (intro w hSw; (try dsimp only at hSw); (try simp only [List.getElem_toArray, List.getElem_cons_succ, List.getElem_cons_zero]); go_simp; try with_reducible rfl)
          simp only [Act.put, List.setIfInBounds_toArray, List.set_cons_zero, List.set_cons_succ, List.getElem_toArray, List.getElem_cons_succ, List.getElem_cons_zero]
          refine wpAnyH_take (i := 5) (oi := _) (v := ?_) rfl (by kernel_rfl) (by kernel_rfl) (by kernel_rfl) (fun _ _ _ h => h) (Or.inl ⟨by rfl, ?_⟩) (by assumption) ?_
          rotate_left
          · (intro w hSw; (try dsimp only at hSw); (try simp only [List.getElem_toArray, List.getElem_cons_succ, List.getElem_cons_zero]); go_simp; try with_reducible rfl)
          simp only [Act.put, List.setIfInBounds_toArray, List.set_cons_zero, List.set_cons_succ, List.getElem_toArray, List.getElem_cons_succ, List.getElem_cons_zero]
          refine wpAnyH_take (i := 6) (oi := _) (v := ?_) rfl (by kernel_rfl) (by kernel_rfl) (by kernel_rfl) (fun _ _ _ h => h) (Or.inl ⟨by rfl, ?_⟩) (by assumption) ?_
          rotate_left
          · (intro w hSw; (try dsimp only at hSw); (try simp only [List.getElem_toArray, List.getElem_cons_succ, List.getElem_cons_zero]); go_simp; try with_reducible rfl)
          simp only [Act.put, List.setIfInBounds_toArray, List.set_cons_zero, List.set_cons_succ, List.getElem_toArray, List.getElem_cons_succ, List.getElem_cons_zero]
          refine wpAnyH_take (i := 7) (oi := _) (v := ?_) rfl (by kernel_rfl) (by kernel_rfl) (by kernel_rfl) (fun _ _ _ h => h) (Or.inl ⟨by rfl, ?_⟩) (by assumption) ?_
          rotate_left
          · (intro w hSw; (try dsimp only at hSw); (try simp only [List.getElem_toArray, List.getElem_cons_succ, List.getElem_cons_zero]); go_simp; try with_reducible rfl)
          simp only [Act.put, List.setIfInBounds_toArray, List.set_cons_zero, List.set_cons_succ, List.getElem_toArray, List.getElem_cons_succ, List.getElem_cons_zero]
          refine wpAnyH_take (i := 8) (oi := _) (v := ?_) rfl (by kernel_rfl) (by kernel_rfl) (by kernel_rfl) (fun _ _ _ h => h) (Or.inl ⟨by rfl, ?_⟩) (by assumption) ?_
          rotate_left
          · (intro w hSw; (try dsimp only at hSw); (try simp only [List.getElem_toArray, List.getElem_cons_succ, List.getElem_cons_zero]); go_simp; try with_reducible rfl)
          simp only [Act.put, List.setIfInBounds_toArray, List.set_cons_zero, List.set_cons_succ, List.getElem_toArray, List.getElem_cons_succ, List.getElem_cons_zero]
          refine wpAnyH_take (i := 9) (oi := _) (v := ?_) rfl (by kernel_rfl) (by kernel_rfl) (by kernel_rfl) (fun _ _ _ h => h) (Or.inl ⟨by rfl, ?_⟩) (by assumption) ?_
          rotate_left
          · (intro w hSw; (try dsimp only at hSw); (try simp only [List.getElem_toArray, List.getElem_cons_succ, List.getElem_cons_zero]); go_simp; try with_reducible rfl)
          simp only [Act.put, List.setIfInBounds_toArray, List.set_cons_zero, List.set_cons_succ, List.getElem_toArray, List.getElem_cons_succ, List.getElem_cons_zero]
          refine wpAnyH_take (i := 10) (oi := _) (v := ?_) rfl (by kernel_rfl) (by kernel_rfl) (by kernel_rfl) (fun _ _ _ h => h) (Or.inl ⟨by rfl, ?_⟩) (by assumption) ?_
          rotate_left
          · (intro w hSw; (try dsimp only at hSw); (try simp only [List.getElem_toArray, List.getElem_cons_succ, List.getElem_cons_zero]); go_simp; try with_reducible rfl)
          simp only [Act.put, List.setIfInBounds_toArray, List.set_cons_zero, List.set_cons_succ, List.getElem_toArray, List.getElem_cons_succ, List.getElem_cons_zero]
          refine wpAnyH_take (i := 11) (oi := _) (v := ?_) rfl (by kernel_rfl) (by kernel_rfl) (by kernel_rfl) (fun _ _ _ h => h) (Or.inl ⟨by rfl, ?_⟩) (by assumption) ?_
          rotate_left
          · (intro w hSw; (try dsimp only at hSw); (try simp only [List.getElem_toArray, List.getElem_cons_succ, List.getElem_cons_zero]); go_simp; try with_reducible rfl)
          simp only [Act.put, List.setIfInBounds_toArray, List.set_cons_zero, List.set_cons_succ, List.getElem_toArray, List.getElem_cons_succ, List.getElem_cons_zero]
          refine wpAnyH_take (i := 12) (oi := _) (v := ?_) rfl (by kernel_rfl) (by kernel_rfl) (by kernel_rfl) (fun _ _ _ h => h) (Or.inl ⟨by rfl, ?_⟩) (by assumption) ?_
          rotate_left
          · (intro w hSw; (try dsimp only at hSw); (try simp only [List.getElem_toArray, List.getElem_cons_succ, List.getElem_cons_zero]); go_simp; try with_reducible rfl)
          simp only [Act.put, List.setIfInBounds_toArray, List.set_cons_zero, List.set_cons_succ, List.getElem_toArray, List.getElem_cons_succ, List.getElem_cons_zero]
          refine wpAnyH_take (i := 13) (oi := _) (v := ?_) rfl (by kernel_rfl) (by kernel_rfl) (by kernel_rfl) (fun _ _ _ h => h) (Or.inl ⟨by rfl, ?_⟩) (by assumption) ?_
          rotate_left
          · (intro w hSw; (try dsimp only at hSw); (try simp only [List.getElem_toArray, List.getElem_cons_succ, List.getElem_cons_zero]); go_simp; try with_reducible rfl)
          simp only [Act.put, List.setIfInBounds_toArray, List.set_cons_zero, List.set_cons_succ, List.getElem_toArray, List.getElem_cons_succ, List.getElem_cons_zero]
          refine wpAnyH_take (i := 14) (oi := _) (v := ?_) rfl (by kernel_rfl) (by kernel_rfl) (by kernel_rfl) (fun _ _ _ h => h) (Or.inl ⟨by rfl, ?_⟩) (by assumption) ?_
          rotate_left
          · (intro w hSw; (try dsimp only at hSw); (try simp only [List.getElem_toArray, List.getElem_cons_succ, List.getElem_cons_zero]); go_simp; try with_reducible rfl)
          simp only [Act.put, List.setIfInBounds_toArray, List.set_cons_zero, List.set_cons_succ, List.getElem_toArray, List.getElem_cons_succ, List.getElem_cons_zero]
          refine wpAnyH_take (i := 15) (oi := _) (v := ?_) rfl (by kernel_rfl) (by kernel_rfl) (by kernel_rfl) (fun _ _ _ h => h) (Or.inl ⟨by rfl, ?_⟩) (by assumption) ?_
          rotate_left
          · (intro w hSw; (try dsimp only at hSw); (try simp only [List.getElem_toArray, List.getElem_cons_succ, List.getElem_cons_zero]); go_simp; try with_reducible rfl)
          simp only [Act.put, List.setIfInBounds_toArray, List.set_cons_zero, List.set_cons_succ, List.getElem_toArray, List.getElem_cons_succ, List.getElem_cons_zero]
          refine wpAnyH_take (i := 16) (oi := _) (v := ?_) rfl (by kernel_rfl) (by kernel_rfl) (by kernel_rfl) (fun _ _ _ h => h) (Or.inl ⟨by rfl, ?_⟩) (by assumption) ?_
          rotate_left
          · (intro w hSw; (try dsimp only at hSw); (try simp only [List.getElem_toArray, List.getElem_cons_succ, List.getElem_cons_zero]); go_simp; try with_reducible rfl)
          simp only [Act.put, List.setIfInBounds_toArray, List.set_cons_zero, List.set_cons_succ, List.getElem_toArray, List.getElem_cons_succ, List.getElem_cons_zero]
          refine wpAnyH_take (i := 17) (oi := _) (v := ?_) rfl (by kernel_rfl) (by kernel_rfl) (by kernel_rfl) (fun _ _ _ h => h) (Or.inl ⟨by rfl, ?_⟩) (by assumption) ?_
          rotate_left
          · (intro w hSw; (try dsimp only at hSw); (try simp only [List.getElem_toArray, List.getElem_cons_succ, List.getElem_cons_zero]); go_simp; try with_reducible rfl)
          simp only [Act.put, List.setIfInBounds_toArray, List.set_cons_zero, List.set_cons_succ, List.getElem_toArray, List.getElem_cons_succ, List.getElem_cons_zero]
          refine wpAnyH_take (i := 18) (oi := _) (v := ?_) rfl (by kernel_rfl) (by kernel_rfl) (by kernel_rfl) (fun _ _ _ h => h) (Or.inl ⟨by rfl, ?_⟩) (by assumption) ?_
          rotate_left
          · (intro w hSw; (try dsimp only at hSw); (try simp only [List.getElem_toArray, List.getElem_cons_succ, List.getElem_cons_zero]); go_simp; try with_reducible rfl)
          simp only [Act.put, List.setIfInBounds_toArray, List.set_cons_zero, List.set_cons_succ, List.getElem_toArray, List.getElem_cons_succ, List.getElem_cons_zero]
          refine wpAnyH_take (i := 19) (oi := _) (v := ?_) rfl (by kernel_rfl) (by kernel_rfl) (by kernel_rfl) (fun _ _ _ h => h) (Or.inl ⟨by rfl, ?_⟩) (by assumption) ?_
          rotate_left
          · (intro w hSw; (try dsimp only at hSw); (try simp only [List.getElem_toArray, List.getElem_cons_succ, List.getElem_cons_zero]); go_simp; try with_reducible rfl)
          simp only [Act.put, List.setIfInBounds_toArray, List.set_cons_zero, List.set_cons_succ, List.getElem_toArray, List.getElem_cons_succ, List.getElem_cons_zero]
          refine wpAnyH_take (i := 20) (oi := _) (v := ?_) rfl (by kernel_rfl) (by kernel_rfl) (by kernel_rfl) (fun _ _ _ h => h) (Or.inl ⟨by rfl, ?_⟩) (by assumption) ?_
          rotate_left
          · (intro w hSw; (try dsimp only at hSw); (try simp only [List.getElem_toArray, List.getElem_cons_succ, List.getElem_cons_zero]); go_simp; try with_reducible rfl)
          simp only [Act.put, List.setIfInBounds_toArray, List.set_cons_zero, List.set_cons_succ, List.getElem_toArray, List.getElem_cons_succ, List.getElem_cons_zero]
          refine wpAnyH_take (i := 21) (oi := _) (v := ?_) rfl (by kernel_rfl) (by kernel_rfl) (by kernel_rfl) (fun _ _ _ h => h) (Or.inl ⟨by rfl, ?_⟩) (by assumption) ?_
          rotate_left
          · (intro w hSw; (try dsimp only at hSw); (try simp only [List.getElem_toArray, List.getElem_cons_succ, List.getElem_cons_zero]); go_simp; try with_reducible rfl)
          simp only [Act.put, List.setIfInBounds_toArray, List.set_cons_zero, List.set_cons_succ, List.getElem_toArray, List.getElem_cons_succ, List.getElem_cons_zero]
          refine wpAnyH_take (i := 22) (oi := _) (v := ?_) rfl (by kernel_rfl) (by kernel_rfl) (by kernel_rfl) (fun _ _ _ h => h) (Or.inl ⟨by rfl, ?_⟩) (by assumption) ?_
          rotate_left
          · (intro w hSw; (try dsimp only at hSw); (try simp only [List.getElem_toArray, List.getElem_cons_succ, List.getElem_cons_zero]); go_simp; try with_reducible rfl)
          simp only [Act.put, List.setIfInBounds_toArray, List.set_cons_zero, List.set_cons_succ, List.getElem_toArray, List.getElem_cons_succ, List.getElem_cons_zero]
          refine wpAnyH_take (i := 23) (oi := _) (v := ?_) rfl (by kernel_rfl) (by kernel_rfl) (by kernel_rfl) (fun _ _ _ h => h) (Or.inl ⟨by rfl, ?_⟩) (by assumption) ?_
          rotate_left
          · (intro w hSw; (try dsimp only at hSw); (try simp only [List.getElem_toArray, List.getElem_cons_succ, List.getElem_cons_zero]); go_simp; try with_reducible rfl)
          simp only [Act.put, List.setIfInBounds_toArray, List.set_cons_zero, List.set_cons_succ, List.getElem_toArray, List.getElem_cons_succ, List.getElem_cons_zero]
          refine wpAnyH_ready (rs := [24]) (by kernel_rfl) (by simp) ?_
          refine AllReadyH.cons (o := _) rfl (fun K hK => ?_) AllReadyH.nil
          try simp only [List.getElem_toArray, List.getElem_cons_succ, List.getElem_cons_zero]
          go_simp
          (go_at_call 43; go_split_ands; (with_reducible refine (rapart_any y x _).mono ?_); rintro e w2 ⟨rfl, hb⟩; rw [HV2.out])
          go_wp2_with fail
          refine hK.out _ _ (hHeld.trans (hb.mono hHeld.size)) (fun hHeld => ?_)
          clear hK K
          try simp only [Act.put, List.setIfInBounds_toArray, List.set_cons_zero, List.set_cons_succ, List.getElem_toArray, List.getElem_cons_succ, List.getElem_cons_zero]
          refine wpAnyH_take (i := 25) (oi := _) (v := ?_) rfl (by kernel_rfl) (by kernel_rfl) (by kernel_rfl) (fun _ _ _ h => h) (Or.inl ⟨by rfl, ?_⟩) (by assumption) ?_
          rotate_left
          · (intro w hSw; (try dsimp only at hSw); (try simp only [List.getElem_toArray, List.getElem_cons_succ, List.getElem_cons_zero]); go_simp; try with_reducible rfl)
          simp only [Act.put, List.setIfInBounds_toArray, List.set_cons_zero, List.set_cons_succ, List.getElem_toArray, List.getElem_cons_succ, List.getElem_cons_zero]
          refine wpAnyH_take (i := 26) (oi := _) (v := ?_) rfl (by kernel_rfl) (by kernel_rfl) (by kernel_rfl) (fun _ _ _ h => h) (Or.inl ⟨by rfl, ?_⟩) (by assumption) ?_
          rotate_left
          · (intro w hSw; (try dsimp only at hSw); (try simp only [List.getElem_toArray, List.getElem_cons_succ, List.getElem_cons_zero]); go_simp; try with_reducible rfl)
          simp only [Act.put, List.setIfInBounds_toArray, List.set_cons_zero, List.set_cons_succ, List.getElem_toArray, List.getElem_cons_succ, List.getElem_cons_zero]
          refine wpAnyH_done (by kernel_rfl) ?_ _
          go_wp2_with fail
          go_roundw
          case rel => exact ⟨m + 1, by omega, by go_num, HA3, hHeld⟩
          case measure => simp [intOf]; omega
        · obtain rfl : m = k := by omega
          have HN3 := Lib.hid (HY2.out HA.out)
          go_wp2_with fail
          go_roundw
          case rel => exact ⟨m + 1, by omega, by go_num, HN3, hD⟩
          case measure => simp [intOf]; omega
    · obtain rfl : k = r.items.length := by omega
      have HR : Hid (R = true) := Lib.hid (HI2.out.2 HO.out)
      go_wp2_with fail
      go_ret
      exact ⟨ret_bool HR.out.symm, HX.out _ hB⟩
end Go.Proofs.YtfkmnneieglolaaGreatDoor
namespace Go.Proofs.YtfkmnneieglolaaGreatDoor
open Go.RowKit Go.Shelf
attribute [local go_sem] Oper.semAt_some
def rsetB (r : SetR) (L : Bool) : Bool :=
  isNameB r.name && (betB r.depth 0 1048576 && (betB r.low 0 r.high && (betB r.high 0 1048576 && (betB r.length 1000 1048576 && ((r.length % 1000 == 0) && (betB r.lines.length 2 10 &&
    (betB r.pipe 0 1048576 && (betB r.arbor 0 1048576 && (betB r.purchase 1 2 && (betB r.most 1 67108864 && (betB r.brake 0 67108864 && (L && (itemsB r.items r.length && brickB r.bricks)))))))))))))
theorem rsetB_eq (r : SetR) (L : Bool) (h : betB r.lines.length 2 10 = true → (L = true ↔ ∀ j, j < r.lines.length → betB (ig r.lines j) 0 r.length = true ∧ (0 < j → ig r.lines (j - 1) < ig r.lines j))) : rsetB r L = setB r := by
  rw [Bool.eq_iff_iff, setB_iff]
  unfold rsetB
  simp only [Bool.and_eq_true, beq_iff_eq]
  constructor
  · rintro ⟨h1, h2, h3, h4, h5, h6, h7, h8, h9, h10, h11, h12, h13, h14, h15⟩
    have l1 := betB_iff.1 h3
    have l2 := betB_iff.1 h4
    have l3 := betB_iff.1 h5
    exact ⟨h1, betB_iff.1 h2, ⟨l1.1, l1.2, l2.2⟩, ⟨l3.1, l3.2, h6⟩, lines_iff2.2 ⟨h7, (h h7).1 h13⟩, betB_iff.1 h8, betB_iff.1 h9, betB_iff.1 h10, betB_iff.1 h11, betB_iff.1 h12, h14, h15⟩
  · intro q
    obtain ⟨h7, h13⟩ := lines_iff2.1 q.lines
    obtain ⟨a, b, c⟩ := q.low
    obtain ⟨d, e, g⟩ := q.length
    exact ⟨q.name, betB_iff.2 q.depth, betB_iff.2 ⟨a, b⟩, betB_iff.2 ⟨by omega, c⟩, betB_iff.2 ⟨d, e⟩, g, h7, betB_iff.2 q.pipe, betB_iff.2 q.arbor, betB_iff.2 q.purchase, betB_iff.2 q.most, betB_iff.2 q.brake, (h h7).2 h13, q.items, q.bricks⟩
set_option maxRecDepth 100000 in
set_option maxHeartbeats 32000000 in
theorem rvalid_any (r : SetR) (w : World) (hs : SetIn w r) :
    Calls Tryz.prog 6 #[.agg #[.string r.name, .int .i64 r.depth, .int .i64 r.low, .int .i64 r.high, .int .i64 r.length, .slice r.la r.lines.length r.lc, .int .i64 r.pipe, .int .i64 r.arbor, .int .i64 r.purchase, .int .i64 r.most, .int .i64 r.brake, .slice r.ia r.items.length r.ic, .slice r.ba r.bricks.length r.bc]] w fun e w' => e = .returned (.bool (setB r)) ∧ Below w.heap.size w w' := by
  obtain ⟨L, hL⟩ : ∃ L : Bool, L = true ↔ ∀ j, j < r.lines.length → betB (ig r.lines j) 0 r.length = true ∧ (0 < j → ig r.lines (j - 1) < ig r.lines j) := by
    by_cases h : ∀ j, j < r.lines.length → betB (ig r.lines j) 0 r.length = true ∧ (0 < j → ig r.lines (j - 1) < ig r.lines j)
    · exact ⟨true, fun _ => h, fun _ => rfl⟩
    · exact ⟨false, fun h => by (cases h), fun q => absurd q h⟩
  rw [← rsetB_eq r L fun _ => hL]
  obtain ⟨RR, hR⟩ : ∃ R, rsetB r L = R := ⟨_, rfl⟩
  have HF : Hid ((isNameB r.name && (betB r.depth 0 1048576 && (betB r.low 0 r.high && (betB r.high 0 1048576 && (betB r.length 1000 1048576 && ((r.length % 1000 == 0) && (betB r.lines.length 2 10 && (betB r.pipe 0 1048576 && (betB r.arbor 0 1048576 && (betB r.purchase 1 2 && (betB r.most 1 67108864 && (betB r.brake 0 67108864)))))))))))) = false → RR = false) := Lib.hid fun h => by
    rw [← hR, Bool.eq_false_iff]
    intro q
    unfold rsetB at q
    simp only [Bool.and_eq_true] at q
    obtain ⟨a1, a2, a3, a4, a5, a6, a7, a8, a9, a10, a11, a12, _⟩ := q
    rw [a1, a2, a3, a4, a5, a6, a7, a8, a9, a10, a11, a12] at h
    cases h
  have HL2 : Hid ((¬ ∀ j, j < r.lines.length → betB (ig r.lines j) 0 r.length = true ∧ (0 < j → ig r.lines (j - 1) < ig r.lines j)) → RR = false) := Lib.hid fun h => by
    rw [← hR, Bool.eq_false_iff]
    intro q
    unfold rsetB at q
    simp only [Bool.and_eq_true] at q
    obtain ⟨_, _, _, _, _, _, _, _, _, _, _, _, q, _⟩ := q
    exact h (hL.1 q)
  have HL3 : Hid ((isNameB r.name && (betB r.depth 0 1048576 && (betB r.low 0 r.high && (betB r.high 0 1048576 && (betB r.length 1000 1048576 && ((r.length % 1000 == 0) && (betB r.lines.length 2 10 && (betB r.pipe 0 1048576 && (betB r.arbor 0 1048576 && (betB r.purchase 1 2 && (betB r.most 1 67108864 && (betB r.brake 0 67108864)))))))))))) = true → (∀ j, j < r.lines.length → betB (ig r.lines j) 0 r.length = true ∧ (0 < j → ig r.lines (j - 1) < ig r.lines j)) → RR = (itemsB r.items r.length && brickB r.bricks)) := Lib.hid fun h h2 => by
    rw [← hR]
    unfold rsetB
    simp only [Bool.and_eq_true] at h
    simp only [h, hL.2 h2, Bool.true_and]
  rw [hR]
  clear hR hL
  have hb0 := below_new w (.cells #[.string r.name, .int .i64 r.depth, .int .i64 r.low, .int .i64 r.high, .int .i64 r.length, .slice r.la r.lines.length r.lc, .int .i64 r.pipe, .int .i64 r.arbor, .int .i64 r.purchase, .int .i64 r.most, .int .i64 r.brake, .slice r.ia r.items.length r.ic, .slice r.ba r.bricks.length r.bc] 26)
  have HX : Hid (∀ wx, Below (w.alloc (.cells #[.string r.name, .int .i64 r.depth, .int .i64 r.low, .int .i64 r.high, .int .i64 r.length, .slice r.la r.lines.length r.lc, .int .i64 r.pipe, .int .i64 r.arbor, .int .i64 r.purchase, .int .i64 r.most, .int .i64 r.brake, .slice r.ia r.items.length r.ic, .slice r.ba r.bricks.length r.bc] 26)).heap.size (w.alloc (.cells #[.string r.name, .int .i64 r.depth, .int .i64 r.low, .int .i64 r.high, .int .i64 r.length, .slice r.la r.lines.length r.lc, .int .i64 r.pipe, .int .i64 r.arbor, .int .i64 r.purchase, .int .i64 r.most, .int .i64 r.brake, .slice r.ia r.items.length r.ic, .slice r.ba r.bricks.length r.bc] 26)) wx → Below w.heap.size w wx) := Lib.hid fun wx h => mono_in _ h
  have HS : Hid (∀ wx, Below (w.alloc (.cells #[.string r.name, .int .i64 r.depth, .int .i64 r.low, .int .i64 r.high, .int .i64 r.length, .slice r.la r.lines.length r.lc, .int .i64 r.pipe, .int .i64 r.arbor, .int .i64 r.purchase, .int .i64 r.most, .int .i64 r.brake, .slice r.ia r.items.length r.ic, .slice r.ba r.bricks.length r.bc] 26)).heap.size (w.alloc (.cells #[.string r.name, .int .i64 r.depth, .int .i64 r.low, .int .i64 r.high, .int .i64 r.length, .slice r.la r.lines.length r.lc, .int .i64 r.pipe, .int .i64 r.arbor, .int .i64 r.purchase, .int .i64 r.most, .int .i64 r.brake, .slice r.ia r.items.length r.ic, .slice r.ba r.bricks.length r.bc] 26)) wx → SetIn wx r) := Lib.hid fun wx h => (hs.grow hb0).grow h
  have HAT : Hid (∀ wx, Below (w.alloc (.cells #[.string r.name, .int .i64 r.depth, .int .i64 r.low, .int .i64 r.high, .int .i64 r.length, .slice r.la r.lines.length r.lc, .int .i64 r.pipe, .int .i64 r.arbor, .int .i64 r.purchase, .int .i64 r.most, .int .i64 r.brake, .slice r.ia r.items.length r.ic, .slice r.ba r.bricks.length r.bc] 26)).heap.size (w.alloc (.cells #[.string r.name, .int .i64 r.depth, .int .i64 r.low, .int .i64 r.high, .int .i64 r.length, .slice r.la r.lines.length r.lc, .int .i64 r.pipe, .int .i64 r.arbor, .int .i64 r.purchase, .int .i64 r.most, .int .i64 r.brake, .slice r.ia r.items.length r.ic, .slice r.ba r.bricks.length r.bc] 26)) wx → SetAt wx w.heap.size r) := Lib.hid fun wx h => (SetAt.new w r 26).below h (by simp)
  clear hb0 hs
  go_enter Tryz.func6, Tryz.ntmps6
  go_wp2_with fail
  generalize (w.alloc (.cells #[.string r.name, .int .i64 r.depth, .int .i64 r.low, .int .i64 r.high, .int .i64 r.length, .slice r.la r.lines.length r.lc, .int .i64 r.pipe, .int .i64 r.arbor, .int .i64 r.purchase, .int .i64 r.most, .int .i64 r.brake, .slice r.ia r.items.length r.ic, .slice r.ba r.bricks.length r.bc] 26)) = W0 at *
  have hB1 := Below.refl W0.heap.size W0
  have x0 : ∀ wx, Below W0.heap.size W0 wx → wx.cell? ⟨w.heap.size, 0, none⟩ = some (.string r.name) := fun wx h => (HAT.out wx h).1
  have x1 : ∀ wx, Below W0.heap.size W0 wx → wx.cell? ⟨w.heap.size, 1, none⟩ = some (.int .i64 r.depth) := fun wx h => (HAT.out wx h).2.1
  have x2 : ∀ wx, Below W0.heap.size W0 wx → wx.cell? ⟨w.heap.size, 2, none⟩ = some (.int .i64 r.low) := fun wx h => (HAT.out wx h).2.2.1
  have x3 : ∀ wx, Below W0.heap.size W0 wx → wx.cell? ⟨w.heap.size, 3, none⟩ = some (.int .i64 r.high) := fun wx h => (HAT.out wx h).2.2.2.1
  have x4 : ∀ wx, Below W0.heap.size W0 wx → wx.cell? ⟨w.heap.size, 4, none⟩ = some (.int .i64 r.length) := fun wx h => (HAT.out wx h).2.2.2.2.1
  have x5 : ∀ wx, Below W0.heap.size W0 wx → wx.cell? ⟨w.heap.size, 5, none⟩ = some (.slice r.la r.lines.length r.lc) := fun wx h => (HAT.out wx h).2.2.2.2.2.1
  have x6 : ∀ wx, Below W0.heap.size W0 wx → wx.cell? ⟨w.heap.size, 6, none⟩ = some (.int .i64 r.pipe) := fun wx h => (HAT.out wx h).2.2.2.2.2.2.1
  have x7 : ∀ wx, Below W0.heap.size W0 wx → wx.cell? ⟨w.heap.size, 7, none⟩ = some (.int .i64 r.arbor) := fun wx h => (HAT.out wx h).2.2.2.2.2.2.2.1
  have x8 : ∀ wx, Below W0.heap.size W0 wx → wx.cell? ⟨w.heap.size, 8, none⟩ = some (.int .i64 r.purchase) := fun wx h => (HAT.out wx h).2.2.2.2.2.2.2.2.1
  have x9 : ∀ wx, Below W0.heap.size W0 wx → wx.cell? ⟨w.heap.size, 9, none⟩ = some (.int .i64 r.most) := fun wx h => (HAT.out wx h).2.2.2.2.2.2.2.2.2.1
  have x10 : ∀ wx, Below W0.heap.size W0 wx → wx.cell? ⟨w.heap.size, 10, none⟩ = some (.int .i64 r.brake) := fun wx h => (HAT.out wx h).2.2.2.2.2.2.2.2.2.2.1
  have x11 : ∀ wx, Below W0.heap.size W0 wx → wx.cell? ⟨w.heap.size, 11, none⟩ = some (.slice r.ia r.items.length r.ic) := fun wx h => (HAT.out wx h).2.2.2.2.2.2.2.2.2.2.2.1
  have x12 : ∀ wx, Below W0.heap.size W0 wx → wx.cell? ⟨w.heap.size, 12, none⟩ = some (.slice r.ba r.bricks.length r.bc) := fun wx h => (HAT.out wx h).2.2.2.2.2.2.2.2.2.2.2.2
  cases h0 : isNameB r.name
  · have HR : Hid ((isNameB r.name && (betB r.depth 0 1048576 && (betB r.low 0 r.high && (betB r.high 0 1048576 && (betB r.length 1000 1048576 && ((r.length % 1000 == 0) && (betB r.lines.length 2 10 && (betB r.pipe 0 1048576 && (betB r.arbor 0 1048576 && (betB r.purchase 1 2 && (betB r.most 1 67108864 && (betB r.brake 0 67108864)))))))))))) = false) := Lib.hid (by simp only [h0, Bool.false_and])
    have H0 := Lib.hid h0
    clear h0
    have HR2 := Lib.hid (HF.out HR.out)
    clear HF
    go_wp2_with (first
      | (go_at_call 17; (with_reducible refine (refisName_any r.name _).mono ?_); rintro e w1 ⟨rfl, rfl⟩; rw [H0.out]))
    go_ret
    exact ⟨ret_bool HR2.out.symm, HX.out _ hB1⟩
  cases h1 : betB r.depth 0 1048576
  · have HR : Hid ((isNameB r.name && (betB r.depth 0 1048576 && (betB r.low 0 r.high && (betB r.high 0 1048576 && (betB r.length 1000 1048576 && ((r.length % 1000 == 0) && (betB r.lines.length 2 10 && (betB r.pipe 0 1048576 && (betB r.arbor 0 1048576 && (betB r.purchase 1 2 && (betB r.most 1 67108864 && (betB r.brake 0 67108864)))))))))))) = false) := Lib.hid (by simp only [h0, h1, Bool.true_and, Bool.false_and])
    have H0 := Lib.hid h0
    have H1 := Lib.hid h1
    clear h0 h1
    have HR2 := Lib.hid (HF.out HR.out)
    clear HF
    go_wp2_with (first
      | (go_at_call 17; (with_reducible refine (refisName_any r.name _).mono ?_); rintro e w1 ⟨rfl, rfl⟩; rw [H0.out])
      | (go_at_call 18; (with_reducible refine (rbetw_any r.depth 0 1048576 _).mono ?_); rintro e w1 ⟨rfl, rfl⟩; rw [H1.out]))
    go_ret
    exact ⟨ret_bool HR2.out.symm, HX.out _ hB1⟩
  cases h2 : betB r.low 0 r.high
  · have HR : Hid ((isNameB r.name && (betB r.depth 0 1048576 && (betB r.low 0 r.high && (betB r.high 0 1048576 && (betB r.length 1000 1048576 && ((r.length % 1000 == 0) && (betB r.lines.length 2 10 && (betB r.pipe 0 1048576 && (betB r.arbor 0 1048576 && (betB r.purchase 1 2 && (betB r.most 1 67108864 && (betB r.brake 0 67108864)))))))))))) = false) := Lib.hid (by simp only [h0, h1, h2, Bool.true_and, Bool.false_and])
    have H0 := Lib.hid h0
    have H1 := Lib.hid h1
    have H2 := Lib.hid h2
    clear h0 h1 h2
    have HR2 := Lib.hid (HF.out HR.out)
    clear HF
    go_wp2_with (first
      | (go_at_call 17; (with_reducible refine (refisName_any r.name _).mono ?_); rintro e w1 ⟨rfl, rfl⟩; rw [H0.out])
      | (go_at_call 18; (with_reducible refine (rbetw_any _ _ _ _).mono ?_); rintro e w1 ⟨rfl, rfl⟩; simp only [H1.out, H2.out]))
    go_ret
    exact ⟨ret_bool HR2.out.symm, HX.out _ hB1⟩
  cases h3 : betB r.high 0 1048576
  · have HR : Hid ((isNameB r.name && (betB r.depth 0 1048576 && (betB r.low 0 r.high && (betB r.high 0 1048576 && (betB r.length 1000 1048576 && ((r.length % 1000 == 0) && (betB r.lines.length 2 10 && (betB r.pipe 0 1048576 && (betB r.arbor 0 1048576 && (betB r.purchase 1 2 && (betB r.most 1 67108864 && (betB r.brake 0 67108864)))))))))))) = false) := Lib.hid (by simp only [h0, h1, h2, h3, Bool.true_and, Bool.false_and])
    have H0 := Lib.hid h0
    have H1 := Lib.hid h1
    have H2 := Lib.hid h2
    have H3 := Lib.hid h3
    clear h0 h1 h2 h3
    have HR2 := Lib.hid (HF.out HR.out)
    clear HF
    go_wp2_with (first
      | (go_at_call 17; (with_reducible refine (refisName_any r.name _).mono ?_); rintro e w1 ⟨rfl, rfl⟩; rw [H0.out])
      | (go_at_call 18; (with_reducible refine (rbetw_any _ _ _ _).mono ?_); rintro e w1 ⟨rfl, rfl⟩; simp only [H1.out, H2.out, H3.out]))
    go_ret
    exact ⟨ret_bool HR2.out.symm, HX.out _ hB1⟩
  cases h4 : betB r.length 1000 1048576
  · have HR : Hid ((isNameB r.name && (betB r.depth 0 1048576 && (betB r.low 0 r.high && (betB r.high 0 1048576 && (betB r.length 1000 1048576 && ((r.length % 1000 == 0) && (betB r.lines.length 2 10 && (betB r.pipe 0 1048576 && (betB r.arbor 0 1048576 && (betB r.purchase 1 2 && (betB r.most 1 67108864 && (betB r.brake 0 67108864)))))))))))) = false) := Lib.hid (by simp only [h0, h1, h2, h3, h4, Bool.true_and, Bool.false_and])
    have H0 := Lib.hid h0
    have H1 := Lib.hid h1
    have H2 := Lib.hid h2
    have H3 := Lib.hid h3
    have H4 := Lib.hid h4
    clear h0 h1 h2 h3 h4
    have HR2 := Lib.hid (HF.out HR.out)
    clear HF
    go_wp2_with (first
      | (go_at_call 17; (with_reducible refine (refisName_any r.name _).mono ?_); rintro e w1 ⟨rfl, rfl⟩; rw [H0.out])
      | (go_at_call 18; (with_reducible refine (rbetw_any _ _ _ _).mono ?_); rintro e w1 ⟨rfl, rfl⟩; simp only [H1.out, H2.out, H3.out, H4.out]))
    go_ret
    exact ⟨ret_bool HR2.out.symm, HX.out _ hB1⟩
  have hlen := betB_iff.1 h4
  have hln2 : 0 ≤ r.length ∧ r.length ≤ 1048576 := by omega
  have HLEN := Lib.hid hln2
  cases h5 : (r.length % 1000 == 0)
  · have HR : Hid ((isNameB r.name && (betB r.depth 0 1048576 && (betB r.low 0 r.high && (betB r.high 0 1048576 && (betB r.length 1000 1048576 && ((r.length % 1000 == 0) && (betB r.lines.length 2 10 && (betB r.pipe 0 1048576 && (betB r.arbor 0 1048576 && (betB r.purchase 1 2 && (betB r.most 1 67108864 && (betB r.brake 0 67108864)))))))))))) = false) := Lib.hid (by simp only [h0, h1, h2, h3, h4, h5, Bool.true_and, Bool.false_and])
    have H0 := Lib.hid h0
    have H1 := Lib.hid h1
    have H2 := Lib.hid h2
    have H3 := Lib.hid h3
    have H4 := Lib.hid h4
    clear h0 h1 h2 h3 h4
    have h5n : (r.length % 1000 != 0) = true := by rw [bne, h5]; rfl
    have HR2 := Lib.hid (HF.out HR.out)
    clear HF
    go_wp2_with (first
      | (go_at_call 17; (with_reducible refine (refisName_any r.name _).mono ?_); rintro e w1 ⟨rfl, rfl⟩; rw [H0.out])
      | (go_at_call 18; (with_reducible refine (rbetw_any _ _ _ _).mono ?_); rintro e w1 ⟨rfl, rfl⟩; simp only [H1.out, H2.out, H3.out, H4.out]))
    go_ret
    exact ⟨ret_bool HR2.out.symm, HX.out _ hB1⟩
  have h5n : (r.length % 1000 != 0) = false := by rw [bne, h5]; rfl
  cases h6 : betB r.lines.length 2 10
  · have HR : Hid ((isNameB r.name && (betB r.depth 0 1048576 && (betB r.low 0 r.high && (betB r.high 0 1048576 && (betB r.length 1000 1048576 && ((r.length % 1000 == 0) && (betB r.lines.length 2 10 && (betB r.pipe 0 1048576 && (betB r.arbor 0 1048576 && (betB r.purchase 1 2 && (betB r.most 1 67108864 && (betB r.brake 0 67108864)))))))))))) = false) := Lib.hid (by simp only [h0, h1, h2, h3, h4, h5, h6, Bool.true_and, Bool.false_and])
    have H0 := Lib.hid h0
    have H1 := Lib.hid h1
    have H2 := Lib.hid h2
    have H3 := Lib.hid h3
    have H4 := Lib.hid h4
    have H6 := Lib.hid h6
    clear h0 h1 h2 h3 h4 h6
    have HR2 := Lib.hid (HF.out HR.out)
    clear HF
    go_wp2_with (first
      | (go_at_call 17; (with_reducible refine (refisName_any r.name _).mono ?_); rintro e w1 ⟨rfl, rfl⟩; rw [H0.out])
      | (go_at_call 18; (with_reducible refine (rbetw_any _ _ _ _).mono ?_); rintro e w1 ⟨rfl, rfl⟩; simp only [H1.out, H2.out, H3.out, H4.out, H6.out]))
    go_ret
    exact ⟨ret_bool HR2.out.symm, HX.out _ hB1⟩
  cases h7 : betB r.pipe 0 1048576
  · have HR : Hid ((isNameB r.name && (betB r.depth 0 1048576 && (betB r.low 0 r.high && (betB r.high 0 1048576 && (betB r.length 1000 1048576 && ((r.length % 1000 == 0) && (betB r.lines.length 2 10 && (betB r.pipe 0 1048576 && (betB r.arbor 0 1048576 && (betB r.purchase 1 2 && (betB r.most 1 67108864 && (betB r.brake 0 67108864)))))))))))) = false) := Lib.hid (by simp only [h0, h1, h2, h3, h4, h5, h6, h7, Bool.true_and, Bool.false_and])
    have H0 := Lib.hid h0
    have H1 := Lib.hid h1
    have H2 := Lib.hid h2
    have H3 := Lib.hid h3
    have H4 := Lib.hid h4
    have H6 := Lib.hid h6
    have H7 := Lib.hid h7
    clear h0 h1 h2 h3 h4 h6 h7
    have HR2 := Lib.hid (HF.out HR.out)
    clear HF
    go_wp2_with (first
      | (go_at_call 17; (with_reducible refine (refisName_any r.name _).mono ?_); rintro e w1 ⟨rfl, rfl⟩; rw [H0.out])
      | (go_at_call 18; (with_reducible refine (rbetw_any _ _ _ _).mono ?_); rintro e w1 ⟨rfl, rfl⟩; simp only [H1.out, H2.out, H3.out, H4.out, H6.out, H7.out]))
    go_ret
    exact ⟨ret_bool HR2.out.symm, HX.out _ hB1⟩
  cases h8 : betB r.arbor 0 1048576
  · have HR : Hid ((isNameB r.name && (betB r.depth 0 1048576 && (betB r.low 0 r.high && (betB r.high 0 1048576 && (betB r.length 1000 1048576 && ((r.length % 1000 == 0) && (betB r.lines.length 2 10 && (betB r.pipe 0 1048576 && (betB r.arbor 0 1048576 && (betB r.purchase 1 2 && (betB r.most 1 67108864 && (betB r.brake 0 67108864)))))))))))) = false) := Lib.hid (by simp only [h0, h1, h2, h3, h4, h5, h6, h7, h8, Bool.true_and, Bool.false_and])
    have H0 := Lib.hid h0
    have H1 := Lib.hid h1
    have H2 := Lib.hid h2
    have H3 := Lib.hid h3
    have H4 := Lib.hid h4
    have H6 := Lib.hid h6
    have H7 := Lib.hid h7
    have H8 := Lib.hid h8
    clear h0 h1 h2 h3 h4 h6 h7 h8
    have HR2 := Lib.hid (HF.out HR.out)
    clear HF
    go_wp2_with (first
      | (go_at_call 17; (with_reducible refine (refisName_any r.name _).mono ?_); rintro e w1 ⟨rfl, rfl⟩; rw [H0.out])
      | (go_at_call 18; (with_reducible refine (rbetw_any _ _ _ _).mono ?_); rintro e w1 ⟨rfl, rfl⟩; simp only [H1.out, H2.out, H3.out, H4.out, H6.out, H7.out, H8.out]))
    go_ret
    exact ⟨ret_bool HR2.out.symm, HX.out _ hB1⟩
  cases h9 : betB r.purchase 1 2
  · have HR : Hid ((isNameB r.name && (betB r.depth 0 1048576 && (betB r.low 0 r.high && (betB r.high 0 1048576 && (betB r.length 1000 1048576 && ((r.length % 1000 == 0) && (betB r.lines.length 2 10 && (betB r.pipe 0 1048576 && (betB r.arbor 0 1048576 && (betB r.purchase 1 2 && (betB r.most 1 67108864 && (betB r.brake 0 67108864)))))))))))) = false) := Lib.hid (by simp only [h0, h1, h2, h3, h4, h5, h6, h7, h8, h9, Bool.true_and, Bool.false_and])
    have H0 := Lib.hid h0
    have H1 := Lib.hid h1
    have H2 := Lib.hid h2
    have H3 := Lib.hid h3
    have H4 := Lib.hid h4
    have H6 := Lib.hid h6
    have H7 := Lib.hid h7
    have H8 := Lib.hid h8
    have H9 := Lib.hid h9
    clear h0 h1 h2 h3 h4 h6 h7 h8 h9
    have HR2 := Lib.hid (HF.out HR.out)
    clear HF
    go_wp2_with (first
      | (go_at_call 17; (with_reducible refine (refisName_any r.name _).mono ?_); rintro e w1 ⟨rfl, rfl⟩; rw [H0.out])
      | (go_at_call 18; (with_reducible refine (rbetw_any _ _ _ _).mono ?_); rintro e w1 ⟨rfl, rfl⟩; simp only [H1.out, H2.out, H3.out, H4.out, H6.out, H7.out, H8.out, H9.out]))
    go_ret
    exact ⟨ret_bool HR2.out.symm, HX.out _ hB1⟩
  cases h10 : betB r.most 1 67108864
  · have HR : Hid ((isNameB r.name && (betB r.depth 0 1048576 && (betB r.low 0 r.high && (betB r.high 0 1048576 && (betB r.length 1000 1048576 && ((r.length % 1000 == 0) && (betB r.lines.length 2 10 && (betB r.pipe 0 1048576 && (betB r.arbor 0 1048576 && (betB r.purchase 1 2 && (betB r.most 1 67108864 && (betB r.brake 0 67108864)))))))))))) = false) := Lib.hid (by simp only [h0, h1, h2, h3, h4, h5, h6, h7, h8, h9, h10, Bool.true_and, Bool.false_and])
    have H0 := Lib.hid h0
    have H1 := Lib.hid h1
    have H2 := Lib.hid h2
    have H3 := Lib.hid h3
    have H4 := Lib.hid h4
    have H6 := Lib.hid h6
    have H7 := Lib.hid h7
    have H8 := Lib.hid h8
    have H9 := Lib.hid h9
    have H10 := Lib.hid h10
    clear h0 h1 h2 h3 h4 h6 h7 h8 h9 h10
    have HR2 := Lib.hid (HF.out HR.out)
    clear HF
    go_wp2_with (first
      | (go_at_call 17; (with_reducible refine (refisName_any r.name _).mono ?_); rintro e w1 ⟨rfl, rfl⟩; rw [H0.out])
      | (go_at_call 18; (with_reducible refine (rbetw_any _ _ _ _).mono ?_); rintro e w1 ⟨rfl, rfl⟩; simp only [H1.out, H2.out, H3.out, H4.out, H6.out, H7.out, H8.out, H9.out, H10.out]))
    go_ret
    exact ⟨ret_bool HR2.out.symm, HX.out _ hB1⟩
  cases h11 : betB r.brake 0 67108864
  · have HR : Hid ((isNameB r.name && (betB r.depth 0 1048576 && (betB r.low 0 r.high && (betB r.high 0 1048576 && (betB r.length 1000 1048576 && ((r.length % 1000 == 0) && (betB r.lines.length 2 10 && (betB r.pipe 0 1048576 && (betB r.arbor 0 1048576 && (betB r.purchase 1 2 && (betB r.most 1 67108864 && (betB r.brake 0 67108864)))))))))))) = false) := Lib.hid (by simp only [h0, h1, h2, h3, h4, h5, h6, h7, h8, h9, h10, h11, Bool.true_and])
    have H0 := Lib.hid h0
    have H1 := Lib.hid h1
    have H2 := Lib.hid h2
    have H3 := Lib.hid h3
    have H4 := Lib.hid h4
    have H6 := Lib.hid h6
    have H7 := Lib.hid h7
    have H8 := Lib.hid h8
    have H9 := Lib.hid h9
    have H10 := Lib.hid h10
    have H11 := Lib.hid h11
    clear h0 h1 h2 h3 h4 h6 h7 h8 h9 h10 h11
    have HR2 := Lib.hid (HF.out HR.out)
    clear HF
    go_wp2_with (first
      | (go_at_call 17; (with_reducible refine (refisName_any r.name _).mono ?_); rintro e w1 ⟨rfl, rfl⟩; rw [H0.out])
      | (go_at_call 18; (with_reducible refine (rbetw_any _ _ _ _).mono ?_); rintro e w1 ⟨rfl, rfl⟩; simp only [H1.out, H2.out, H3.out, H4.out, H6.out, H7.out, H8.out, H9.out, H10.out, H11.out]))
    go_ret
    exact ⟨ret_bool HR2.out.symm, HX.out _ hB1⟩
  have HR : Hid ((isNameB r.name && (betB r.depth 0 1048576 && (betB r.low 0 r.high && (betB r.high 0 1048576 && (betB r.length 1000 1048576 && ((r.length % 1000 == 0) && (betB r.lines.length 2 10 && (betB r.pipe 0 1048576 && (betB r.arbor 0 1048576 && (betB r.purchase 1 2 && (betB r.most 1 67108864 && (betB r.brake 0 67108864)))))))))))) = true) := Lib.hid (by simp only [h0, h1, h2, h3, h4, h5, h6, h7, h8, h9, h10, h11, Bool.and_self])
  have H0 := Lib.hid h0
  have H1 := Lib.hid h1
  have H2 := Lib.hid h2
  have H3 := Lib.hid h3
  have H4 := Lib.hid h4
  have H6 := Lib.hid h6
  have H7 := Lib.hid h7
  have H8 := Lib.hid h8
  have H9 := Lib.hid h9
  have H10 := Lib.hid h10
  have H11 := Lib.hid h11
  clear h0 h1 h2 h3 h4 h6 h7 h8 h9 h10 h11
  have HL3 := Lib.hid (HL3.out HR.out)
  clear HF
  have hl2 := betB_iff.1 H6.out
  go_wp2_with (first
    | (go_at_call 17; (with_reducible refine (refisName_any r.name _).mono ?_); rintro e w1 ⟨rfl, rfl⟩; rw [H0.out])
    | (go_at_call 18; (with_reducible refine (rbetw_any r.depth 0 1048576 _).mono ?_); rintro e w1 ⟨rfl, rfl⟩; rw [H1.out])
    | (go_at_call 18; (with_reducible refine (rbetw_any r.low 0 r.high _).mono ?_); rintro e w1 ⟨rfl, rfl⟩; rw [H2.out])
    | (go_at_call 18; (with_reducible refine (rbetw_any r.high 0 1048576 _).mono ?_); rintro e w1 ⟨rfl, rfl⟩; rw [H3.out])
    | (go_at_call 18; (with_reducible refine (rbetw_any r.length 1000 1048576 _).mono ?_); rintro e w1 ⟨rfl, rfl⟩; rw [H4.out])
    | (go_at_call 18; (with_reducible refine (rbetw_any (r.lines.length : Int) 2 10 _).mono ?_); rintro e w1 ⟨rfl, rfl⟩; rw [H6.out])
    | (go_at_call 18; (with_reducible refine (rbetw_any r.pipe 0 1048576 _).mono ?_); rintro e w1 ⟨rfl, rfl⟩; rw [H7.out])
    | (go_at_call 18; (with_reducible refine (rbetw_any r.arbor 0 1048576 _).mono ?_); rintro e w1 ⟨rfl, rfl⟩; rw [H8.out])
    | (go_at_call 18; (with_reducible refine (rbetw_any r.purchase 1 2 _).mono ?_); rintro e w1 ⟨rfl, rfl⟩; rw [H9.out])
    | (go_at_call 18; (with_reducible refine (rbetw_any r.most 1 67108864 _).mono ?_); rintro e w1 ⟨rfl, rfl⟩; rw [H10.out])
    | (go_at_call 18; (with_reducible refine (rbetw_any r.brake 0 67108864 _).mono ?_); rintro e w1 ⟨rfl, rfl⟩; rw [H11.out]))
  clear h5 h5n
  go_loopw [3] (fun v wr => ∃ k : Nat, k ≤ r.lines.length ∧ v = .int .i64 k ∧ Hid (∀ j, j < k → betB (ig r.lines j) 0 r.length = true ∧ (0 < j → ig r.lines (j - 1) < ig r.lines j)) ∧ Below W0.heap.size W0 wr) (fun v _ => r.lines.length - (intOf v).toNat)
  case atStart => exact ⟨0, Nat.zero_le _, rfl, Lib.hid (fun j hj => by omega), hB1⟩
  case round =>
    obtain ⟨k, hk, rfl, HO, hB⟩ := hrel
    by_cases hlt : k < r.lines.length
    · obtain ⟨b, off, hla, hb, hc⟩ := (HS.out wr hB).lines (by omega)
      have y5 : wr.cell? ⟨w.heap.size, 5, none⟩ = some (.slice (some ⟨b, off, none⟩) r.lines.length r.lc) := by rw [← hla]; exact x5 wr hB
      have y4 := x4 wr hB
      have c0 := hc k hlt
      have HC := Lib.hid hc
      clear hla x5 x4 hc
      have HNO : Hid (¬ (betB (ig r.lines k) 0 r.length = true ∧ (0 < k → ig r.lines (k - 1) < ig r.lines k)) → RR = false) := Lib.hid fun h => HL2.out fun q => h (q k hlt)
      have HYE : Hid (betB (ig r.lines k) 0 r.length = true → (0 < k → ig r.lines (k - 1) < ig r.lines k) → ∀ j, j < k + 1 → betB (ig r.lines j) 0 r.length = true ∧ (0 < j → ig r.lines (j - 1) < ig r.lines j)) := Lib.hid fun h1 h2 j hj => by
        rcases (show j < k ∨ j = k by omega) with l | l
        · exact HO.out j l
        · subst l; exact ⟨h1, h2⟩
      have k1 : (k : Int) < r.lines.length := by omega
      obtain ⟨x, hx⟩ : ∃ x, ig r.lines k = x := ⟨_, rfl⟩
      rw [hx] at c0 HNO HYE
      clear hx
      cases hbx : betB x 0 r.length
      · have HBX := Lib.hid hbx
        have HR2 := Lib.hid (HNO.out fun h => by rw [hbx] at h; cases h.1)
        clear hbx HNO HYE
        go_wp2_with (go_quiet ((go_at_call 18; exact Calls.quiet_of_same (v := .bool false) ((rbetw_any x 0 r.length _).mono fun e w' h => ⟨h.1.trans (by rw [HBX.out]), h.2.symm⟩))))
        go_ret
        exact ⟨ret_bool HR2.out.symm, HX.out _ (below_drewN hB _)⟩
      · have HBX := Lib.hid hbx
        have HYE2 := Lib.hid (HYE.out hbx)
        clear hbx
        rcases Nat.eq_zero_or_pos k with h0 | h0
        · have HYE3 := Lib.hid (HYE2.out (fun h => absurd h (by omega)))
          have g4 : decide (0 < (k : Int)) = false := decide_eq_false (by omega)
          have g5 : decide (0 < k) = false := decide_eq_false (by omega)
          clear HNO HYE HYE2 h0
          go_wp2_with (go_quiet ((go_at_call 18; exact Calls.quiet_of_same (v := .bool true) ((rbetw_any x 0 r.length _).mono fun e w' h => ⟨h.1.trans (by rw [HBX.out]), h.2.symm⟩))))
          go_roundw
          case rel => exact ⟨k + 1, by omega, by go_num, HYE3, below_drewN hB _⟩
          case measure => simp [intOf]; omega
        · obtain ⟨q, hq⟩ : ∃ q, k - 1 = q := ⟨_, rfl⟩
          have c1 := HC.out q (by omega)
          rw [hq] at HNO HYE2
          have z5 : (k : Int) - 1 = (q : Int) := by omega
          have z6 : (q : Int) < r.lines.length := by omega
          have z7 : q < r.lines.length := by omega
          have z8 : IntKind.i64.wrap ((k : Int) - 1) = (q : Int) := by rw [z5]; exact IntWalk.i64_in _ (by omega)
          have g4 : decide (0 < (k : Int)) = true := decide_eq_true (by omega)
          have g5 : decide (0 < k) = true := decide_eq_true h0
          generalize ig r.lines q = y at *
          clear hq
          by_cases hxy : y < x
          · have g6 : decide (x ≤ y) = false := decide_eq_false (by omega)
            have HYE3 := Lib.hid (HYE2.out fun _ => hxy)
            clear HNO HYE HYE2 hxy
            go_wp2_with (go_quiet ((go_at_call 18; exact Calls.quiet_of_same (v := .bool true) ((rbetw_any x 0 r.length _).mono fun e w' h => ⟨h.1.trans (by rw [HBX.out]), h.2.symm⟩))))
            go_roundw
            case rel => exact ⟨k + 1, by omega, by go_num, HYE3, below_drewN hB _⟩
            case measure => simp [intOf]; omega
          · have g6 : decide (x ≤ y) = true := decide_eq_true (by omega)
            have HR2 := Lib.hid (HNO.out fun h => hxy (h.2 h0))
            clear HNO HYE HYE2 hxy
            go_wp2_with (go_quiet ((go_at_call 18; exact Calls.quiet_of_same (v := .bool true) ((rbetw_any x 0 r.length _).mono fun e w' h => ⟨h.1.trans (by rw [HBX.out]), h.2.symm⟩))))
            go_ret
            exact ⟨ret_bool HR2.out.symm, HX.out _ (below_drewN hB _)⟩
    · obtain rfl : k = r.lines.length := by omega
      have HR3 := Lib.hid (HL3.out HO.out)
      cases hi : itemsB r.items r.length
      · have HI2 := Lib.hid hi
        have HR2 : Hid (RR = false) := Lib.hid (by rw [HR3.out, hi]; rfl)
        clear hi HR3
        go_wp2_with (go_at_call 19; (with_reducible refine (ritems_any r _ HLEN.out (HS.out _ hB)).mono ?_); rintro e w4 ⟨rfl, hb⟩; rw [HI2.out]; have hB4 := hB.trans (hb.mono hB.size); clear hb)
        go_ret
        exact ⟨ret_bool HR2.out.symm, HX.out _ hB4⟩
      · have HI2 := Lib.hid hi
        have HR2 : Hid (RR = brickB r.bricks) := Lib.hid (by rw [HR3.out, hi]; rfl)
        clear hi HR3
        go_wp2_with (first
          | (go_at_call 19; (with_reducible refine (ritems_any r _ HLEN.out (HS.out _ hB)).mono ?_); rintro e w4 ⟨rfl, hb⟩; rw [HI2.out]; have hB4 := hB.trans (hb.mono hB.size); clear hb)
          | (go_at_call 20; (with_reducible refine (refbricks_any _ r.bricks _ _ (HS.out _ hB4).bricks).mono ?_); rintro e w5 ⟨rfl, hb⟩; have hB5 := hB4.trans (hb.mono hB4.size); clear hb))
        go_ret
        exact ⟨ret_bool HR2.out.symm, HX.out _ hB5⟩
end Go.Proofs.YtfkmnneieglolaaGreatDoor
namespace Go.Proofs.YtfkmnneieglolaaGreatDoor
open Go.RowKit Go.Shelf
attribute [local go_sem] Oper.semAt_some
/-- A set is small: few items, short names. -/
def SmallP (r : SetR) (most : Int) : Prop := r.name.size ≤ 60 ∧ r.lines.length ≤ 12 ∧ ((r.items.length : Int) ≤ most ∨ 40 < r.items.length) ∧ r.items.length ≤ 45 ∧ r.bricks.length ≤ 10 ∧ (∀ j, j < r.items.length → (tg r.items j).name.size ≤ 60) ∧ ∀ j, j < r.bricks.length → (bg r.bricks j).name.size ≤ 60
instance (r : SetR) (most : Int) : Decidable (SmallP r most) := by unfold SmallP; infer_instance
def smallB (r : SetR) (most : Int) : Bool := decide (SmallP r most)
theorem small_in {w : World} {r : SetR} {most : Int} (h : SetIn0 w r) (hs : smallB r most = true) : SetIn w r := by
  obtain ⟨_, _, _, _, _, h6, h7⟩ := of_decide_eq_true hs
  refine ⟨h, fun x hx => ?_, fun x hx => ?_⟩
  · obtain ⟨j, hj, rfl⟩ := List.getElem_of_mem hx
    have := h6 j hj
    rw [tg_eq _ j hj] at this
    omega
  · obtain ⟨j, hj, rfl⟩ := List.getElem_of_mem hx
    have := h7 j hj
    rw [bg_eq _ j hj] at this
    omega
set_option maxRecDepth 100000 in
set_option maxHeartbeats 32000000 in
theorem small_any (r : SetR) (most : Int) (w : World) (hs : SetIn0 w r) :
    Calls Tryz.prog 5 #[.agg #[.string r.name, .int .i64 r.depth, .int .i64 r.low, .int .i64 r.high, .int .i64 r.length, .slice r.la r.lines.length r.lc, .int .i64 r.pipe, .int .i64 r.arbor, .int .i64 r.purchase, .int .i64 r.most, .int .i64 r.brake, .slice r.ia r.items.length r.ic, .slice r.ba r.bricks.length r.bc], .int .i64 most] w fun e w' => e = .returned (.bool (smallB r most)) ∧ Below w.heap.size w w' := by
  obtain ⟨R, hR⟩ : ∃ R, smallB r most = R := ⟨_, rfl⟩
  have HI : Hid (R = true ↔ SmallP r most) := Lib.hid (by rw [← hR]; unfold smallB; exact decide_eq_true_iff)
  rw [hR]
  clear hR
  have hb0 := below_new w (.cells #[.string r.name, .int .i64 r.depth, .int .i64 r.low, .int .i64 r.high, .int .i64 r.length, .slice r.la r.lines.length r.lc, .int .i64 r.pipe, .int .i64 r.arbor, .int .i64 r.purchase, .int .i64 r.most, .int .i64 r.brake, .slice r.ia r.items.length r.ic, .slice r.ba r.bricks.length r.bc] 26)
  have HX : Hid (∀ wx, Below (w.alloc (.cells #[.string r.name, .int .i64 r.depth, .int .i64 r.low, .int .i64 r.high, .int .i64 r.length, .slice r.la r.lines.length r.lc, .int .i64 r.pipe, .int .i64 r.arbor, .int .i64 r.purchase, .int .i64 r.most, .int .i64 r.brake, .slice r.ia r.items.length r.ic, .slice r.ba r.bricks.length r.bc] 26)).heap.size (w.alloc (.cells #[.string r.name, .int .i64 r.depth, .int .i64 r.low, .int .i64 r.high, .int .i64 r.length, .slice r.la r.lines.length r.lc, .int .i64 r.pipe, .int .i64 r.arbor, .int .i64 r.purchase, .int .i64 r.most, .int .i64 r.brake, .slice r.ia r.items.length r.ic, .slice r.ba r.bricks.length r.bc] 26)) wx → Below w.heap.size w wx) := Lib.hid fun wx h => mono_in _ h
  have HS : Hid (∀ wx, Below (w.alloc (.cells #[.string r.name, .int .i64 r.depth, .int .i64 r.low, .int .i64 r.high, .int .i64 r.length, .slice r.la r.lines.length r.lc, .int .i64 r.pipe, .int .i64 r.arbor, .int .i64 r.purchase, .int .i64 r.most, .int .i64 r.brake, .slice r.ia r.items.length r.ic, .slice r.ba r.bricks.length r.bc] 26)).heap.size (w.alloc (.cells #[.string r.name, .int .i64 r.depth, .int .i64 r.low, .int .i64 r.high, .int .i64 r.length, .slice r.la r.lines.length r.lc, .int .i64 r.pipe, .int .i64 r.arbor, .int .i64 r.purchase, .int .i64 r.most, .int .i64 r.brake, .slice r.ia r.items.length r.ic, .slice r.ba r.bricks.length r.bc] 26)) wx → SetIn0 wx r) := Lib.hid fun wx h => (hs.grow hb0).grow h
  have HAT : Hid (∀ wx, Below (w.alloc (.cells #[.string r.name, .int .i64 r.depth, .int .i64 r.low, .int .i64 r.high, .int .i64 r.length, .slice r.la r.lines.length r.lc, .int .i64 r.pipe, .int .i64 r.arbor, .int .i64 r.purchase, .int .i64 r.most, .int .i64 r.brake, .slice r.ia r.items.length r.ic, .slice r.ba r.bricks.length r.bc] 26)).heap.size (w.alloc (.cells #[.string r.name, .int .i64 r.depth, .int .i64 r.low, .int .i64 r.high, .int .i64 r.length, .slice r.la r.lines.length r.lc, .int .i64 r.pipe, .int .i64 r.arbor, .int .i64 r.purchase, .int .i64 r.most, .int .i64 r.brake, .slice r.ia r.items.length r.ic, .slice r.ba r.bricks.length r.bc] 26)) wx → SetAt wx w.heap.size r) := Lib.hid fun wx h => (SetAt.new w r 26).below h (by simp)
  clear hb0 hs
  by_cases q0 : 60 < r.name.size
  · have ga868 : decide ((60 : Int) < (r.name.size : Int)) = true := decide_eq_true (by omega)
    have gb868 : decide (60 < r.name.size) = true := decide_eq_true (by omega)
    have HR : Hid (R = false) := Lib.hid (by
      rw [Bool.eq_false_iff]
      intro h
      obtain ⟨s1, s2, s3, s4, s5, _, _⟩ := HI.out.1 h
      omega)
    clear q0
    go_enter Tryz.func5, Tryz.ntmps5
    go_wp2_with fail
    generalize (w.alloc (.cells #[.string r.name, .int .i64 r.depth, .int .i64 r.low, .int .i64 r.high, .int .i64 r.length, .slice r.la r.lines.length r.lc, .int .i64 r.pipe, .int .i64 r.arbor, .int .i64 r.purchase, .int .i64 r.most, .int .i64 r.brake, .slice r.ia r.items.length r.ic, .slice r.ba r.bricks.length r.bc] 26)) = W0 at *
    have hB1 := Below.refl W0.heap.size W0
    have x0 : ∀ wx, Below W0.heap.size W0 wx → wx.cell? ⟨w.heap.size, 0, none⟩ = some (.string r.name) := fun wx h => (HAT.out wx h).1
    have x5 : ∀ wx, Below W0.heap.size W0 wx → wx.cell? ⟨w.heap.size, 5, none⟩ = some (.slice r.la r.lines.length r.lc) := fun wx h => (HAT.out wx h).2.2.2.2.2.1
    have x11 : ∀ wx, Below W0.heap.size W0 wx → wx.cell? ⟨w.heap.size, 11, none⟩ = some (.slice r.ia r.items.length r.ic) := fun wx h => (HAT.out wx h).2.2.2.2.2.2.2.2.2.2.2.1
    have x12 : ∀ wx, Below W0.heap.size W0 wx → wx.cell? ⟨w.heap.size, 12, none⟩ = some (.slice r.ba r.bricks.length r.bc) := fun wx h => (HAT.out wx h).2.2.2.2.2.2.2.2.2.2.2.2
    go_wp2_with fail
    go_ret
    exact ⟨ret_bool HR.out.symm, HX.out _ hB1⟩
  have ga868 : decide ((60 : Int) < (r.name.size : Int)) = false := decide_eq_false (by omega)
  have gb868 : decide (60 < r.name.size) = false := decide_eq_false (by omega)
  by_cases q1 : 12 < r.lines.length
  · have ga686 : decide ((12 : Int) < (r.lines.length : Int)) = true := decide_eq_true (by omega)
    have gb686 : decide (12 < r.lines.length) = true := decide_eq_true (by omega)
    have HR : Hid (R = false) := Lib.hid (by
      rw [Bool.eq_false_iff]
      intro h
      obtain ⟨s1, s2, s3, s4, s5, _, _⟩ := HI.out.1 h
      omega)
    clear q0 q1
    go_enter Tryz.func5, Tryz.ntmps5
    go_wp2_with fail
    generalize (w.alloc (.cells #[.string r.name, .int .i64 r.depth, .int .i64 r.low, .int .i64 r.high, .int .i64 r.length, .slice r.la r.lines.length r.lc, .int .i64 r.pipe, .int .i64 r.arbor, .int .i64 r.purchase, .int .i64 r.most, .int .i64 r.brake, .slice r.ia r.items.length r.ic, .slice r.ba r.bricks.length r.bc] 26)) = W0 at *
    have hB1 := Below.refl W0.heap.size W0
    have x0 : ∀ wx, Below W0.heap.size W0 wx → wx.cell? ⟨w.heap.size, 0, none⟩ = some (.string r.name) := fun wx h => (HAT.out wx h).1
    have x5 : ∀ wx, Below W0.heap.size W0 wx → wx.cell? ⟨w.heap.size, 5, none⟩ = some (.slice r.la r.lines.length r.lc) := fun wx h => (HAT.out wx h).2.2.2.2.2.1
    have x11 : ∀ wx, Below W0.heap.size W0 wx → wx.cell? ⟨w.heap.size, 11, none⟩ = some (.slice r.ia r.items.length r.ic) := fun wx h => (HAT.out wx h).2.2.2.2.2.2.2.2.2.2.2.1
    have x12 : ∀ wx, Below W0.heap.size W0 wx → wx.cell? ⟨w.heap.size, 12, none⟩ = some (.slice r.ba r.bricks.length r.bc) := fun wx h => (HAT.out wx h).2.2.2.2.2.2.2.2.2.2.2.2
    go_wp2_with fail
    go_ret
    exact ⟨ret_bool HR.out.symm, HX.out _ hB1⟩
  have ga686 : decide ((12 : Int) < (r.lines.length : Int)) = false := decide_eq_false (by omega)
  have gb686 : decide (12 < r.lines.length) = false := decide_eq_false (by omega)
  by_cases q2 : most < (r.items.length : Int)
  · have gc : decide (most < (r.items.length : Int)) = true := decide_eq_true q2
    by_cases q3 : r.items.length ≤ 40
    · have gd : decide ((r.items.length : Int) ≤ 40) = true := decide_eq_true (by omega)
      have ge : decide (r.items.length ≤ 40) = true := decide_eq_true (by omega)
      have HR : Hid (R = false) := Lib.hid (by
        rw [Bool.eq_false_iff]
        intro h
        obtain ⟨s1, s2, s3, s4, s5, _, _⟩ := HI.out.1 h
        omega)
      clear q0 q1 q2 q3
      go_enter Tryz.func5, Tryz.ntmps5
      go_wp2_with fail
      generalize (w.alloc (.cells #[.string r.name, .int .i64 r.depth, .int .i64 r.low, .int .i64 r.high, .int .i64 r.length, .slice r.la r.lines.length r.lc, .int .i64 r.pipe, .int .i64 r.arbor, .int .i64 r.purchase, .int .i64 r.most, .int .i64 r.brake, .slice r.ia r.items.length r.ic, .slice r.ba r.bricks.length r.bc] 26)) = W0 at *
      have hB1 := Below.refl W0.heap.size W0
      have x0 : ∀ wx, Below W0.heap.size W0 wx → wx.cell? ⟨w.heap.size, 0, none⟩ = some (.string r.name) := fun wx h => (HAT.out wx h).1
      have x5 : ∀ wx, Below W0.heap.size W0 wx → wx.cell? ⟨w.heap.size, 5, none⟩ = some (.slice r.la r.lines.length r.lc) := fun wx h => (HAT.out wx h).2.2.2.2.2.1
      have x11 : ∀ wx, Below W0.heap.size W0 wx → wx.cell? ⟨w.heap.size, 11, none⟩ = some (.slice r.ia r.items.length r.ic) := fun wx h => (HAT.out wx h).2.2.2.2.2.2.2.2.2.2.2.1
      have x12 : ∀ wx, Below W0.heap.size W0 wx → wx.cell? ⟨w.heap.size, 12, none⟩ = some (.slice r.ba r.bricks.length r.bc) := fun wx h => (HAT.out wx h).2.2.2.2.2.2.2.2.2.2.2.2
      go_wp2_with fail
      go_ret
      exact ⟨ret_bool HR.out.symm, HX.out _ hB1⟩
    have gd : decide ((r.items.length : Int) ≤ 40) = false := decide_eq_false (by omega)
    have ge : decide (r.items.length ≤ 40) = false := decide_eq_false (by omega)
    by_cases q4 : 45 < r.items.length
    · have ga102 : decide ((45 : Int) < (r.items.length : Int)) = true := decide_eq_true (by omega)
      have gb102 : decide (45 < r.items.length) = true := decide_eq_true (by omega)
      have HR : Hid (R = false) := Lib.hid (by
        rw [Bool.eq_false_iff]
        intro h
        obtain ⟨s1, s2, s3, s4, s5, _, _⟩ := HI.out.1 h
        omega)
      clear q0 q1 q2 q3 q4
      go_enter Tryz.func5, Tryz.ntmps5
      go_wp2_with fail
      generalize (w.alloc (.cells #[.string r.name, .int .i64 r.depth, .int .i64 r.low, .int .i64 r.high, .int .i64 r.length, .slice r.la r.lines.length r.lc, .int .i64 r.pipe, .int .i64 r.arbor, .int .i64 r.purchase, .int .i64 r.most, .int .i64 r.brake, .slice r.ia r.items.length r.ic, .slice r.ba r.bricks.length r.bc] 26)) = W0 at *
      have hB1 := Below.refl W0.heap.size W0
      have x0 : ∀ wx, Below W0.heap.size W0 wx → wx.cell? ⟨w.heap.size, 0, none⟩ = some (.string r.name) := fun wx h => (HAT.out wx h).1
      have x5 : ∀ wx, Below W0.heap.size W0 wx → wx.cell? ⟨w.heap.size, 5, none⟩ = some (.slice r.la r.lines.length r.lc) := fun wx h => (HAT.out wx h).2.2.2.2.2.1
      have x11 : ∀ wx, Below W0.heap.size W0 wx → wx.cell? ⟨w.heap.size, 11, none⟩ = some (.slice r.ia r.items.length r.ic) := fun wx h => (HAT.out wx h).2.2.2.2.2.2.2.2.2.2.2.1
      have x12 : ∀ wx, Below W0.heap.size W0 wx → wx.cell? ⟨w.heap.size, 12, none⟩ = some (.slice r.ba r.bricks.length r.bc) := fun wx h => (HAT.out wx h).2.2.2.2.2.2.2.2.2.2.2.2
      go_wp2_with fail
      go_ret
      exact ⟨ret_bool HR.out.symm, HX.out _ hB1⟩
    have ga102 : decide ((45 : Int) < (r.items.length : Int)) = false := decide_eq_false (by omega)
    have gb102 : decide (45 < r.items.length) = false := decide_eq_false (by omega)
    by_cases q5 : 10 < r.bricks.length
    · have ga387 : decide ((10 : Int) < (r.bricks.length : Int)) = true := decide_eq_true (by omega)
      have gb387 : decide (10 < r.bricks.length) = true := decide_eq_true (by omega)
      have HR : Hid (R = false) := Lib.hid (by
        rw [Bool.eq_false_iff]
        intro h
        obtain ⟨s1, s2, s3, s4, s5, _, _⟩ := HI.out.1 h
        omega)
      clear q0 q1 q2 q3 q4 q5
      go_enter Tryz.func5, Tryz.ntmps5
      go_wp2_with fail
      generalize (w.alloc (.cells #[.string r.name, .int .i64 r.depth, .int .i64 r.low, .int .i64 r.high, .int .i64 r.length, .slice r.la r.lines.length r.lc, .int .i64 r.pipe, .int .i64 r.arbor, .int .i64 r.purchase, .int .i64 r.most, .int .i64 r.brake, .slice r.ia r.items.length r.ic, .slice r.ba r.bricks.length r.bc] 26)) = W0 at *
      have hB1 := Below.refl W0.heap.size W0
      have x0 : ∀ wx, Below W0.heap.size W0 wx → wx.cell? ⟨w.heap.size, 0, none⟩ = some (.string r.name) := fun wx h => (HAT.out wx h).1
      have x5 : ∀ wx, Below W0.heap.size W0 wx → wx.cell? ⟨w.heap.size, 5, none⟩ = some (.slice r.la r.lines.length r.lc) := fun wx h => (HAT.out wx h).2.2.2.2.2.1
      have x11 : ∀ wx, Below W0.heap.size W0 wx → wx.cell? ⟨w.heap.size, 11, none⟩ = some (.slice r.ia r.items.length r.ic) := fun wx h => (HAT.out wx h).2.2.2.2.2.2.2.2.2.2.2.1
      have x12 : ∀ wx, Below W0.heap.size W0 wx → wx.cell? ⟨w.heap.size, 12, none⟩ = some (.slice r.ba r.bricks.length r.bc) := fun wx h => (HAT.out wx h).2.2.2.2.2.2.2.2.2.2.2.2
      go_wp2_with fail
      go_ret
      exact ⟨ret_bool HR.out.symm, HX.out _ hB1⟩
    have ga387 : decide ((10 : Int) < (r.bricks.length : Int)) = false := decide_eq_false (by omega)
    have gb387 : decide (10 < r.bricks.length) = false := decide_eq_false (by omega)
    go_enter Tryz.func5, Tryz.ntmps5
    go_wp2_with fail
    generalize (w.alloc (.cells #[.string r.name, .int .i64 r.depth, .int .i64 r.low, .int .i64 r.high, .int .i64 r.length, .slice r.la r.lines.length r.lc, .int .i64 r.pipe, .int .i64 r.arbor, .int .i64 r.purchase, .int .i64 r.most, .int .i64 r.brake, .slice r.ia r.items.length r.ic, .slice r.ba r.bricks.length r.bc] 26)) = W0 at *
    have hB1 := Below.refl W0.heap.size W0
    have x0 : ∀ wx, Below W0.heap.size W0 wx → wx.cell? ⟨w.heap.size, 0, none⟩ = some (.string r.name) := fun wx h => (HAT.out wx h).1
    have x5 : ∀ wx, Below W0.heap.size W0 wx → wx.cell? ⟨w.heap.size, 5, none⟩ = some (.slice r.la r.lines.length r.lc) := fun wx h => (HAT.out wx h).2.2.2.2.2.1
    have x11 : ∀ wx, Below W0.heap.size W0 wx → wx.cell? ⟨w.heap.size, 11, none⟩ = some (.slice r.ia r.items.length r.ic) := fun wx h => (HAT.out wx h).2.2.2.2.2.2.2.2.2.2.2.1
    have x12 : ∀ wx, Below W0.heap.size W0 wx → wx.cell? ⟨w.heap.size, 12, none⟩ = some (.slice r.ba r.bricks.length r.bc) := fun wx h => (HAT.out wx h).2.2.2.2.2.2.2.2.2.2.2.2
    go_loop [5] (fun v => ∃ k : Nat, k ≤ r.items.length ∧ v = .int .i64 k ∧ Hid (∀ j, j < k → (tg r.items j).name.size ≤ 60)) (fun v => r.items.length - (intOf v).toNat)
    case atStart => exact ⟨0, Nat.zero_le _, rfl, Lib.hid (fun j hj => by omega)⟩
    case round =>
      obtain ⟨k, hk, rfl, HO1⟩ := hrel
      by_cases hlt : k < r.items.length
      · obtain ⟨b, off, hia, hb, hc⟩ := (HS.out _ hB1).items (by omega)
        have y := x11 W0 hB1
        rw [hia] at y
        have c0 := (hc k hlt).1
        clear hc hia x11
        have k1 : (k : Int) < r.items.length := by omega
        obtain ⟨s, hs⟩ : ∃ s, (tg r.items k).name = s := ⟨_, rfl⟩
        rw [hs] at c0
        by_cases q : 60 < s.size
        · have ga : decide ((60 : Int) < (s.size : Int)) = true := decide_eq_true (by omega)
          have gb : decide (60 < s.size) = true := decide_eq_true (by omega)
          have HR : Hid (R = false) := Lib.hid (by
            rw [Bool.eq_false_iff]
            intro h
            have := (HI.out.1 h).2.2.2.2.2.1 k hlt
            rw [hs] at this
            omega)
          clear q hs
          go_wp2_with fail
          go_ret
          exact ⟨ret_bool HR.out.symm, HX.out _ hB1⟩
        · have ga : decide ((60 : Int) < (s.size : Int)) = false := decide_eq_false (by omega)
          have gb : decide (60 < s.size) = false := decide_eq_false (by omega)
          have HN : Hid (∀ j, j < k + 1 → (tg r.items j).name.size ≤ 60) := Lib.hid fun j hj => by
            rcases (show j < k ∨ j = k by omega) with l | l
            · exact HO1.out j l
            · subst l; rw [hs]; omega
          clear q hs
          go_wp2_with fail
          go_round
          case rel => exact ⟨k + 1, by omega, by go_num, HN⟩
          case measure => simp [intOf]; omega
      · obtain rfl : k = r.items.length := by omega
        go_wp2_with fail
        go_loop [6] (fun v => ∃ k : Nat, k ≤ r.bricks.length ∧ v = .int .i64 k ∧ Hid (∀ j, j < k → (bg r.bricks j).name.size ≤ 60)) (fun v => r.bricks.length - (intOf v).toNat)
        case atStart => exact ⟨0, Nat.zero_le _, rfl, Lib.hid (fun j hj => by omega)⟩
        case round =>
          obtain ⟨k, hk, rfl, HO2⟩ := hrel
          by_cases hlt : k < r.bricks.length
          · obtain ⟨b, off, hia, hb, hc⟩ := (HS.out _ hB1).bricks (by omega)
            have y := x12 W0 hB1
            rw [hia] at y
            have c0 := (hc k hlt).1
            clear hc hia x12
            have k1 : (k : Int) < r.bricks.length := by omega
            obtain ⟨s, hs⟩ : ∃ s, (bg r.bricks k).name = s := ⟨_, rfl⟩
            rw [hs] at c0
            by_cases q : 60 < s.size
            · have ga : decide ((60 : Int) < (s.size : Int)) = true := decide_eq_true (by omega)
              have gb : decide (60 < s.size) = true := decide_eq_true (by omega)
              have HR : Hid (R = false) := Lib.hid (by
                rw [Bool.eq_false_iff]
                intro h
                have := (HI.out.1 h).2.2.2.2.2.2 k hlt
                rw [hs] at this
                omega)
              clear q hs
              go_wp2_with fail
              go_ret
              exact ⟨ret_bool HR.out.symm, HX.out _ hB1⟩
            · have ga : decide ((60 : Int) < (s.size : Int)) = false := decide_eq_false (by omega)
              have gb : decide (60 < s.size) = false := decide_eq_false (by omega)
              have HN : Hid (∀ j, j < k + 1 → (bg r.bricks j).name.size ≤ 60) := Lib.hid fun j hj => by
                rcases (show j < k ∨ j = k by omega) with l | l
                · exact HO2.out j l
                · subst l; rw [hs]; omega
              clear q hs
              go_wp2_with fail
              go_round
              case rel => exact ⟨k + 1, by omega, by go_num, HN⟩
              case measure => simp [intOf]; omega
          · obtain rfl : k = r.bricks.length := by omega
            have HR : Hid (R = true) := Lib.hid (HI.out.2 ⟨by omega, by omega, by omega, by omega, by omega, HO1.out, HO2.out⟩)
            go_wp2_with fail
            go_ret
            exact ⟨ret_bool HR.out.symm, HX.out _ hB1⟩
  · have gc : decide (most < (r.items.length : Int)) = false := decide_eq_false q2
    by_cases q4 : 45 < r.items.length
    · have ga102 : decide ((45 : Int) < (r.items.length : Int)) = true := decide_eq_true (by omega)
      have gb102 : decide (45 < r.items.length) = true := decide_eq_true (by omega)
      have HR : Hid (R = false) := Lib.hid (by
        rw [Bool.eq_false_iff]
        intro h
        obtain ⟨s1, s2, s3, s4, s5, _, _⟩ := HI.out.1 h
        omega)
      clear q0 q1 q2 q4
      go_enter Tryz.func5, Tryz.ntmps5
      go_wp2_with fail
      generalize (w.alloc (.cells #[.string r.name, .int .i64 r.depth, .int .i64 r.low, .int .i64 r.high, .int .i64 r.length, .slice r.la r.lines.length r.lc, .int .i64 r.pipe, .int .i64 r.arbor, .int .i64 r.purchase, .int .i64 r.most, .int .i64 r.brake, .slice r.ia r.items.length r.ic, .slice r.ba r.bricks.length r.bc] 26)) = W0 at *
      have hB1 := Below.refl W0.heap.size W0
      have x0 : ∀ wx, Below W0.heap.size W0 wx → wx.cell? ⟨w.heap.size, 0, none⟩ = some (.string r.name) := fun wx h => (HAT.out wx h).1
      have x5 : ∀ wx, Below W0.heap.size W0 wx → wx.cell? ⟨w.heap.size, 5, none⟩ = some (.slice r.la r.lines.length r.lc) := fun wx h => (HAT.out wx h).2.2.2.2.2.1
      have x11 : ∀ wx, Below W0.heap.size W0 wx → wx.cell? ⟨w.heap.size, 11, none⟩ = some (.slice r.ia r.items.length r.ic) := fun wx h => (HAT.out wx h).2.2.2.2.2.2.2.2.2.2.2.1
      have x12 : ∀ wx, Below W0.heap.size W0 wx → wx.cell? ⟨w.heap.size, 12, none⟩ = some (.slice r.ba r.bricks.length r.bc) := fun wx h => (HAT.out wx h).2.2.2.2.2.2.2.2.2.2.2.2
      go_wp2_with fail
      go_ret
      exact ⟨ret_bool HR.out.symm, HX.out _ hB1⟩
    have ga102 : decide ((45 : Int) < (r.items.length : Int)) = false := decide_eq_false (by omega)
    have gb102 : decide (45 < r.items.length) = false := decide_eq_false (by omega)
    by_cases q5 : 10 < r.bricks.length
    · have ga387 : decide ((10 : Int) < (r.bricks.length : Int)) = true := decide_eq_true (by omega)
      have gb387 : decide (10 < r.bricks.length) = true := decide_eq_true (by omega)
      have HR : Hid (R = false) := Lib.hid (by
        rw [Bool.eq_false_iff]
        intro h
        obtain ⟨s1, s2, s3, s4, s5, _, _⟩ := HI.out.1 h
        omega)
      clear q0 q1 q2 q4 q5
      go_enter Tryz.func5, Tryz.ntmps5
      go_wp2_with fail
      generalize (w.alloc (.cells #[.string r.name, .int .i64 r.depth, .int .i64 r.low, .int .i64 r.high, .int .i64 r.length, .slice r.la r.lines.length r.lc, .int .i64 r.pipe, .int .i64 r.arbor, .int .i64 r.purchase, .int .i64 r.most, .int .i64 r.brake, .slice r.ia r.items.length r.ic, .slice r.ba r.bricks.length r.bc] 26)) = W0 at *
      have hB1 := Below.refl W0.heap.size W0
      have x0 : ∀ wx, Below W0.heap.size W0 wx → wx.cell? ⟨w.heap.size, 0, none⟩ = some (.string r.name) := fun wx h => (HAT.out wx h).1
      have x5 : ∀ wx, Below W0.heap.size W0 wx → wx.cell? ⟨w.heap.size, 5, none⟩ = some (.slice r.la r.lines.length r.lc) := fun wx h => (HAT.out wx h).2.2.2.2.2.1
      have x11 : ∀ wx, Below W0.heap.size W0 wx → wx.cell? ⟨w.heap.size, 11, none⟩ = some (.slice r.ia r.items.length r.ic) := fun wx h => (HAT.out wx h).2.2.2.2.2.2.2.2.2.2.2.1
      have x12 : ∀ wx, Below W0.heap.size W0 wx → wx.cell? ⟨w.heap.size, 12, none⟩ = some (.slice r.ba r.bricks.length r.bc) := fun wx h => (HAT.out wx h).2.2.2.2.2.2.2.2.2.2.2.2
      go_wp2_with fail
      go_ret
      exact ⟨ret_bool HR.out.symm, HX.out _ hB1⟩
    have ga387 : decide ((10 : Int) < (r.bricks.length : Int)) = false := decide_eq_false (by omega)
    have gb387 : decide (10 < r.bricks.length) = false := decide_eq_false (by omega)
    go_enter Tryz.func5, Tryz.ntmps5
    go_wp2_with fail
    generalize (w.alloc (.cells #[.string r.name, .int .i64 r.depth, .int .i64 r.low, .int .i64 r.high, .int .i64 r.length, .slice r.la r.lines.length r.lc, .int .i64 r.pipe, .int .i64 r.arbor, .int .i64 r.purchase, .int .i64 r.most, .int .i64 r.brake, .slice r.ia r.items.length r.ic, .slice r.ba r.bricks.length r.bc] 26)) = W0 at *
    have hB1 := Below.refl W0.heap.size W0
    have x0 : ∀ wx, Below W0.heap.size W0 wx → wx.cell? ⟨w.heap.size, 0, none⟩ = some (.string r.name) := fun wx h => (HAT.out wx h).1
    have x5 : ∀ wx, Below W0.heap.size W0 wx → wx.cell? ⟨w.heap.size, 5, none⟩ = some (.slice r.la r.lines.length r.lc) := fun wx h => (HAT.out wx h).2.2.2.2.2.1
    have x11 : ∀ wx, Below W0.heap.size W0 wx → wx.cell? ⟨w.heap.size, 11, none⟩ = some (.slice r.ia r.items.length r.ic) := fun wx h => (HAT.out wx h).2.2.2.2.2.2.2.2.2.2.2.1
    have x12 : ∀ wx, Below W0.heap.size W0 wx → wx.cell? ⟨w.heap.size, 12, none⟩ = some (.slice r.ba r.bricks.length r.bc) := fun wx h => (HAT.out wx h).2.2.2.2.2.2.2.2.2.2.2.2
    go_loop [5] (fun v => ∃ k : Nat, k ≤ r.items.length ∧ v = .int .i64 k ∧ Hid (∀ j, j < k → (tg r.items j).name.size ≤ 60)) (fun v => r.items.length - (intOf v).toNat)
    case atStart => exact ⟨0, Nat.zero_le _, rfl, Lib.hid (fun j hj => by omega)⟩
    case round =>
      obtain ⟨k, hk, rfl, HO1⟩ := hrel
      by_cases hlt : k < r.items.length
      · obtain ⟨b, off, hia, hb, hc⟩ := (HS.out _ hB1).items (by omega)
        have y := x11 W0 hB1
        rw [hia] at y
        have c0 := (hc k hlt).1
        clear hc hia x11
        have k1 : (k : Int) < r.items.length := by omega
        obtain ⟨s, hs⟩ : ∃ s, (tg r.items k).name = s := ⟨_, rfl⟩
        rw [hs] at c0
        by_cases q : 60 < s.size
        · have ga : decide ((60 : Int) < (s.size : Int)) = true := decide_eq_true (by omega)
          have gb : decide (60 < s.size) = true := decide_eq_true (by omega)
          have HR : Hid (R = false) := Lib.hid (by
            rw [Bool.eq_false_iff]
            intro h
            have := (HI.out.1 h).2.2.2.2.2.1 k hlt
            rw [hs] at this
            omega)
          clear q hs
          go_wp2_with fail
          go_ret
          exact ⟨ret_bool HR.out.symm, HX.out _ hB1⟩
        · have ga : decide ((60 : Int) < (s.size : Int)) = false := decide_eq_false (by omega)
          have gb : decide (60 < s.size) = false := decide_eq_false (by omega)
          have HN : Hid (∀ j, j < k + 1 → (tg r.items j).name.size ≤ 60) := Lib.hid fun j hj => by
            rcases (show j < k ∨ j = k by omega) with l | l
            · exact HO1.out j l
            · subst l; rw [hs]; omega
          clear q hs
          go_wp2_with fail
          go_round
          case rel => exact ⟨k + 1, by omega, by go_num, HN⟩
          case measure => simp [intOf]; omega
      · obtain rfl : k = r.items.length := by omega
        go_wp2_with fail
        go_loop [6] (fun v => ∃ k : Nat, k ≤ r.bricks.length ∧ v = .int .i64 k ∧ Hid (∀ j, j < k → (bg r.bricks j).name.size ≤ 60)) (fun v => r.bricks.length - (intOf v).toNat)
        case atStart => exact ⟨0, Nat.zero_le _, rfl, Lib.hid (fun j hj => by omega)⟩
        case round =>
          obtain ⟨k, hk, rfl, HO2⟩ := hrel
          by_cases hlt : k < r.bricks.length
          · obtain ⟨b, off, hia, hb, hc⟩ := (HS.out _ hB1).bricks (by omega)
            have y := x12 W0 hB1
            rw [hia] at y
            have c0 := (hc k hlt).1
            clear hc hia x12
            have k1 : (k : Int) < r.bricks.length := by omega
            obtain ⟨s, hs⟩ : ∃ s, (bg r.bricks k).name = s := ⟨_, rfl⟩
            rw [hs] at c0
            by_cases q : 60 < s.size
            · have ga : decide ((60 : Int) < (s.size : Int)) = true := decide_eq_true (by omega)
              have gb : decide (60 < s.size) = true := decide_eq_true (by omega)
              have HR : Hid (R = false) := Lib.hid (by
                rw [Bool.eq_false_iff]
                intro h
                have := (HI.out.1 h).2.2.2.2.2.2 k hlt
                rw [hs] at this
                omega)
              clear q hs
              go_wp2_with fail
              go_ret
              exact ⟨ret_bool HR.out.symm, HX.out _ hB1⟩
            · have ga : decide ((60 : Int) < (s.size : Int)) = false := decide_eq_false (by omega)
              have gb : decide (60 < s.size) = false := decide_eq_false (by omega)
              have HN : Hid (∀ j, j < k + 1 → (bg r.bricks j).name.size ≤ 60) := Lib.hid fun j hj => by
                rcases (show j < k ∨ j = k by omega) with l | l
                · exact HO2.out j l
                · subst l; rw [hs]; omega
              clear q hs
              go_wp2_with fail
              go_round
              case rel => exact ⟨k + 1, by omega, by go_num, HN⟩
              case measure => simp [intOf]; omega
          · obtain rfl : k = r.bricks.length := by omega
            have HR : Hid (R = true) := Lib.hid (HI.out.2 ⟨by omega, by omega, by omega, by omega, by omega, HO1.out, HO2.out⟩)
            go_wp2_with fail
            go_ret
            exact ⟨ret_bool HR.out.symm, HX.out _ hB1⟩
end Go.Proofs.YtfkmnneieglolaaGreatDoor
namespace Go.Proofs.YtfkmnneieglolaaGreatDoor
open Go.RowKit Go.Shelf
theorem near_any {B Bs : Nat} {wt : Int} (a : Option Addr) (L : List BrickR) (cap : Nat) (hw : -1099511627776 ≤ wt ∧ wt ≤ 1099511627776) (hl : L.length ≤ 8) (hok : BrickOK L) :
    ∀ (d k : Nat) (s : Int) (st : Option Int) (w : World), k + d = L.length → 0 ≤ s → s + restC (L.drop k) ≤ 503316480 → (∀ b, st = some b → 0 ≤ b ∧ b ≤ 503316480) →
      NearS B w Bs wt st → SearchAt B w Bs a L cap → Bricks B w a L →
      Calls Tryz.prog 72 #[.int .i64 k, .int .i64 s, .pointer (some ⟨B + 1, 0, none⟩), .pointer (some ⟨B, 0, none⟩), .pointer (some ⟨B + 3, 0, none⟩), .pointer (some ⟨B + 4, 0, none⟩), .pointer (some ⟨B + 2, 0, none⟩), .pointer (some ⟨B + 5, 0, none⟩)] w fun e w' => e = .returned (.tuple #[]) ∧ NearS B w' Bs wt (visitN wt (L.drop k) s st) ∧ Below B w w' := by
  intro d
  induction d with
  | zero =>
    intro k s st w hk hs0 hs1 hbd hV hS hB
    have hk' : k = L.length := by omega
    have e0 : L.drop k = [] := by rw [hk']; exact List.drop_length
    have hz : restC (L.drop k) = 0 := by rw [e0]; rfl
    by_cases c : ∃ b, st = some b ∧ (farN wt b < leastN wt s (restC (L.drop k)) ∨ (leastN wt s (restC (L.drop k)) = farN wt b ∧ b ≤ s))
    · obtain ⟨b, rfl, h⟩ := c
      rw [visitN_skip wt (L.drop k) s b (fun x hx => hok x (List.mem_of_mem_drop hx)) _ rfl h]
      refine (near_skip a L cap k s b w (by omega) hw ⟨hs0, hs1⟩ (by omega) (hbd b rfl) hV hS h).mono ?_
      rintro e w' ⟨rfl, m, rfl⟩
      exact ⟨rfl, hV.grow (below_drewN (Below.refl _ _) m), below_drewN (Below.refl _ _) m⟩
    · have hgo : ∀ b, st = some b → ¬ (farN wt b < leastN wt s (restC (L.drop k)) ∨ (leastN wt s (restC (L.drop k)) = farN wt b ∧ b ≤ s)) := fun b e h => c ⟨b, e, h⟩
      have hF : visitN wt (L.drop k) s st = some s := by
        rw [e0]
        unfold visitN stepN
        cases st with
        | none => rfl
        | some b =>
          have := hgo b rfl
          rw [hz] at this
          have hn : nearer wt s b := by
            unfold leastN at this
            unfold nearer
            unfold farN at this ⊢
            split at this <;> split <;> omega
          simp only []
          rw [if_pos hn]
      rw [hF]
      exact near_leaf a L cap k s st w (by omega) hw ⟨hs0, hs1⟩ (by omega) hbd hV hS hgo hk'
  | succ d ih =>
    intro k s st w hk hs0 hs1 hbd hV hS hB
    have hr : 0 ≤ restC (L.drop k) := (rest_bd (fun x hx => hok x (List.mem_of_mem_drop hx) : BrickOK (L.drop k))).1
    by_cases c : ∃ b, st = some b ∧ (farN wt b < leastN wt s (restC (L.drop k)) ∨ (leastN wt s (restC (L.drop k)) = farN wt b ∧ b ≤ s))
    · obtain ⟨b, rfl, h⟩ := c
      rw [visitN_skip wt (L.drop k) s b (fun x hx => hok x (List.mem_of_mem_drop hx)) _ rfl h]
      refine (near_skip a L cap k s b w (by omega) hw ⟨hs0, hs1⟩ (by omega) (hbd b rfl) hV hS h).mono ?_
      rintro e w' ⟨rfl, m, rfl⟩
      exact ⟨rfl, hV.grow (below_drewN (Below.refl _ _) m), below_drewN (Below.refl _ _) m⟩
    · have hgo : ∀ b, st = some b → ¬ (farN wt b < leastN wt s (restC (L.drop k)) ∨ (leastN wt s (restC (L.drop k)) = farN wt b ∧ b ≤ s)) := fun b e h => c ⟨b, e, h⟩
      have hlt : k < L.length := by omega
      obtain ⟨w1, w2, c1, c2⟩ := ok_bg hok hlt
      have hd := restC_drop hlt
      refine near_node a L cap k s st w (by omega) hw ⟨hs0, hs1⟩ hr hbd hV hS hgo hl hlt hok hB fun x st' w' hx hb' hV' hS' hB' => ?_
      have m1 : (x : Int) * (bg L k).weight ≤ (bg L k).count * (bg L k).weight := Int.mul_le_mul_of_nonneg_right hx (by omega)
      have m2 : 0 ≤ (x : Int) * (bg L k).weight := Int.mul_nonneg (by omega) (by omega)
      have m3 : (bg L k).weight * (bg L k).count = (bg L k).count * (bg L k).weight := Int.mul_comm _ _
      exact ih (k + 1) (s + x * (bg L k).weight) st' w' (by omega) (by omega) (by omega) hb' hV' hS' hB'
theorem near_start (w : World) (Bs B : Nat) (wt : Int) (hB : w.heap.size = B) (W : World) (hW : W = ((((((w.alloc (.cells #[.pointer (some ⟨Bs, 0, none⟩)] 104)).alloc (.cells #[.int .i64 wt] 3)).alloc (.cells #[.int .i64 0] 3)).alloc (.cells #[.bool false] 4)).alloc (.cells #[.func (.func 71) #[] #[.pointer (some ⟨B + 1, 0, none⟩)]] 106)).alloc (.cells #[.func (.func 72) #[] #[.pointer (some ⟨B + 1, 0, none⟩), .pointer (some ⟨B, 0, none⟩), .pointer (some ⟨B + 3, 0, none⟩), .pointer (some ⟨B + 4, 0, none⟩), .pointer (some ⟨B + 2, 0, none⟩), .pointer (some ⟨B + 5, 0, none⟩)]] 132))) :
    NearS B W Bs wt none ∧ Below B w W := by
  subst hB
  have hb : Below w.heap.size w W := by
    rw [hW]
    refine Below.alloc (Below.alloc (Below.alloc (Below.alloc (Below.alloc (below_new w _) ?_ _) ?_ _) ?_ _) ?_ _) ?_ _ <;> (simp <;> omega)
  refine ⟨⟨?_, ?_, ?_, ?_, ?_, ?_, ?_, ?_, ?_⟩, hb⟩
  all_goals subst hW
  all_goals simp [go_sem]
set_option maxRecDepth 100000 in
set_option maxHeartbeats 16000000 in
theorem nearest_any {Bs : Nat} (wt : Int) (a : Option Addr) (L : List BrickR) (cap : Nat) (w : World) (hw : -1099511627776 ≤ wt ∧ wt ≤ 1099511627776) (hl : L.length ≤ 8) (hok : BrickOK L) (hS : SearchAt w.heap.size w Bs a L cap) (hBK : Bricks w.heap.size w a L) :
    Calls Tryz.prog 46 #[.pointer (some ⟨Bs, 0, none⟩), .int .i64 wt] w fun e w' => e = .returned (.int .i64 (nearP wt L)) ∧ Below w.heap.size w w' := by
  have HSE := Lib.hid hS
  have HBK := Lib.hid hBK
  have HOK := Lib.hid hok
  have HRB : Hid ((0 : Int) + restC (L.drop 0) ≤ 503316480) := Lib.hid (by have := (bounds_bg hok hl).2; rw [List.drop_zero]; omega)
  have HF : Hid (visitN wt (L.drop 0) 0 none = some (nearP wt L)) := Lib.hid (nearP_some hok)
  clear hS hBK hok
  go_enter Tryz.func46, Tryz.ntmps46
  go_upto_region 5 with (fail)
  simp only [Nat.add_assoc, Nat.reduceAdd]
  obtain ⟨B, hB⟩ : ∃ B, w.heap.size = B := ⟨_, rfl⟩
  have HBe := Lib.hid hB
  rw [hB] at HSE HBK
  simp only [hB]
  obtain ⟨W6, hW⟩ : ∃ W, W = ((((((w.alloc (.cells #[.pointer (some ⟨Bs, 0, none⟩)] 104)).alloc (.cells #[.int .i64 wt] 3)).alloc (.cells #[.int .i64 0] 3)).alloc (.cells #[.bool false] 4)).alloc (.cells #[.func (.func 71) #[] #[.pointer (some ⟨B + 1, 0, none⟩)]] 106)).alloc (.cells #[.func (.func 72) #[] #[.pointer (some ⟨B + 1, 0, none⟩), .pointer (some ⟨B, 0, none⟩), .pointer (some ⟨B + 3, 0, none⟩), .pointer (some ⟨B + 4, 0, none⟩), .pointer (some ⟨B + 2, 0, none⟩), .pointer (some ⟨B + 5, 0, none⟩)]] 132)) := ⟨_, rfl⟩
  obtain ⟨hV, hB6⟩ := near_start w Bs B wt hB W6 hW
  have HV := Lib.hid hV
  have hcv := hV.cv
  rw [← hW]
  clear hW hV hB
  go_wp2_with (go_at_call 72; (refine (near_any a L cap hw hl HOK.out L.length 0 0 none _ (by omega) (Int.le_refl _) HRB.out (fun _ h => by cases h) HV.out (HSE.out.keep hB6) (HBK.out.below hB6)).mono ?_); rintro e y ⟨rfl, hVy, hBy⟩; have hV2 := hVy; rw [HF.out] at hV2; have q2 := hV2.cb; have hBw := hB6.trans hBy; clear hVy hV2)
  go_ret
  exact ⟨rfl, by rw [HBe.out]; exact hBw⟩
def nearC (wt : Int) (L : List BrickR) : St := if brickB L = true ∧ -1099511627776 ≤ wt ∧ wt ≤ 1099511627776 then winC (nearP wt L) (nearP wt L) L else none
def nearE (wt : Int) (L : List BrickR) : Int := if brickB L = true then (if -1099511627776 ≤ wt ∧ wt ≤ 1099511627776 then winE (nearP wt L) (nearP wt L) L else 2) else 1
set_option maxRecDepth 100000 in
set_option maxHeartbeats 16000000 in
theorem near26_any (wt : Int) (a : Option Addr) (L : List BrickR) (cap : Nat) (w : World) (hcap : L.length ≤ cap) (h : Bricks w.heap.size w a L) :
    Calls Tryz.prog 22 #[.slice a L.length cap, .int .i64 wt] w fun e w' => Hid (∃ v, e = .returned (.tuple #[v, .int .i64 (nearE wt L)]) ∧ RowV w.heap.size w' v (nearC wt L)) ∧ Below w.heap.size w w' := by
  have HU := Lib.hid h
  clear h
  cases hb : brickB L
  · have HB := Lib.hid hb
    have HC : Hid (nearC wt L = none) := Lib.hid (by unfold nearC; rw [hb]; rfl)
    have HE : Hid (nearE wt L = 1) := Lib.hid (by unfold nearE; rw [hb]; rfl)
    clear hb
    go_enter Tryz.func22, Tryz.ntmps22
    go_wp2_with (go_at_call 30; (with_reducible refine (valid_any _ L _ _ hcap HU.out).mono ?_); rintro e w1 ⟨rfl, hb1⟩; rw [HB.out])
    go_ret2
    rw [HC.out, HE.out]
    exact ⟨Lib.hid ⟨_, rfl, rfl⟩, hb1⟩
  have HB := Lib.hid hb
  obtain ⟨hl, _, _, hok⟩ := brick_ok hb
  have HOK := Lib.hid hok
  by_cases q1 : wt < -1099511627776
  · have HC : Hid (nearC wt L = none) := Lib.hid (by unfold nearC; rw [if_neg (by omega)])
    have HE : Hid (nearE wt L = 2) := Lib.hid (by unfold nearE; rw [if_pos hb, if_neg (by omega)])
    clear hb hok
    have g1 : decide (wt < -1099511627776) = true := decide_eq_true q1
    go_enter Tryz.func22, Tryz.ntmps22
    go_wp2_with (go_at_call 30; (with_reducible refine (valid_any _ L _ _ hcap HU.out).mono ?_); rintro e w1 ⟨rfl, hb1⟩; rw [HB.out])
    go_ret2
    rw [HC.out, HE.out]
    exact ⟨Lib.hid ⟨_, rfl, rfl⟩, hb1⟩
  · by_cases q2 : 1099511627776 < wt
    · have HC : Hid (nearC wt L = none) := Lib.hid (by unfold nearC; rw [if_neg (by omega)])
      have HE : Hid (nearE wt L = 2) := Lib.hid (by unfold nearE; rw [if_pos hb, if_neg (by omega)])
      clear hb hok
      have g1 : decide (wt < -1099511627776) = false := decide_eq_false q1
      have g2 : decide (1099511627776 < wt) = true := decide_eq_true q2
      go_enter Tryz.func22, Tryz.ntmps22
      go_wp2_with (go_at_call 30; (with_reducible refine (valid_any _ L _ _ hcap HU.out).mono ?_); rintro e w1 ⟨rfl, hb1⟩; rw [HB.out])
      go_ret2
      rw [HC.out, HE.out]
      exact ⟨Lib.hid ⟨_, rfl, rfl⟩, hb1⟩
    · have HC : Hid (nearC wt L = winC (nearP wt L) (nearP wt L) L) := Lib.hid (by unfold nearC; rw [if_pos ⟨hb, by omega, by omega⟩])
      have HE : Hid (nearE wt L = winE (nearP wt L) (nearP wt L) L) := Lib.hid (by unfold nearE; rw [if_pos hb, if_pos ⟨by omega, by omega⟩])
      clear hb hok
      have g1 : decide (wt < -1099511627776) = false := decide_eq_false q1
      have g2 : decide (1099511627776 < wt) = false := decide_eq_false q2
      have hw : -1099511627776 ≤ wt ∧ wt ≤ 1099511627776 := by omega
      go_enter Tryz.func22, Tryz.ntmps22
      go_wp2_with (first
        | (go_at_call 30; (with_reducible refine (valid_any _ L _ _ hcap HU.out).mono ?_); rintro e w1 ⟨rfl, hb1⟩; rw [HB.out])
        | (go_at_call 45; (with_reducible refine (newSearch_any _ L _ _ HOK.out hl (HU.out.grow hb1)).mono ?_); rintro e w2 ⟨hx, hb2⟩; obtain ⟨Bs, rfl, hBs, hSE⟩ := hx.out; have HSE := Lib.hid hSE; have hB2 := hb1.trans (hb2.mono hb1.size); clear hx hSE)
        | (go_at_call 46; (with_reducible refine (nearest_any _ _ L _ _ hw hl HOK.out HSE.out (HU.out.grow hB2)).mono ?_); rintro e w3 ⟨rfl, hb3⟩; have hB3 := hB2.trans (hb3.mono hB2.size))
        | (go_at_call 47; (with_reducible refine (window_any _ _ _ L _ _ hcap (HU.out.grow hB3)).mono ?_); rintro e w4 ⟨hx, hb4⟩; obtain ⟨v, rfl, hv⟩ := hx.out; have HV := Lib.hid (hv.base hB3.size); have hB4 := hB3.trans (hb4.mono hB3.size); clear hx hv))
      go_ret2
      rw [HC.out, HE.out]
      exact ⟨Lib.hid ⟨_, rfl, HV.out⟩, hB4⟩
end Go.Proofs.YtfkmnneieglolaaGreatDoor
namespace Go.Proofs.YtfkmnneieglolaaGreatDoor
open Go.RowKit Go.Shelf
attribute [local go_sem] Oper.semAt_some
set_option maxRecDepth 100000 in
set_option maxHeartbeats 2000000 in
theorem pipe_any (r : SetR) (w : World) (hk : SetOK r) :
    Calls Tryz.prog 99 #[.agg #[.string r.name, .int .i64 r.depth, .int .i64 r.low, .int .i64 r.high, .int .i64 r.length, .slice r.la r.lines.length r.lc, .int .i64 r.pipe, .int .i64 r.arbor, .int .i64 r.purchase, .int .i64 r.most, .int .i64 r.brake, .slice r.ia r.items.length r.ic, .slice r.ba r.bricks.length r.bc]] w fun e w' => e = .returned (.int .i64 (pipeS r)) ∧ Below w.heap.size w w' := by
  have hp := pipe_bd hk
  have HP : Hid (pipeS r = r.pipe * (r.length / 1000)) := Lib.hid rfl
  have h1 := hk.length
  generalize pipeS r = P at *
  have s1 : IntKind.i64.wrap (r.pipe * (r.length / 1000)) = P := by rw [← HP.out]; exact IntWalk.i64_in _ (by omega)
  have s2 : r.length.tdiv 1000 = r.length / 1000 := Int.tdiv_eq_ediv_of_nonneg (by omega)
  clear hk hp
  go_enter Tryz.func99, Tryz.ntmps99
  go_wp2_with fail
  go_ret
  exact ⟨rfl, below_new _ _⟩
set_option maxRecDepth 100000 in
set_option maxHeartbeats 8000000 in
theorem weight21_any (r : SetR) (w : World) (hk : SetOK r) (hs : SetIn w r) :
    Calls Tryz.prog 70 #[.agg #[.string r.name, .int .i64 r.depth, .int .i64 r.low, .int .i64 r.high, .int .i64 r.length, .slice r.la r.lines.length r.lc, .int .i64 r.pipe, .int .i64 r.arbor, .int .i64 r.purchase, .int .i64 r.most, .int .i64 r.brake, .slice r.ia r.items.length r.ic, .slice r.ba r.bricks.length r.bc]] w fun e w' => e = .returned (.int .i64 (weightS r)) ∧ Below w.heap.size w w' := by
  have hb0 := below_new w (.cells #[.string r.name, .int .i64 r.depth, .int .i64 r.low, .int .i64 r.high, .int .i64 r.length, .slice r.la r.lines.length r.lc, .int .i64 r.pipe, .int .i64 r.arbor, .int .i64 r.purchase, .int .i64 r.most, .int .i64 r.brake, .slice r.ia r.items.length r.ic, .slice r.ba r.bricks.length r.bc] 26)
  have HX : Hid (∀ wx, Below (w.alloc (.cells #[.string r.name, .int .i64 r.depth, .int .i64 r.low, .int .i64 r.high, .int .i64 r.length, .slice r.la r.lines.length r.lc, .int .i64 r.pipe, .int .i64 r.arbor, .int .i64 r.purchase, .int .i64 r.most, .int .i64 r.brake, .slice r.ia r.items.length r.ic, .slice r.ba r.bricks.length r.bc] 26)).heap.size (w.alloc (.cells #[.string r.name, .int .i64 r.depth, .int .i64 r.low, .int .i64 r.high, .int .i64 r.length, .slice r.la r.lines.length r.lc, .int .i64 r.pipe, .int .i64 r.arbor, .int .i64 r.purchase, .int .i64 r.most, .int .i64 r.brake, .slice r.ia r.items.length r.ic, .slice r.ba r.bricks.length r.bc] 26)) wx → Below w.heap.size w wx) := Lib.hid fun wx h => mono_in _ h
  have HS : Hid (∀ wx, Below (w.alloc (.cells #[.string r.name, .int .i64 r.depth, .int .i64 r.low, .int .i64 r.high, .int .i64 r.length, .slice r.la r.lines.length r.lc, .int .i64 r.pipe, .int .i64 r.arbor, .int .i64 r.purchase, .int .i64 r.most, .int .i64 r.brake, .slice r.ia r.items.length r.ic, .slice r.ba r.bricks.length r.bc] 26)).heap.size (w.alloc (.cells #[.string r.name, .int .i64 r.depth, .int .i64 r.low, .int .i64 r.high, .int .i64 r.length, .slice r.la r.lines.length r.lc, .int .i64 r.pipe, .int .i64 r.arbor, .int .i64 r.purchase, .int .i64 r.most, .int .i64 r.brake, .slice r.ia r.items.length r.ic, .slice r.ba r.bricks.length r.bc] 26)) wx → SetIn wx r) := Lib.hid fun wx h => (hs.grow hb0).grow h
  have HAT : Hid (∀ wx, Below (w.alloc (.cells #[.string r.name, .int .i64 r.depth, .int .i64 r.low, .int .i64 r.high, .int .i64 r.length, .slice r.la r.lines.length r.lc, .int .i64 r.pipe, .int .i64 r.arbor, .int .i64 r.purchase, .int .i64 r.most, .int .i64 r.brake, .slice r.ia r.items.length r.ic, .slice r.ba r.bricks.length r.bc] 26)).heap.size (w.alloc (.cells #[.string r.name, .int .i64 r.depth, .int .i64 r.low, .int .i64 r.high, .int .i64 r.length, .slice r.la r.lines.length r.lc, .int .i64 r.pipe, .int .i64 r.arbor, .int .i64 r.purchase, .int .i64 r.most, .int .i64 r.brake, .slice r.ia r.items.length r.ic, .slice r.ba r.bricks.length r.bc] 26)) wx → SetAt wx w.heap.size r) := Lib.hid fun wx h => (SetAt.new w r 26).below h (by simp)
  clear hb0 hs
  have HBD := Lib.hid (itemsWTo_bd hk.items)
  have hpb := pipe_bd hk
  have HK := Lib.hid hk
  have hil : r.items.length ≤ 40 := (items_iff.1 hk.items).1
  clear hk
  go_enter Tryz.func70, Tryz.ntmps70
  go_wp2_with fail
  generalize (w.alloc (.cells #[.string r.name, .int .i64 r.depth, .int .i64 r.low, .int .i64 r.high, .int .i64 r.length, .slice r.la r.lines.length r.lc, .int .i64 r.pipe, .int .i64 r.arbor, .int .i64 r.purchase, .int .i64 r.most, .int .i64 r.brake, .slice r.ia r.items.length r.ic, .slice r.ba r.bricks.length r.bc] 26)) = W0 at *
  have hB1 := Below.refl W0.heap.size W0
  have x11 : ∀ wx, Below W0.heap.size W0 wx → wx.cell? ⟨w.heap.size, 11, none⟩ = some (.slice r.ia r.items.length r.ic) := fun wx h => (HAT.out wx h).2.2.2.2.2.2.2.2.2.2.2.1
  go_wp2_with (first
    | (go_at_call 99; (with_reducible refine (pipe_any r _ HK.out).mono ?_); rintro e w2 ⟨rfl, hb⟩; have hB2 := hB1.trans (hb.mono hB1.size); clear hb))
  go_loopw [3, 11] (fun s i wr => ∃ k : Nat, k ≤ r.items.length ∧ i = .int .i64 k ∧ s = .int .i64 (pipeS r + itemsWTo r.items k) ∧ Below W0.heap.size W0 wr) (fun _ i _ => r.items.length - (intOf i).toNat)
  case atStart => exact ⟨0, Nat.zero_le _, rfl, by simp [itemsWTo], hB2⟩
  case round =>
    obtain ⟨k, hk, rfl, rfl, hB⟩ := hrel
    by_cases hlt : k < r.items.length
    · obtain ⟨b, off, hia, hb, hc⟩ := (HS.out _ hB).items (by omega)
      rw [hia]
      obtain ⟨c0, c1, c2, c3, c4, c5, c6⟩ := hc k hlt
      have hbd := HBD.out k hk
      have hbd2 := HBD.out (k + 1) hlt
      have HC : Hid (itemsWTo r.items (k + 1) = itemsWTo r.items k + (tg r.items k).weight) := Lib.hid rfl
      rw [HC.out] at hbd2
      generalize itemsWTo r.items k = s at *
      generalize tg r.items k = x at *
      have t1 : IntKind.i64.wrap (pipeS r + s + x.weight) = pipeS r + s + x.weight := IntWalk.i64_in _ (by omega)
      clear hc
      go_wp2_with fail
      go_roundw
      case rel => exact ⟨k + 1, by omega, by go_num, by rw [HC.out, Int.add_assoc], hB.alloc hB.size _⟩
      case measure => simp [intOf]; omega
    · obtain rfl : k = r.items.length := by omega
      have HF : Hid (pipeS r + itemsWTo r.items r.items.length = weightS r) := Lib.hid (by rw [itemsWTo_all]; rfl)
      go_wp2_with fail
      go_ret
      exact ⟨ret_int HF.out, HX.out _ hB⟩
set_option maxRecDepth 100000 in
set_option maxHeartbeats 8000000 in
theorem batweight_any (r : SetR) (w : World) (hs : SetIn w r) :
    Calls Tryz.prog 44 #[.agg #[.string r.name, .int .i64 r.depth, .int .i64 r.low, .int .i64 r.high, .int .i64 r.length, .slice r.la r.lines.length r.lc, .int .i64 r.pipe, .int .i64 r.arbor, .int .i64 r.purchase, .int .i64 r.most, .int .i64 r.brake, .slice r.ia r.items.length r.ic, .slice r.ba r.bricks.length r.bc]] w fun e w' => e = .returned (.tuple #[.int .i64 (weightB r), .int .i64 (weightEr r)]) ∧ Below w.heap.size w w' := by
  have hb0 := below_new w (.cells #[.string r.name, .int .i64 r.depth, .int .i64 r.low, .int .i64 r.high, .int .i64 r.length, .slice r.la r.lines.length r.lc, .int .i64 r.pipe, .int .i64 r.arbor, .int .i64 r.purchase, .int .i64 r.most, .int .i64 r.brake, .slice r.ia r.items.length r.ic, .slice r.ba r.bricks.length r.bc] 26)
  have HX : Hid (∀ wx, Below (w.alloc (.cells #[.string r.name, .int .i64 r.depth, .int .i64 r.low, .int .i64 r.high, .int .i64 r.length, .slice r.la r.lines.length r.lc, .int .i64 r.pipe, .int .i64 r.arbor, .int .i64 r.purchase, .int .i64 r.most, .int .i64 r.brake, .slice r.ia r.items.length r.ic, .slice r.ba r.bricks.length r.bc] 26)).heap.size (w.alloc (.cells #[.string r.name, .int .i64 r.depth, .int .i64 r.low, .int .i64 r.high, .int .i64 r.length, .slice r.la r.lines.length r.lc, .int .i64 r.pipe, .int .i64 r.arbor, .int .i64 r.purchase, .int .i64 r.most, .int .i64 r.brake, .slice r.ia r.items.length r.ic, .slice r.ba r.bricks.length r.bc] 26)) wx → Below w.heap.size w wx) := Lib.hid fun wx h => mono_in _ h
  have HS : Hid (∀ wx, Below (w.alloc (.cells #[.string r.name, .int .i64 r.depth, .int .i64 r.low, .int .i64 r.high, .int .i64 r.length, .slice r.la r.lines.length r.lc, .int .i64 r.pipe, .int .i64 r.arbor, .int .i64 r.purchase, .int .i64 r.most, .int .i64 r.brake, .slice r.ia r.items.length r.ic, .slice r.ba r.bricks.length r.bc] 26)).heap.size (w.alloc (.cells #[.string r.name, .int .i64 r.depth, .int .i64 r.low, .int .i64 r.high, .int .i64 r.length, .slice r.la r.lines.length r.lc, .int .i64 r.pipe, .int .i64 r.arbor, .int .i64 r.purchase, .int .i64 r.most, .int .i64 r.brake, .slice r.ia r.items.length r.ic, .slice r.ba r.bricks.length r.bc] 26)) wx → SetIn wx r) := Lib.hid fun wx h => (hs.grow hb0).grow h
  have HAT : Hid (∀ wx, Below (w.alloc (.cells #[.string r.name, .int .i64 r.depth, .int .i64 r.low, .int .i64 r.high, .int .i64 r.length, .slice r.la r.lines.length r.lc, .int .i64 r.pipe, .int .i64 r.arbor, .int .i64 r.purchase, .int .i64 r.most, .int .i64 r.brake, .slice r.ia r.items.length r.ic, .slice r.ba r.bricks.length r.bc] 26)).heap.size (w.alloc (.cells #[.string r.name, .int .i64 r.depth, .int .i64 r.low, .int .i64 r.high, .int .i64 r.length, .slice r.la r.lines.length r.lc, .int .i64 r.pipe, .int .i64 r.arbor, .int .i64 r.purchase, .int .i64 r.most, .int .i64 r.brake, .slice r.ia r.items.length r.ic, .slice r.ba r.bricks.length r.bc] 26)) wx → SetAt wx w.heap.size r) := Lib.hid fun wx h => (SetAt.new w r 26).below h (by simp)
  clear hb0 hs
  cases hv : setB r
  · have HV := Lib.hid hv
    have HE : Hid (weightB r = 0 ∧ weightEr r = 1) := Lib.hid (by unfold weightB weightEr; rw [hv]; exact ⟨rfl, rfl⟩)
    rw [HE.out.1, HE.out.2]
    clear hv
    go_enter Tryz.func44, Tryz.ntmps44
    go_wp2_with fail
    generalize (w.alloc (.cells #[.string r.name, .int .i64 r.depth, .int .i64 r.low, .int .i64 r.high, .int .i64 r.length, .slice r.la r.lines.length r.lc, .int .i64 r.pipe, .int .i64 r.arbor, .int .i64 r.purchase, .int .i64 r.most, .int .i64 r.brake, .slice r.ia r.items.length r.ic, .slice r.ba r.bricks.length r.bc] 26)) = W0 at *
    have hB1 := Below.refl W0.heap.size W0
    go_wp2_with (first
      | (go_at_call 23; (with_reducible refine (batvalid_any r _ (HS.out _ hB1)).mono ?_); rintro e w2 ⟨rfl, hb⟩; rw [HV.out]; have hB2 := hB1.trans (hb.mono hB1.size); clear hb))
    go_ret2
    exact ⟨rfl, HX.out _ hB2⟩
  · have HV := Lib.hid hv
    have HE : Hid (weightB r = weightS r ∧ weightEr r = 0) := Lib.hid (by unfold weightB weightEr; rw [hv]; exact ⟨rfl, rfl⟩)
    have HK := Lib.hid (setB_iff.1 hv)
    rw [HE.out.1, HE.out.2]
    clear hv
    go_enter Tryz.func44, Tryz.ntmps44
    go_wp2_with fail
    generalize (w.alloc (.cells #[.string r.name, .int .i64 r.depth, .int .i64 r.low, .int .i64 r.high, .int .i64 r.length, .slice r.la r.lines.length r.lc, .int .i64 r.pipe, .int .i64 r.arbor, .int .i64 r.purchase, .int .i64 r.most, .int .i64 r.brake, .slice r.ia r.items.length r.ic, .slice r.ba r.bricks.length r.bc] 26)) = W0 at *
    have hB1 := Below.refl W0.heap.size W0
    have x0 : ∀ wx, Below W0.heap.size W0 wx → wx.cell? ⟨w.heap.size, 0, none⟩ = some (.string r.name) := fun wx h => (HAT.out wx h).1
    have x1 : ∀ wx, Below W0.heap.size W0 wx → wx.cell? ⟨w.heap.size, 1, none⟩ = some (.int .i64 r.depth) := fun wx h => (HAT.out wx h).2.1
    have x2 : ∀ wx, Below W0.heap.size W0 wx → wx.cell? ⟨w.heap.size, 2, none⟩ = some (.int .i64 r.low) := fun wx h => (HAT.out wx h).2.2.1
    have x3 : ∀ wx, Below W0.heap.size W0 wx → wx.cell? ⟨w.heap.size, 3, none⟩ = some (.int .i64 r.high) := fun wx h => (HAT.out wx h).2.2.2.1
    have x4 : ∀ wx, Below W0.heap.size W0 wx → wx.cell? ⟨w.heap.size, 4, none⟩ = some (.int .i64 r.length) := fun wx h => (HAT.out wx h).2.2.2.2.1
    have x5 : ∀ wx, Below W0.heap.size W0 wx → wx.cell? ⟨w.heap.size, 5, none⟩ = some (.slice r.la r.lines.length r.lc) := fun wx h => (HAT.out wx h).2.2.2.2.2.1
    have x6 : ∀ wx, Below W0.heap.size W0 wx → wx.cell? ⟨w.heap.size, 6, none⟩ = some (.int .i64 r.pipe) := fun wx h => (HAT.out wx h).2.2.2.2.2.2.1
    have x7 : ∀ wx, Below W0.heap.size W0 wx → wx.cell? ⟨w.heap.size, 7, none⟩ = some (.int .i64 r.arbor) := fun wx h => (HAT.out wx h).2.2.2.2.2.2.2.1
    have x8 : ∀ wx, Below W0.heap.size W0 wx → wx.cell? ⟨w.heap.size, 8, none⟩ = some (.int .i64 r.purchase) := fun wx h => (HAT.out wx h).2.2.2.2.2.2.2.2.1
    have x9 : ∀ wx, Below W0.heap.size W0 wx → wx.cell? ⟨w.heap.size, 9, none⟩ = some (.int .i64 r.most) := fun wx h => (HAT.out wx h).2.2.2.2.2.2.2.2.2.1
    have x10 : ∀ wx, Below W0.heap.size W0 wx → wx.cell? ⟨w.heap.size, 10, none⟩ = some (.int .i64 r.brake) := fun wx h => (HAT.out wx h).2.2.2.2.2.2.2.2.2.2.1
    have x11 : ∀ wx, Below W0.heap.size W0 wx → wx.cell? ⟨w.heap.size, 11, none⟩ = some (.slice r.ia r.items.length r.ic) := fun wx h => (HAT.out wx h).2.2.2.2.2.2.2.2.2.2.2.1
    have x12 : ∀ wx, Below W0.heap.size W0 wx → wx.cell? ⟨w.heap.size, 12, none⟩ = some (.slice r.ba r.bricks.length r.bc) := fun wx h => (HAT.out wx h).2.2.2.2.2.2.2.2.2.2.2.2
    go_wp2_with (first
      | (go_at_call 23; (with_reducible refine (batvalid_any r _ (HS.out _ hB1)).mono ?_); rintro e w2 ⟨rfl, hb⟩; rw [HV.out]; have hB2 := hB1.trans (hb.mono hB1.size); clear hb)
      | (go_at_call 70; (with_reducible refine (weight21_any r _ HK.out (HS.out _ hB2)).mono ?_); rintro e w3 ⟨rfl, hb⟩; have hB3 := hB2.trans (hb.mono hB2.size); clear hb))
    go_ret2
    exact ⟨rfl, HX.out _ hB3⟩
end Go.Proofs.YtfkmnneieglolaaGreatDoor
namespace Go.Proofs.YtfkmnneieglolaaGreatDoor
open Go.RowKit Go.Shelf
attribute [local go_sem] Oper.semAt_some
def restTo (L : List BrickR) : Nat → Int
  | 0 => 0
  | k + 1 => restTo L k + (bg L k).weight * (bg L k).count
theorem restTo_cons (x : BrickR) (t : List BrickR) : ∀ k, restTo (x :: t) (k + 1) = x.weight * x.count + restTo t k
  | 0 => by simp [restTo, bg]
  | k + 1 => by
    have := restTo_cons x t k
    have e : bg (x :: t) (k + 1) = bg t k := rfl
    rw [restTo, this, e, restTo]
    omega
theorem restTo_all : ∀ (L : List BrickR), restTo L L.length = restC L
  | [] => rfl
  | x :: t => by rw [List.length_cons, restTo_cons, restTo_all t]; rfl
theorem restTo_bd {L : List BrickR} (ok : BrickOK L) : ∀ k : Nat, k ≤ L.length → (0 ≤ restTo L k ∧ restTo L k ≤ 62914560 * (k : Int)) ∧ 0 ≤ cntTo L k ∧ cntTo L k ≤ 60 * (k : Int)
  | 0, _ => by simp [restTo, cntTo]
  | k + 1, hk => by
    obtain ⟨⟨a, b⟩, c, d⟩ := restTo_bd ok k (by omega)
    obtain ⟨e, f, g, h⟩ := ok_bg ok (show k < L.length by omega)
    have m1 : 0 ≤ (bg L k).weight * (bg L k).count := Int.mul_nonneg (by omega) g
    have m2 : (bg L k).weight * (bg L k).count ≤ 1048576 * 60 := Int.mul_le_mul f h g (by omega)
    simp only [restTo, cntTo]
    omega
set_option maxRecDepth 100000 in
set_option maxHeartbeats 8000000 in
theorem there_any (r : SetR) (w : World) (ok : BrickOK r.bricks) (hl : r.bricks.length ≤ 8) (hs : Bricks w.heap.size w r.ba r.bricks) :
    Calls Tryz.prog 29 #[.agg #[.string r.name, .int .i64 r.depth, .int .i64 r.low, .int .i64 r.high, .int .i64 r.length, .slice r.la r.lines.length r.lc, .int .i64 r.pipe, .int .i64 r.arbor, .int .i64 r.purchase, .int .i64 r.most, .int .i64 r.brake, .slice r.ia r.items.length r.ic, .slice r.ba r.bricks.length r.bc]] w fun e w' => e = .returned (.tuple #[.int .i64 (restC r.bricks), .int .i64 (cntTo r.bricks r.bricks.length)]) ∧ Below w.heap.size w w' := by
  have hb0 := below_new w (.cells #[.string r.name, .int .i64 r.depth, .int .i64 r.low, .int .i64 r.high, .int .i64 r.length, .slice r.la r.lines.length r.lc, .int .i64 r.pipe, .int .i64 r.arbor, .int .i64 r.purchase, .int .i64 r.most, .int .i64 r.brake, .slice r.ia r.items.length r.ic, .slice r.ba r.bricks.length r.bc] 26)
  have HX : Hid (∀ wx, Below (w.alloc (.cells #[.string r.name, .int .i64 r.depth, .int .i64 r.low, .int .i64 r.high, .int .i64 r.length, .slice r.la r.lines.length r.lc, .int .i64 r.pipe, .int .i64 r.arbor, .int .i64 r.purchase, .int .i64 r.most, .int .i64 r.brake, .slice r.ia r.items.length r.ic, .slice r.ba r.bricks.length r.bc] 26)).heap.size (w.alloc (.cells #[.string r.name, .int .i64 r.depth, .int .i64 r.low, .int .i64 r.high, .int .i64 r.length, .slice r.la r.lines.length r.lc, .int .i64 r.pipe, .int .i64 r.arbor, .int .i64 r.purchase, .int .i64 r.most, .int .i64 r.brake, .slice r.ia r.items.length r.ic, .slice r.ba r.bricks.length r.bc] 26)) wx → Below w.heap.size w wx) := Lib.hid fun wx h => mono_in _ h
  have HS : Hid (∀ wx, Below (w.alloc (.cells #[.string r.name, .int .i64 r.depth, .int .i64 r.low, .int .i64 r.high, .int .i64 r.length, .slice r.la r.lines.length r.lc, .int .i64 r.pipe, .int .i64 r.arbor, .int .i64 r.purchase, .int .i64 r.most, .int .i64 r.brake, .slice r.ia r.items.length r.ic, .slice r.ba r.bricks.length r.bc] 26)).heap.size (w.alloc (.cells #[.string r.name, .int .i64 r.depth, .int .i64 r.low, .int .i64 r.high, .int .i64 r.length, .slice r.la r.lines.length r.lc, .int .i64 r.pipe, .int .i64 r.arbor, .int .i64 r.purchase, .int .i64 r.most, .int .i64 r.brake, .slice r.ia r.items.length r.ic, .slice r.ba r.bricks.length r.bc] 26)) wx → Bricks wx.heap.size wx r.ba r.bricks) := Lib.hid fun wx h => (hs.grow hb0).grow h
  have HAT : Hid (∀ wx, Below (w.alloc (.cells #[.string r.name, .int .i64 r.depth, .int .i64 r.low, .int .i64 r.high, .int .i64 r.length, .slice r.la r.lines.length r.lc, .int .i64 r.pipe, .int .i64 r.arbor, .int .i64 r.purchase, .int .i64 r.most, .int .i64 r.brake, .slice r.ia r.items.length r.ic, .slice r.ba r.bricks.length r.bc] 26)).heap.size (w.alloc (.cells #[.string r.name, .int .i64 r.depth, .int .i64 r.low, .int .i64 r.high, .int .i64 r.length, .slice r.la r.lines.length r.lc, .int .i64 r.pipe, .int .i64 r.arbor, .int .i64 r.purchase, .int .i64 r.most, .int .i64 r.brake, .slice r.ia r.items.length r.ic, .slice r.ba r.bricks.length r.bc] 26)) wx → SetAt wx w.heap.size r) := Lib.hid fun wx h => (SetAt.new w r 26).below h (by simp)
  clear hb0 hs
  have HBD := Lib.hid (restTo_bd ok)
  have HOK := Lib.hid (fun k (hk : k < r.bricks.length) => ok_bg ok hk)
  clear ok
  go_enter Tryz.func29, Tryz.ntmps29
  go_wp2_with fail
  generalize (w.alloc (.cells #[.string r.name, .int .i64 r.depth, .int .i64 r.low, .int .i64 r.high, .int .i64 r.length, .slice r.la r.lines.length r.lc, .int .i64 r.pipe, .int .i64 r.arbor, .int .i64 r.purchase, .int .i64 r.most, .int .i64 r.brake, .slice r.ia r.items.length r.ic, .slice r.ba r.bricks.length r.bc] 26)) = W0 at *
  have hB1 := Below.refl W0.heap.size W0
  have x12 : ∀ wx, Below W0.heap.size W0 wx → wx.cell? ⟨w.heap.size, 12, none⟩ = some (.slice r.ba r.bricks.length r.bc) := fun wx h => (HAT.out wx h).2.2.2.2.2.2.2.2.2.2.2.2
  go_loopw [2, 3, 9] (fun s c i wr => ∃ k : Nat, k ≤ r.bricks.length ∧ i = .int .i64 k ∧ s = .int .i64 (restTo r.bricks k) ∧ c = .int .i64 (cntTo r.bricks k) ∧ Below W0.heap.size W0 wr) (fun _ _ i _ => r.bricks.length - (intOf i).toNat)
  case atStart => exact ⟨0, Nat.zero_le _, rfl, rfl, rfl, hB1⟩
  case round =>
    obtain ⟨k, hk, rfl, rfl, rfl, hB⟩ := hrel
    by_cases hlt : k < r.bricks.length
    · obtain ⟨b, off, hba, hb, hc⟩ := (HS.out _ hB) (by omega)
      rw [hba]
      obtain ⟨c0, c1, c2⟩ := hc k hlt
      have hbd := HBD.out k hk
      have hbd2 := HBD.out (k + 1) hlt
      have hok := HOK.out k hlt
      have HC : Hid (restTo r.bricks (k + 1) = restTo r.bricks k + (bg r.bricks k).weight * (bg r.bricks k).count ∧ cntTo r.bricks (k + 1) = cntTo r.bricks k + (bg r.bricks k).count) := Lib.hid ⟨rfl, rfl⟩
      rw [HC.out.1, HC.out.2] at hbd2
      generalize restTo r.bricks k = s at *
      generalize cntTo r.bricks k = c at *
      generalize bg r.bricks k = x at *
      have m1 : 0 ≤ x.weight * x.count := Int.mul_nonneg (by omega) (by omega)
      have t0 : IntKind.i64.wrap (x.weight * x.count) = x.weight * x.count := IntWalk.i64_in _ (by omega)
      have t1 : IntKind.i64.wrap (s + x.weight * x.count) = s + x.weight * x.count := IntWalk.i64_in _ (by omega)
      have t2 : IntKind.i64.wrap (c + x.count) = c + x.count := IntWalk.i64_in _ (by omega)
      clear hc hba
      go_wp2_with fail
      go_roundw
      case rel => exact ⟨k + 1, by omega, by go_num, by rw [HC.out.1], by rw [HC.out.2], hB.alloc hB.size _⟩
      case measure => simp [intOf]; omega
    · obtain rfl : k = r.bricks.length := by omega
      have HF := Lib.hid (restTo_all r.bricks)
      go_wp2_with fail
      go_ret2
      exact ⟨by rw [HF.out]; rfl, HX.out _ hB⟩
def neededB (r : SetR) : Int := if setB r = true then neededS r else 0
set_option maxRecDepth 100000 in
set_option maxHeartbeats 8000000 in
theorem needed25_any (r : SetR) (w : World) (hs : SetIn w r) :
    Calls Tryz.prog 21 #[.agg #[.string r.name, .int .i64 r.depth, .int .i64 r.low, .int .i64 r.high, .int .i64 r.length, .slice r.la r.lines.length r.lc, .int .i64 r.pipe, .int .i64 r.arbor, .int .i64 r.purchase, .int .i64 r.most, .int .i64 r.brake, .slice r.ia r.items.length r.ic, .slice r.ba r.bricks.length r.bc]] w fun e w' => e = .returned (.tuple #[.int .i64 (neededB r), .int .i64 (weightEr r)]) ∧ Below w.heap.size w w' := by
  have hb0 := below_new w (.cells #[.string r.name, .int .i64 r.depth, .int .i64 r.low, .int .i64 r.high, .int .i64 r.length, .slice r.la r.lines.length r.lc, .int .i64 r.pipe, .int .i64 r.arbor, .int .i64 r.purchase, .int .i64 r.most, .int .i64 r.brake, .slice r.ia r.items.length r.ic, .slice r.ba r.bricks.length r.bc] 26)
  have HX : Hid (∀ wx, Below (w.alloc (.cells #[.string r.name, .int .i64 r.depth, .int .i64 r.low, .int .i64 r.high, .int .i64 r.length, .slice r.la r.lines.length r.lc, .int .i64 r.pipe, .int .i64 r.arbor, .int .i64 r.purchase, .int .i64 r.most, .int .i64 r.brake, .slice r.ia r.items.length r.ic, .slice r.ba r.bricks.length r.bc] 26)).heap.size (w.alloc (.cells #[.string r.name, .int .i64 r.depth, .int .i64 r.low, .int .i64 r.high, .int .i64 r.length, .slice r.la r.lines.length r.lc, .int .i64 r.pipe, .int .i64 r.arbor, .int .i64 r.purchase, .int .i64 r.most, .int .i64 r.brake, .slice r.ia r.items.length r.ic, .slice r.ba r.bricks.length r.bc] 26)) wx → Below w.heap.size w wx) := Lib.hid fun wx h => mono_in _ h
  have HS : Hid (∀ wx, Below (w.alloc (.cells #[.string r.name, .int .i64 r.depth, .int .i64 r.low, .int .i64 r.high, .int .i64 r.length, .slice r.la r.lines.length r.lc, .int .i64 r.pipe, .int .i64 r.arbor, .int .i64 r.purchase, .int .i64 r.most, .int .i64 r.brake, .slice r.ia r.items.length r.ic, .slice r.ba r.bricks.length r.bc] 26)).heap.size (w.alloc (.cells #[.string r.name, .int .i64 r.depth, .int .i64 r.low, .int .i64 r.high, .int .i64 r.length, .slice r.la r.lines.length r.lc, .int .i64 r.pipe, .int .i64 r.arbor, .int .i64 r.purchase, .int .i64 r.most, .int .i64 r.brake, .slice r.ia r.items.length r.ic, .slice r.ba r.bricks.length r.bc] 26)) wx → SetIn wx r) := Lib.hid fun wx h => (hs.grow hb0).grow h
  have HAT : Hid (∀ wx, Below (w.alloc (.cells #[.string r.name, .int .i64 r.depth, .int .i64 r.low, .int .i64 r.high, .int .i64 r.length, .slice r.la r.lines.length r.lc, .int .i64 r.pipe, .int .i64 r.arbor, .int .i64 r.purchase, .int .i64 r.most, .int .i64 r.brake, .slice r.ia r.items.length r.ic, .slice r.ba r.bricks.length r.bc] 26)).heap.size (w.alloc (.cells #[.string r.name, .int .i64 r.depth, .int .i64 r.low, .int .i64 r.high, .int .i64 r.length, .slice r.la r.lines.length r.lc, .int .i64 r.pipe, .int .i64 r.arbor, .int .i64 r.purchase, .int .i64 r.most, .int .i64 r.brake, .slice r.ia r.items.length r.ic, .slice r.ba r.bricks.length r.bc] 26)) wx → SetAt wx w.heap.size r) := Lib.hid fun wx h => (SetAt.new w r 26).below h (by simp)
  clear hb0 hs
  cases hv : setB r
  · have HE : Hid (weightB r = 0 ∧ weightEr r = 1) := Lib.hid (by unfold weightB weightEr; rw [hv]; exact ⟨rfl, rfl⟩)
    have HN : Hid (neededB r = 0) := Lib.hid (by unfold neededB; rw [hv]; rfl)
    rw [HN.out, HE.out.2]
    clear hv
    go_enter Tryz.func21, Tryz.ntmps21
    go_wp2_with fail
    generalize (w.alloc (.cells #[.string r.name, .int .i64 r.depth, .int .i64 r.low, .int .i64 r.high, .int .i64 r.length, .slice r.la r.lines.length r.lc, .int .i64 r.pipe, .int .i64 r.arbor, .int .i64 r.purchase, .int .i64 r.most, .int .i64 r.brake, .slice r.ia r.items.length r.ic, .slice r.ba r.bricks.length r.bc] 26)) = W0 at *
    have hB1 := Below.refl W0.heap.size W0
    have x0 : ∀ wx, Below W0.heap.size W0 wx → wx.cell? ⟨w.heap.size, 0, none⟩ = some (.string r.name) := fun wx h => (HAT.out wx h).1
    have x1 : ∀ wx, Below W0.heap.size W0 wx → wx.cell? ⟨w.heap.size, 1, none⟩ = some (.int .i64 r.depth) := fun wx h => (HAT.out wx h).2.1
    have x2 : ∀ wx, Below W0.heap.size W0 wx → wx.cell? ⟨w.heap.size, 2, none⟩ = some (.int .i64 r.low) := fun wx h => (HAT.out wx h).2.2.1
    have x3 : ∀ wx, Below W0.heap.size W0 wx → wx.cell? ⟨w.heap.size, 3, none⟩ = some (.int .i64 r.high) := fun wx h => (HAT.out wx h).2.2.2.1
    have x4 : ∀ wx, Below W0.heap.size W0 wx → wx.cell? ⟨w.heap.size, 4, none⟩ = some (.int .i64 r.length) := fun wx h => (HAT.out wx h).2.2.2.2.1
    have x5 : ∀ wx, Below W0.heap.size W0 wx → wx.cell? ⟨w.heap.size, 5, none⟩ = some (.slice r.la r.lines.length r.lc) := fun wx h => (HAT.out wx h).2.2.2.2.2.1
    have x6 : ∀ wx, Below W0.heap.size W0 wx → wx.cell? ⟨w.heap.size, 6, none⟩ = some (.int .i64 r.pipe) := fun wx h => (HAT.out wx h).2.2.2.2.2.2.1
    have x7 : ∀ wx, Below W0.heap.size W0 wx → wx.cell? ⟨w.heap.size, 7, none⟩ = some (.int .i64 r.arbor) := fun wx h => (HAT.out wx h).2.2.2.2.2.2.2.1
    have x8 : ∀ wx, Below W0.heap.size W0 wx → wx.cell? ⟨w.heap.size, 8, none⟩ = some (.int .i64 r.purchase) := fun wx h => (HAT.out wx h).2.2.2.2.2.2.2.2.1
    have x9 : ∀ wx, Below W0.heap.size W0 wx → wx.cell? ⟨w.heap.size, 9, none⟩ = some (.int .i64 r.most) := fun wx h => (HAT.out wx h).2.2.2.2.2.2.2.2.2.1
    have x10 : ∀ wx, Below W0.heap.size W0 wx → wx.cell? ⟨w.heap.size, 10, none⟩ = some (.int .i64 r.brake) := fun wx h => (HAT.out wx h).2.2.2.2.2.2.2.2.2.2.1
    have x11 : ∀ wx, Below W0.heap.size W0 wx → wx.cell? ⟨w.heap.size, 11, none⟩ = some (.slice r.ia r.items.length r.ic) := fun wx h => (HAT.out wx h).2.2.2.2.2.2.2.2.2.2.2.1
    have x12 : ∀ wx, Below W0.heap.size W0 wx → wx.cell? ⟨w.heap.size, 12, none⟩ = some (.slice r.ba r.bricks.length r.bc) := fun wx h => (HAT.out wx h).2.2.2.2.2.2.2.2.2.2.2.2
    go_wp2_with (first
      | (go_at_call 44; (with_reducible refine (batweight_any r _ (HS.out _ hB1)).mono ?_); rintro e w2 ⟨rfl, hb⟩; rw [HE.out.1, HE.out.2]; have hB2 := hB1.trans (hb.mono hB1.size); clear hb))
    go_ret2
    exact ⟨rfl, HX.out _ hB2⟩
  · have HE : Hid (weightB r = weightS r ∧ weightEr r = 0) := Lib.hid (by unfold weightB weightEr; rw [hv]; exact ⟨rfl, rfl⟩)
    have HN : Hid (neededB r = weightS r * r.purchase - r.arbor) := Lib.hid (by unfold neededB; rw [hv]; rfl)
    have hk := setB_iff.1 hv
    have h1 := weight_bd hk
    have h2 := hk.purchase
    have h3 := hk.arbor
    have hb1 : 0 ≤ weightS r * r.purchase ∧ weightS r * r.purchase ≤ 2282909334 := by
      rcases (show r.purchase = 1 ∨ r.purchase = 2 by omega) with e | e <;> rw [e] <;> omega
    have s1 : IntKind.i64.wrap (weightS r * r.purchase) = weightS r * r.purchase := IntWalk.i64_in _ (by omega)
    have s2 : IntKind.i64.wrap (weightS r * r.purchase - r.arbor) = weightS r * r.purchase - r.arbor := IntWalk.i64_in _ (by omega)
    rw [HN.out, HE.out.2]
    clear hv hk hb1 h1 h2 h3
    go_enter Tryz.func21, Tryz.ntmps21
    go_wp2_with fail
    generalize (w.alloc (.cells #[.string r.name, .int .i64 r.depth, .int .i64 r.low, .int .i64 r.high, .int .i64 r.length, .slice r.la r.lines.length r.lc, .int .i64 r.pipe, .int .i64 r.arbor, .int .i64 r.purchase, .int .i64 r.most, .int .i64 r.brake, .slice r.ia r.items.length r.ic, .slice r.ba r.bricks.length r.bc] 26)) = W0 at *
    have hB1 := Below.refl W0.heap.size W0
    have x0 : ∀ wx, Below W0.heap.size W0 wx → wx.cell? ⟨w.heap.size, 0, none⟩ = some (.string r.name) := fun wx h => (HAT.out wx h).1
    have x1 : ∀ wx, Below W0.heap.size W0 wx → wx.cell? ⟨w.heap.size, 1, none⟩ = some (.int .i64 r.depth) := fun wx h => (HAT.out wx h).2.1
    have x2 : ∀ wx, Below W0.heap.size W0 wx → wx.cell? ⟨w.heap.size, 2, none⟩ = some (.int .i64 r.low) := fun wx h => (HAT.out wx h).2.2.1
    have x3 : ∀ wx, Below W0.heap.size W0 wx → wx.cell? ⟨w.heap.size, 3, none⟩ = some (.int .i64 r.high) := fun wx h => (HAT.out wx h).2.2.2.1
    have x4 : ∀ wx, Below W0.heap.size W0 wx → wx.cell? ⟨w.heap.size, 4, none⟩ = some (.int .i64 r.length) := fun wx h => (HAT.out wx h).2.2.2.2.1
    have x5 : ∀ wx, Below W0.heap.size W0 wx → wx.cell? ⟨w.heap.size, 5, none⟩ = some (.slice r.la r.lines.length r.lc) := fun wx h => (HAT.out wx h).2.2.2.2.2.1
    have x6 : ∀ wx, Below W0.heap.size W0 wx → wx.cell? ⟨w.heap.size, 6, none⟩ = some (.int .i64 r.pipe) := fun wx h => (HAT.out wx h).2.2.2.2.2.2.1
    have x7 : ∀ wx, Below W0.heap.size W0 wx → wx.cell? ⟨w.heap.size, 7, none⟩ = some (.int .i64 r.arbor) := fun wx h => (HAT.out wx h).2.2.2.2.2.2.2.1
    have x8 : ∀ wx, Below W0.heap.size W0 wx → wx.cell? ⟨w.heap.size, 8, none⟩ = some (.int .i64 r.purchase) := fun wx h => (HAT.out wx h).2.2.2.2.2.2.2.2.1
    have x9 : ∀ wx, Below W0.heap.size W0 wx → wx.cell? ⟨w.heap.size, 9, none⟩ = some (.int .i64 r.most) := fun wx h => (HAT.out wx h).2.2.2.2.2.2.2.2.2.1
    have x10 : ∀ wx, Below W0.heap.size W0 wx → wx.cell? ⟨w.heap.size, 10, none⟩ = some (.int .i64 r.brake) := fun wx h => (HAT.out wx h).2.2.2.2.2.2.2.2.2.2.1
    have x11 : ∀ wx, Below W0.heap.size W0 wx → wx.cell? ⟨w.heap.size, 11, none⟩ = some (.slice r.ia r.items.length r.ic) := fun wx h => (HAT.out wx h).2.2.2.2.2.2.2.2.2.2.2.1
    have x12 : ∀ wx, Below W0.heap.size W0 wx → wx.cell? ⟨w.heap.size, 12, none⟩ = some (.slice r.ba r.bricks.length r.bc) := fun wx h => (HAT.out wx h).2.2.2.2.2.2.2.2.2.2.2.2
    go_wp2_with (first
      | (go_at_call 44; (with_reducible refine (batweight_any r _ (HS.out _ hB1)).mono ?_); rintro e w2 ⟨rfl, hb⟩; rw [HE.out.1, HE.out.2]; have hB2 := hB1.trans (hb.mono hB1.size); clear hb))
    go_ret2
    exact ⟨rfl, HX.out _ hB2⟩
def balanceB (r : SetR) : Int := if setB r = true then balanceS r else 0
set_option maxRecDepth 100000 in
set_option maxHeartbeats 8000000 in
theorem balance_any (r : SetR) (w : World) (hs : SetIn w r) :
    Calls Tryz.prog 10 #[.agg #[.string r.name, .int .i64 r.depth, .int .i64 r.low, .int .i64 r.high, .int .i64 r.length, .slice r.la r.lines.length r.lc, .int .i64 r.pipe, .int .i64 r.arbor, .int .i64 r.purchase, .int .i64 r.most, .int .i64 r.brake, .slice r.ia r.items.length r.ic, .slice r.ba r.bricks.length r.bc]] w fun e w' => e = .returned (.tuple #[.int .i64 (balanceB r), .int .i64 (weightEr r)]) ∧ Below w.heap.size w w' := by
  have hb0 := below_new w (.cells #[.string r.name, .int .i64 r.depth, .int .i64 r.low, .int .i64 r.high, .int .i64 r.length, .slice r.la r.lines.length r.lc, .int .i64 r.pipe, .int .i64 r.arbor, .int .i64 r.purchase, .int .i64 r.most, .int .i64 r.brake, .slice r.ia r.items.length r.ic, .slice r.ba r.bricks.length r.bc] 26)
  have HX : Hid (∀ wx, Below (w.alloc (.cells #[.string r.name, .int .i64 r.depth, .int .i64 r.low, .int .i64 r.high, .int .i64 r.length, .slice r.la r.lines.length r.lc, .int .i64 r.pipe, .int .i64 r.arbor, .int .i64 r.purchase, .int .i64 r.most, .int .i64 r.brake, .slice r.ia r.items.length r.ic, .slice r.ba r.bricks.length r.bc] 26)).heap.size (w.alloc (.cells #[.string r.name, .int .i64 r.depth, .int .i64 r.low, .int .i64 r.high, .int .i64 r.length, .slice r.la r.lines.length r.lc, .int .i64 r.pipe, .int .i64 r.arbor, .int .i64 r.purchase, .int .i64 r.most, .int .i64 r.brake, .slice r.ia r.items.length r.ic, .slice r.ba r.bricks.length r.bc] 26)) wx → Below w.heap.size w wx) := Lib.hid fun wx h => mono_in _ h
  have HS : Hid (∀ wx, Below (w.alloc (.cells #[.string r.name, .int .i64 r.depth, .int .i64 r.low, .int .i64 r.high, .int .i64 r.length, .slice r.la r.lines.length r.lc, .int .i64 r.pipe, .int .i64 r.arbor, .int .i64 r.purchase, .int .i64 r.most, .int .i64 r.brake, .slice r.ia r.items.length r.ic, .slice r.ba r.bricks.length r.bc] 26)).heap.size (w.alloc (.cells #[.string r.name, .int .i64 r.depth, .int .i64 r.low, .int .i64 r.high, .int .i64 r.length, .slice r.la r.lines.length r.lc, .int .i64 r.pipe, .int .i64 r.arbor, .int .i64 r.purchase, .int .i64 r.most, .int .i64 r.brake, .slice r.ia r.items.length r.ic, .slice r.ba r.bricks.length r.bc] 26)) wx → SetIn wx r) := Lib.hid fun wx h => (hs.grow hb0).grow h
  have HAT : Hid (∀ wx, Below (w.alloc (.cells #[.string r.name, .int .i64 r.depth, .int .i64 r.low, .int .i64 r.high, .int .i64 r.length, .slice r.la r.lines.length r.lc, .int .i64 r.pipe, .int .i64 r.arbor, .int .i64 r.purchase, .int .i64 r.most, .int .i64 r.brake, .slice r.ia r.items.length r.ic, .slice r.ba r.bricks.length r.bc] 26)).heap.size (w.alloc (.cells #[.string r.name, .int .i64 r.depth, .int .i64 r.low, .int .i64 r.high, .int .i64 r.length, .slice r.la r.lines.length r.lc, .int .i64 r.pipe, .int .i64 r.arbor, .int .i64 r.purchase, .int .i64 r.most, .int .i64 r.brake, .slice r.ia r.items.length r.ic, .slice r.ba r.bricks.length r.bc] 26)) wx → SetAt wx w.heap.size r) := Lib.hid fun wx h => (SetAt.new w r 26).below h (by simp)
  clear hb0 hs
  cases hv : setB r
  · have HE : Hid (neededB r = 0 ∧ weightEr r = 1) := Lib.hid (by unfold neededB weightEr; rw [hv]; exact ⟨rfl, rfl⟩)
    have HN : Hid (balanceB r = 0) := Lib.hid (by unfold balanceB; rw [hv]; rfl)
    rw [HN.out, HE.out.2]
    clear hv
    go_enter Tryz.func10, Tryz.ntmps10
    go_wp2_with fail
    generalize (w.alloc (.cells #[.string r.name, .int .i64 r.depth, .int .i64 r.low, .int .i64 r.high, .int .i64 r.length, .slice r.la r.lines.length r.lc, .int .i64 r.pipe, .int .i64 r.arbor, .int .i64 r.purchase, .int .i64 r.most, .int .i64 r.brake, .slice r.ia r.items.length r.ic, .slice r.ba r.bricks.length r.bc] 26)) = W0 at *
    have hB1 := Below.refl W0.heap.size W0
    have x0 : ∀ wx, Below W0.heap.size W0 wx → wx.cell? ⟨w.heap.size, 0, none⟩ = some (.string r.name) := fun wx h => (HAT.out wx h).1
    have x1 : ∀ wx, Below W0.heap.size W0 wx → wx.cell? ⟨w.heap.size, 1, none⟩ = some (.int .i64 r.depth) := fun wx h => (HAT.out wx h).2.1
    have x2 : ∀ wx, Below W0.heap.size W0 wx → wx.cell? ⟨w.heap.size, 2, none⟩ = some (.int .i64 r.low) := fun wx h => (HAT.out wx h).2.2.1
    have x3 : ∀ wx, Below W0.heap.size W0 wx → wx.cell? ⟨w.heap.size, 3, none⟩ = some (.int .i64 r.high) := fun wx h => (HAT.out wx h).2.2.2.1
    have x4 : ∀ wx, Below W0.heap.size W0 wx → wx.cell? ⟨w.heap.size, 4, none⟩ = some (.int .i64 r.length) := fun wx h => (HAT.out wx h).2.2.2.2.1
    have x5 : ∀ wx, Below W0.heap.size W0 wx → wx.cell? ⟨w.heap.size, 5, none⟩ = some (.slice r.la r.lines.length r.lc) := fun wx h => (HAT.out wx h).2.2.2.2.2.1
    have x6 : ∀ wx, Below W0.heap.size W0 wx → wx.cell? ⟨w.heap.size, 6, none⟩ = some (.int .i64 r.pipe) := fun wx h => (HAT.out wx h).2.2.2.2.2.2.1
    have x7 : ∀ wx, Below W0.heap.size W0 wx → wx.cell? ⟨w.heap.size, 7, none⟩ = some (.int .i64 r.arbor) := fun wx h => (HAT.out wx h).2.2.2.2.2.2.2.1
    have x8 : ∀ wx, Below W0.heap.size W0 wx → wx.cell? ⟨w.heap.size, 8, none⟩ = some (.int .i64 r.purchase) := fun wx h => (HAT.out wx h).2.2.2.2.2.2.2.2.1
    have x9 : ∀ wx, Below W0.heap.size W0 wx → wx.cell? ⟨w.heap.size, 9, none⟩ = some (.int .i64 r.most) := fun wx h => (HAT.out wx h).2.2.2.2.2.2.2.2.2.1
    have x10 : ∀ wx, Below W0.heap.size W0 wx → wx.cell? ⟨w.heap.size, 10, none⟩ = some (.int .i64 r.brake) := fun wx h => (HAT.out wx h).2.2.2.2.2.2.2.2.2.2.1
    have x11 : ∀ wx, Below W0.heap.size W0 wx → wx.cell? ⟨w.heap.size, 11, none⟩ = some (.slice r.ia r.items.length r.ic) := fun wx h => (HAT.out wx h).2.2.2.2.2.2.2.2.2.2.2.1
    have x12 : ∀ wx, Below W0.heap.size W0 wx → wx.cell? ⟨w.heap.size, 12, none⟩ = some (.slice r.ba r.bricks.length r.bc) := fun wx h => (HAT.out wx h).2.2.2.2.2.2.2.2.2.2.2.2
    go_wp2_with (first
      | (go_at_call 21; (with_reducible refine (needed25_any r _ (HS.out _ hB1)).mono ?_); rintro e w2 ⟨rfl, hb⟩; rw [HE.out.1, HE.out.2]; have hB2 := hB1.trans (hb.mono hB1.size); clear hb))
    go_ret2
    exact ⟨rfl, HX.out _ hB2⟩
  · have HE : Hid (neededB r = neededS r ∧ weightEr r = 0) := Lib.hid (by unfold neededB weightEr; rw [hv]; exact ⟨rfl, rfl⟩)
    have HN : Hid (balanceB r = neededS r - restC r.bricks) := Lib.hid (by unfold balanceB; rw [hv]; rfl)
    have hk := setB_iff.1 hv
    have h1 := needed_bd hk
    obtain ⟨hl8, _, _, hok⟩ := brick_ok hk.bricks
    have HOK := Lib.hid hok
    have h2 := rest_bd hok
    have s2 : IntKind.i64.wrap (neededS r - restC r.bricks) = neededS r - restC r.bricks := IntWalk.i64_in _ (by omega)
    rw [HN.out, HE.out.2]
    clear hv hk hok h1 h2
    go_enter Tryz.func10, Tryz.ntmps10
    go_wp2_with fail
    generalize (w.alloc (.cells #[.string r.name, .int .i64 r.depth, .int .i64 r.low, .int .i64 r.high, .int .i64 r.length, .slice r.la r.lines.length r.lc, .int .i64 r.pipe, .int .i64 r.arbor, .int .i64 r.purchase, .int .i64 r.most, .int .i64 r.brake, .slice r.ia r.items.length r.ic, .slice r.ba r.bricks.length r.bc] 26)) = W0 at *
    have hB1 := Below.refl W0.heap.size W0
    have x0 : ∀ wx, Below W0.heap.size W0 wx → wx.cell? ⟨w.heap.size, 0, none⟩ = some (.string r.name) := fun wx h => (HAT.out wx h).1
    have x1 : ∀ wx, Below W0.heap.size W0 wx → wx.cell? ⟨w.heap.size, 1, none⟩ = some (.int .i64 r.depth) := fun wx h => (HAT.out wx h).2.1
    have x2 : ∀ wx, Below W0.heap.size W0 wx → wx.cell? ⟨w.heap.size, 2, none⟩ = some (.int .i64 r.low) := fun wx h => (HAT.out wx h).2.2.1
    have x3 : ∀ wx, Below W0.heap.size W0 wx → wx.cell? ⟨w.heap.size, 3, none⟩ = some (.int .i64 r.high) := fun wx h => (HAT.out wx h).2.2.2.1
    have x4 : ∀ wx, Below W0.heap.size W0 wx → wx.cell? ⟨w.heap.size, 4, none⟩ = some (.int .i64 r.length) := fun wx h => (HAT.out wx h).2.2.2.2.1
    have x5 : ∀ wx, Below W0.heap.size W0 wx → wx.cell? ⟨w.heap.size, 5, none⟩ = some (.slice r.la r.lines.length r.lc) := fun wx h => (HAT.out wx h).2.2.2.2.2.1
    have x6 : ∀ wx, Below W0.heap.size W0 wx → wx.cell? ⟨w.heap.size, 6, none⟩ = some (.int .i64 r.pipe) := fun wx h => (HAT.out wx h).2.2.2.2.2.2.1
    have x7 : ∀ wx, Below W0.heap.size W0 wx → wx.cell? ⟨w.heap.size, 7, none⟩ = some (.int .i64 r.arbor) := fun wx h => (HAT.out wx h).2.2.2.2.2.2.2.1
    have x8 : ∀ wx, Below W0.heap.size W0 wx → wx.cell? ⟨w.heap.size, 8, none⟩ = some (.int .i64 r.purchase) := fun wx h => (HAT.out wx h).2.2.2.2.2.2.2.2.1
    have x9 : ∀ wx, Below W0.heap.size W0 wx → wx.cell? ⟨w.heap.size, 9, none⟩ = some (.int .i64 r.most) := fun wx h => (HAT.out wx h).2.2.2.2.2.2.2.2.2.1
    have x10 : ∀ wx, Below W0.heap.size W0 wx → wx.cell? ⟨w.heap.size, 10, none⟩ = some (.int .i64 r.brake) := fun wx h => (HAT.out wx h).2.2.2.2.2.2.2.2.2.2.1
    have x11 : ∀ wx, Below W0.heap.size W0 wx → wx.cell? ⟨w.heap.size, 11, none⟩ = some (.slice r.ia r.items.length r.ic) := fun wx h => (HAT.out wx h).2.2.2.2.2.2.2.2.2.2.2.1
    have x12 : ∀ wx, Below W0.heap.size W0 wx → wx.cell? ⟨w.heap.size, 12, none⟩ = some (.slice r.ba r.bricks.length r.bc) := fun wx h => (HAT.out wx h).2.2.2.2.2.2.2.2.2.2.2.2
    go_wp2_with (first
      | (go_at_call 21; (with_reducible refine (needed25_any r _ (HS.out _ hB1)).mono ?_); rintro e w2 ⟨rfl, hb⟩; rw [HE.out.1, HE.out.2]; have hB2 := hB1.trans (hb.mono hB1.size); clear hb)
      | (go_at_call 29; (with_reducible refine (there_any r _ HOK.out hl8 (HS.out _ hB2).bricks).mono ?_); rintro e w3 ⟨rfl, hb⟩; have hB3 := hB2.trans (hb.mono hB2.size); clear hb))
    go_ret2
    exact ⟨rfl, HX.out _ hB3⟩
def fillE (r : SetR) : Int := if setB r = true then nearE (neededS r) r.bricks else 1
def fillC (r : SetR) : St := if setB r = true then nearC (neededS r) r.bricks else none
set_option maxRecDepth 100000 in
set_option maxHeartbeats 8000000 in
theorem fill_any (r : SetR) (w : World) (hs : SetIn w r) :
    Calls Tryz.prog 8 #[.agg #[.string r.name, .int .i64 r.depth, .int .i64 r.low, .int .i64 r.high, .int .i64 r.length, .slice r.la r.lines.length r.lc, .int .i64 r.pipe, .int .i64 r.arbor, .int .i64 r.purchase, .int .i64 r.most, .int .i64 r.brake, .slice r.ia r.items.length r.ic, .slice r.ba r.bricks.length r.bc]] w fun e w' => Hid (∃ v, e = .returned (.tuple #[v, .int .i64 (fillE r)]) ∧ RowV w.heap.size w' v (fillC r)) ∧ Below w.heap.size w w' := by
  have hb0 := below_new w (.cells #[.string r.name, .int .i64 r.depth, .int .i64 r.low, .int .i64 r.high, .int .i64 r.length, .slice r.la r.lines.length r.lc, .int .i64 r.pipe, .int .i64 r.arbor, .int .i64 r.purchase, .int .i64 r.most, .int .i64 r.brake, .slice r.ia r.items.length r.ic, .slice r.ba r.bricks.length r.bc] 26)
  have HX : Hid (∀ wx, Below (w.alloc (.cells #[.string r.name, .int .i64 r.depth, .int .i64 r.low, .int .i64 r.high, .int .i64 r.length, .slice r.la r.lines.length r.lc, .int .i64 r.pipe, .int .i64 r.arbor, .int .i64 r.purchase, .int .i64 r.most, .int .i64 r.brake, .slice r.ia r.items.length r.ic, .slice r.ba r.bricks.length r.bc] 26)).heap.size (w.alloc (.cells #[.string r.name, .int .i64 r.depth, .int .i64 r.low, .int .i64 r.high, .int .i64 r.length, .slice r.la r.lines.length r.lc, .int .i64 r.pipe, .int .i64 r.arbor, .int .i64 r.purchase, .int .i64 r.most, .int .i64 r.brake, .slice r.ia r.items.length r.ic, .slice r.ba r.bricks.length r.bc] 26)) wx → Below w.heap.size w wx) := Lib.hid fun wx h => mono_in _ h
  have HS : Hid (∀ wx, Below (w.alloc (.cells #[.string r.name, .int .i64 r.depth, .int .i64 r.low, .int .i64 r.high, .int .i64 r.length, .slice r.la r.lines.length r.lc, .int .i64 r.pipe, .int .i64 r.arbor, .int .i64 r.purchase, .int .i64 r.most, .int .i64 r.brake, .slice r.ia r.items.length r.ic, .slice r.ba r.bricks.length r.bc] 26)).heap.size (w.alloc (.cells #[.string r.name, .int .i64 r.depth, .int .i64 r.low, .int .i64 r.high, .int .i64 r.length, .slice r.la r.lines.length r.lc, .int .i64 r.pipe, .int .i64 r.arbor, .int .i64 r.purchase, .int .i64 r.most, .int .i64 r.brake, .slice r.ia r.items.length r.ic, .slice r.ba r.bricks.length r.bc] 26)) wx → SetIn wx r) := Lib.hid fun wx h => (hs.grow hb0).grow h
  have HAT : Hid (∀ wx, Below (w.alloc (.cells #[.string r.name, .int .i64 r.depth, .int .i64 r.low, .int .i64 r.high, .int .i64 r.length, .slice r.la r.lines.length r.lc, .int .i64 r.pipe, .int .i64 r.arbor, .int .i64 r.purchase, .int .i64 r.most, .int .i64 r.brake, .slice r.ia r.items.length r.ic, .slice r.ba r.bricks.length r.bc] 26)).heap.size (w.alloc (.cells #[.string r.name, .int .i64 r.depth, .int .i64 r.low, .int .i64 r.high, .int .i64 r.length, .slice r.la r.lines.length r.lc, .int .i64 r.pipe, .int .i64 r.arbor, .int .i64 r.purchase, .int .i64 r.most, .int .i64 r.brake, .slice r.ia r.items.length r.ic, .slice r.ba r.bricks.length r.bc] 26)) wx → SetAt wx w.heap.size r) := Lib.hid fun wx h => (SetAt.new w r 26).below h (by simp)
  clear hb0 hs
  have HSZ : Hid (∀ wx, Below (w.alloc (.cells #[.string r.name, .int .i64 r.depth, .int .i64 r.low, .int .i64 r.high, .int .i64 r.length, .slice r.la r.lines.length r.lc, .int .i64 r.pipe, .int .i64 r.arbor, .int .i64 r.purchase, .int .i64 r.most, .int .i64 r.brake, .slice r.ia r.items.length r.ic, .slice r.ba r.bricks.length r.bc] 26)).heap.size (w.alloc (.cells #[.string r.name, .int .i64 r.depth, .int .i64 r.low, .int .i64 r.high, .int .i64 r.length, .slice r.la r.lines.length r.lc, .int .i64 r.pipe, .int .i64 r.arbor, .int .i64 r.purchase, .int .i64 r.most, .int .i64 r.brake, .slice r.ia r.items.length r.ic, .slice r.ba r.bricks.length r.bc] 26)) wx → w.heap.size ≤ wx.heap.size) := Lib.hid fun wx h => by have := h.size; simp at this; omega
  cases hv : setB r
  · have HE : Hid (neededB r = 0 ∧ weightEr r = 1) := Lib.hid (by unfold neededB weightEr; rw [hv]; exact ⟨rfl, rfl⟩)
    have HN : Hid (fillE r = 1 ∧ fillC r = none) := Lib.hid (by unfold fillE fillC; rw [hv]; exact ⟨rfl, rfl⟩)
    rw [HN.out.1, HN.out.2]
    clear hv
    go_enter Tryz.func8, Tryz.ntmps8
    go_wp2_with fail
    generalize (w.alloc (.cells #[.string r.name, .int .i64 r.depth, .int .i64 r.low, .int .i64 r.high, .int .i64 r.length, .slice r.la r.lines.length r.lc, .int .i64 r.pipe, .int .i64 r.arbor, .int .i64 r.purchase, .int .i64 r.most, .int .i64 r.brake, .slice r.ia r.items.length r.ic, .slice r.ba r.bricks.length r.bc] 26)) = W0 at *
    have hB1 := Below.refl W0.heap.size W0
    have x0 : ∀ wx, Below W0.heap.size W0 wx → wx.cell? ⟨w.heap.size, 0, none⟩ = some (.string r.name) := fun wx h => (HAT.out wx h).1
    have x1 : ∀ wx, Below W0.heap.size W0 wx → wx.cell? ⟨w.heap.size, 1, none⟩ = some (.int .i64 r.depth) := fun wx h => (HAT.out wx h).2.1
    have x2 : ∀ wx, Below W0.heap.size W0 wx → wx.cell? ⟨w.heap.size, 2, none⟩ = some (.int .i64 r.low) := fun wx h => (HAT.out wx h).2.2.1
    have x3 : ∀ wx, Below W0.heap.size W0 wx → wx.cell? ⟨w.heap.size, 3, none⟩ = some (.int .i64 r.high) := fun wx h => (HAT.out wx h).2.2.2.1
    have x4 : ∀ wx, Below W0.heap.size W0 wx → wx.cell? ⟨w.heap.size, 4, none⟩ = some (.int .i64 r.length) := fun wx h => (HAT.out wx h).2.2.2.2.1
    have x5 : ∀ wx, Below W0.heap.size W0 wx → wx.cell? ⟨w.heap.size, 5, none⟩ = some (.slice r.la r.lines.length r.lc) := fun wx h => (HAT.out wx h).2.2.2.2.2.1
    have x6 : ∀ wx, Below W0.heap.size W0 wx → wx.cell? ⟨w.heap.size, 6, none⟩ = some (.int .i64 r.pipe) := fun wx h => (HAT.out wx h).2.2.2.2.2.2.1
    have x7 : ∀ wx, Below W0.heap.size W0 wx → wx.cell? ⟨w.heap.size, 7, none⟩ = some (.int .i64 r.arbor) := fun wx h => (HAT.out wx h).2.2.2.2.2.2.2.1
    have x8 : ∀ wx, Below W0.heap.size W0 wx → wx.cell? ⟨w.heap.size, 8, none⟩ = some (.int .i64 r.purchase) := fun wx h => (HAT.out wx h).2.2.2.2.2.2.2.2.1
    have x9 : ∀ wx, Below W0.heap.size W0 wx → wx.cell? ⟨w.heap.size, 9, none⟩ = some (.int .i64 r.most) := fun wx h => (HAT.out wx h).2.2.2.2.2.2.2.2.2.1
    have x10 : ∀ wx, Below W0.heap.size W0 wx → wx.cell? ⟨w.heap.size, 10, none⟩ = some (.int .i64 r.brake) := fun wx h => (HAT.out wx h).2.2.2.2.2.2.2.2.2.2.1
    have x11 : ∀ wx, Below W0.heap.size W0 wx → wx.cell? ⟨w.heap.size, 11, none⟩ = some (.slice r.ia r.items.length r.ic) := fun wx h => (HAT.out wx h).2.2.2.2.2.2.2.2.2.2.2.1
    have x12 : ∀ wx, Below W0.heap.size W0 wx → wx.cell? ⟨w.heap.size, 12, none⟩ = some (.slice r.ba r.bricks.length r.bc) := fun wx h => (HAT.out wx h).2.2.2.2.2.2.2.2.2.2.2.2
    go_wp2_with (first
      | (go_at_call 21; (with_reducible refine (needed25_any r _ (HS.out _ hB1)).mono ?_); rintro e w2 ⟨rfl, hb⟩; rw [HE.out.1, HE.out.2]; have hB2 := hB1.trans (hb.mono hB1.size); clear hb))
    go_ret2
    exact ⟨Lib.hid ⟨_, rfl, rfl⟩, HX.out _ hB2⟩
  · have HE : Hid (neededB r = neededS r ∧ weightEr r = 0) := Lib.hid (by unfold neededB weightEr; rw [hv]; exact ⟨rfl, rfl⟩)
    have HN : Hid (fillE r = nearE (neededS r) r.bricks ∧ fillC r = nearC (neededS r) r.bricks) := Lib.hid (by unfold fillE fillC; rw [hv]; exact ⟨rfl, rfl⟩)
    rw [HN.out.1, HN.out.2]
    clear hv
    go_enter Tryz.func8, Tryz.ntmps8
    go_wp2_with fail
    generalize (w.alloc (.cells #[.string r.name, .int .i64 r.depth, .int .i64 r.low, .int .i64 r.high, .int .i64 r.length, .slice r.la r.lines.length r.lc, .int .i64 r.pipe, .int .i64 r.arbor, .int .i64 r.purchase, .int .i64 r.most, .int .i64 r.brake, .slice r.ia r.items.length r.ic, .slice r.ba r.bricks.length r.bc] 26)) = W0 at *
    have hB1 := Below.refl W0.heap.size W0
    have x0 : ∀ wx, Below W0.heap.size W0 wx → wx.cell? ⟨w.heap.size, 0, none⟩ = some (.string r.name) := fun wx h => (HAT.out wx h).1
    have x1 : ∀ wx, Below W0.heap.size W0 wx → wx.cell? ⟨w.heap.size, 1, none⟩ = some (.int .i64 r.depth) := fun wx h => (HAT.out wx h).2.1
    have x2 : ∀ wx, Below W0.heap.size W0 wx → wx.cell? ⟨w.heap.size, 2, none⟩ = some (.int .i64 r.low) := fun wx h => (HAT.out wx h).2.2.1
    have x3 : ∀ wx, Below W0.heap.size W0 wx → wx.cell? ⟨w.heap.size, 3, none⟩ = some (.int .i64 r.high) := fun wx h => (HAT.out wx h).2.2.2.1
    have x4 : ∀ wx, Below W0.heap.size W0 wx → wx.cell? ⟨w.heap.size, 4, none⟩ = some (.int .i64 r.length) := fun wx h => (HAT.out wx h).2.2.2.2.1
    have x5 : ∀ wx, Below W0.heap.size W0 wx → wx.cell? ⟨w.heap.size, 5, none⟩ = some (.slice r.la r.lines.length r.lc) := fun wx h => (HAT.out wx h).2.2.2.2.2.1
    have x6 : ∀ wx, Below W0.heap.size W0 wx → wx.cell? ⟨w.heap.size, 6, none⟩ = some (.int .i64 r.pipe) := fun wx h => (HAT.out wx h).2.2.2.2.2.2.1
    have x7 : ∀ wx, Below W0.heap.size W0 wx → wx.cell? ⟨w.heap.size, 7, none⟩ = some (.int .i64 r.arbor) := fun wx h => (HAT.out wx h).2.2.2.2.2.2.2.1
    have x8 : ∀ wx, Below W0.heap.size W0 wx → wx.cell? ⟨w.heap.size, 8, none⟩ = some (.int .i64 r.purchase) := fun wx h => (HAT.out wx h).2.2.2.2.2.2.2.2.1
    have x9 : ∀ wx, Below W0.heap.size W0 wx → wx.cell? ⟨w.heap.size, 9, none⟩ = some (.int .i64 r.most) := fun wx h => (HAT.out wx h).2.2.2.2.2.2.2.2.2.1
    have x10 : ∀ wx, Below W0.heap.size W0 wx → wx.cell? ⟨w.heap.size, 10, none⟩ = some (.int .i64 r.brake) := fun wx h => (HAT.out wx h).2.2.2.2.2.2.2.2.2.2.1
    have x11 : ∀ wx, Below W0.heap.size W0 wx → wx.cell? ⟨w.heap.size, 11, none⟩ = some (.slice r.ia r.items.length r.ic) := fun wx h => (HAT.out wx h).2.2.2.2.2.2.2.2.2.2.2.1
    have x12 : ∀ wx, Below W0.heap.size W0 wx → wx.cell? ⟨w.heap.size, 12, none⟩ = some (.slice r.ba r.bricks.length r.bc) := fun wx h => (HAT.out wx h).2.2.2.2.2.2.2.2.2.2.2.2
    go_wp2_with (first
      | (go_at_call 21; (with_reducible refine (needed25_any r _ (HS.out _ hB1)).mono ?_); rintro e w2 ⟨rfl, hb⟩; rw [HE.out.1, HE.out.2]; have hB2 := hB1.trans (hb.mono hB1.size); clear hb)
      | (go_at_call 22; (with_reducible refine (near26_any (neededS r) r.ba r.bricks r.bc _ (HS.out _ hB2).bcap (HS.out _ hB2).bricks).mono ?_); rintro e w3 ⟨hx, hb⟩; obtain ⟨v, rfl, hv⟩ := hx.out; have HV := Lib.hid hv; have hB3 := hB2.trans (hb.mono hB2.size); clear hb hx hv))
    go_ret2
    exact ⟨Lib.hid ⟨_, rfl, RowV.base HV.out (HSZ.out _ hB2)⟩, HX.out _ hB3⟩
end Go.Proofs.YtfkmnneieglolaaGreatDoor
namespace Go.Proofs.YtfkmnneieglolaaGreatDoor
open Go.RowKit Go.Shelf
theorem isC_iff : ∀ {L : List BrickR} {c : List Int}, IsC L c ↔ c.length = L.length ∧ ∀ j, j < L.length → 0 ≤ ig c j ∧ ig c j ≤ (bg L j).count
  | [], [] => ⟨fun _ => ⟨rfl, fun j h => absurd h (Nat.not_lt_zero _)⟩, fun _ => trivial⟩
  | b :: t, n :: r => by
    simp only [IsC, isC_iff (L := t) (c := r), List.length_cons, Nat.add_right_cancel_iff]
    constructor
    · rintro ⟨h0, hl, h⟩
      refine ⟨hl, fun j hj => ?_⟩
      cases j with
      | zero => exact h0
      | succ j => exact h j (by omega)
    · rintro ⟨hl, h⟩
      exact ⟨h 0 (by omega), hl, fun j hj => h (j + 1) (by omega)⟩
  | [], _ :: _ => by simp [IsC]
  | _ :: _, [] => by simp [IsC]
instance (L : List BrickR) (c : List Int) : Decidable (IsC L c) := decidable_of_iff _ isC_iff.symm
def sumTo (L : List BrickR) (c : List Int) : Nat → Int
  | 0 => 0
  | k + 1 => sumTo L c k + (bg L k).weight * ig c k
def numTo (c : List Int) : Nat → Int
  | 0 => 0
  | k + 1 => numTo c k + ig c k
theorem sumTo_cons (b : BrickR) (t : List BrickR) (n : Int) (r : List Int) : ∀ k, sumTo (b :: t) (n :: r) (k + 1) = b.weight * n + sumTo t r k
  | 0 => by simp [sumTo, bg, ig]
  | k + 1 => by
    have := sumTo_cons b t n r k
    unfold sumTo
    rw [this]
    unfold sumTo
    have e1 : bg (b :: t) (k + 1) = bg t k := rfl
    have e2 : ig (n :: r) (k + 1) = ig r k := rfl
    rw [e1, e2]
    omega
theorem sumTo_all : ∀ {L : List BrickR} {c : List Int}, c.length = L.length → sumTo L c L.length = sumC L c
  | [], [], _ => rfl
  | b :: t, n :: r, h => by
    rw [List.length_cons, sumTo_cons, sumTo_all (by simpa using h)]
    rfl
  | [], _ :: _, h => by simp at h
  | _ :: _, [], h => by simp at h
theorem numTo_cons (n : Int) (r : List Int) : ∀ k, numTo (n :: r) (k + 1) = n + numTo r k
  | 0 => by simp [numTo, ig]
  | k + 1 => by
    have := numTo_cons n r k
    unfold numTo
    rw [this]
    have e2 : ig (n :: r) (k + 1) = ig r k := rfl
    rw [e2]
    cases k <;> simp [numTo] <;> omega
theorem numTo_all : ∀ (c : List Int), numTo c c.length = numC c
  | [] => rfl
  | n :: r => by
    rw [List.length_cons, numTo_cons, numTo_all r]
    rfl
theorem sumTo_bd {L : List BrickR} {c : List Int} (ok : BrickOK L) (h : ∀ j, j < L.length → 0 ≤ ig c j ∧ ig c j ≤ (bg L j).count) : ∀ k : Nat, k ≤ L.length → 0 ≤ sumTo L c k ∧ sumTo L c k ≤ 62914560 * (k : Int)
  | 0, _ => by simp [sumTo]
  | k + 1, hk => by
    obtain ⟨i1, i2⟩ := sumTo_bd ok h k (by omega)
    obtain ⟨w1, w2, _, c2⟩ := ok_bg ok (show k < L.length by omega)
    obtain ⟨n1, n2⟩ := h k (by omega)
    have a1 : 0 ≤ (bg L k).weight * ig c k := Int.mul_nonneg (by omega) n1
    have a2 : (bg L k).weight * ig c k ≤ 1048576 * 60 := Int.mul_le_mul w2 (by omega) n1 (by omega)
    simp only [sumTo]
    omega
theorem numTo_bd {L : List BrickR} {c : List Int} (ok : BrickOK L) (hl : c.length = L.length) (h : ∀ j, j < L.length → 0 ≤ ig c j ∧ ig c j ≤ (bg L j).count) : ∀ k : Nat, k ≤ c.length → 0 ≤ numTo c k ∧ numTo c k ≤ 60 * (k : Int)
  | 0, _ => by simp [numTo]
  | k + 1, hk => by
    obtain ⟨i1, i2⟩ := numTo_bd ok hl h k (by omega)
    obtain ⟨w1, w2, _, c2⟩ := ok_bg ok (show k < L.length by omega)
    obtain ⟨n1, n2⟩ := h k (by omega)
    simp only [numTo]
    omega
theorem lexB_go {a b : List Int} (h : a.length = b.length) : ∀ k, k ≤ a.length → (∀ j, j < k → ig a j = ig b j) → lexB a b = lexB (a.drop k) (b.drop k)
  | 0, _, _ => rfl
  | k + 1, hk, he => by
    rw [lexB_go h k (by omega) fun j hj => he j (by omega), List.drop_eq_getElem_cons (show k < a.length by omega), List.drop_eq_getElem_cons (show k < b.length by omega), ← ig_eq a k (by omega), ← ig_eq b k (by omega), he k (by omega), lexB_cons]
theorem lexB_at {a b : List Int} (h : a.length = b.length) {k : Nat} (hk : k < a.length) (he : ∀ j, j < k → ig a j = ig b j) (hn : ig a k ≠ ig b k) : lexB a b = decide (ig a k < ig b k) := by
  rw [lexB_go h k (by omega) he, List.drop_eq_getElem_cons (show k < a.length by omega), List.drop_eq_getElem_cons (show k < b.length by omega), ← ig_eq a k (by omega), ← ig_eq b k (by omega)]
  simp only [lexB]
  rw [if_neg hn]
end Go.Proofs.YtfkmnneieglolaaGreatDoor
