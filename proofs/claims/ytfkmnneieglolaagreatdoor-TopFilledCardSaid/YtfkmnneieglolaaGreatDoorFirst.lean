/-
  THE WALK of the method first (bricks): the first choice in a window.
-/
import Derived.Test.YtfkmnneieglolaaGreatDoorVisA
import Derived.Laws.EntriesVeiled
namespace Go.Proofs.YtfkmnneieglolaaGreatDoor
open Go.RowKit Go.Shelf
theorem first_start (w : World) (Bs N B : Nat) (low high : Int) (hB : w.heap.size = B) (W : World) (hW : W = (((((((w.alloc (.cells #[.pointer (some ⟨Bs, 0, none⟩)] 104)).alloc (.cells #[.int .i64 low] 3)).alloc (.cells #[.int .i64 high] 3)).alloc (.cells #[.slice none 0 0] 22)).alloc (.cells #[.int .i64 0] 3)).alloc (.cells #[.bool false] 4)).alloc (.cells #[.func (.func 100) #[] #[.pointer (some ⟨B + 5, 0, none⟩), .pointer (some ⟨B + 4, 0, none⟩), .pointer (some ⟨B + 2, 0, none⟩), .pointer (some ⟨B, 0, none⟩), .pointer (some ⟨B + 1, 0, none⟩), .pointer (some ⟨B + 3, 0, none⟩), .pointer (some ⟨B + 6, 0, none⟩)]] 150))) :
    VisS B (W.alloc (.cells (madeCells #[.int .i64 0] N) 3)).drew Bs low high N [] none ∧ Below B w W ∧ W.heap.size = B + 7 ∧ W.cell? ⟨B + 6, 0, none⟩ = some (visV B) ∧ W.cell? ⟨B, 0, none⟩ = some (.pointer (some ⟨Bs, 0, none⟩)) := by
  subst hB
  have hb : Below w.heap.size w W := by
    rw [hW]
    refine Below.alloc (Below.alloc (Below.alloc (Below.alloc (Below.alloc (Below.alloc (below_new w _) ?_ _) ?_ _) ?_ _) ?_ _) ?_ _) ?_ _ <;> (simp <;> omega)
  have hz : W.heap.size = w.heap.size + 7 := by rw [hW]; simp
  refine ⟨⟨?_, ?_, ?_, ?_, ?_, ?_, ?_, fun i => ⟨?_, ?_, ?_, ?_⟩, ⟨.slice none 0 0, ?_, rfl⟩, fun j hj => ?_, fun j hj => by simp at hj⟩, hb, hz, ?_, ?_⟩
  all_goals subst hW
  case refine_13 =>
    rw [World.cell?_drew]
    rw [show w.heap.size + 7 = ((((((((w.alloc (.cells #[.pointer (some ⟨Bs, 0, none⟩)] 104)).alloc (.cells #[.int .i64 low] 3)).alloc (.cells #[.int .i64 high] 3)).alloc (.cells #[.slice none 0 0] 22)).alloc (.cells #[.int .i64 0] 3)).alloc (.cells #[.bool false] 4)).alloc (.cells #[.func (.func 100) #[] #[.pointer (some ⟨w.heap.size + 5, 0, none⟩), .pointer (some ⟨w.heap.size + 4, 0, none⟩), .pointer (some ⟨w.heap.size + 2, 0, none⟩), .pointer (some ⟨w.heap.size, 0, none⟩), .pointer (some ⟨w.heap.size + 1, 0, none⟩), .pointer (some ⟨w.heap.size + 3, 0, none⟩), .pointer (some ⟨w.heap.size + 6, 0, none⟩)]] 150))).heap.size by rw [hz]]
    rw [cell_of_row _ _ j _ 3 (0, 0) (heap_alloc_new _ _)]
    simp [madeCells, hj]
  all_goals simp [go_sem, visV, mostS]
set_option maxRecDepth 100000 in
set_option maxHeartbeats 16000000 in
theorem first_any {Bs : Nat} (low high : Int) (a : Option Addr) (L : List BrickR) (cap : Nat) (w : World) (hl : L.length ≤ 8) (hok : BrickOK L) (hS : SearchAt w.heap.size w Bs a L cap) (hBK : Bricks w.heap.size w a L) :
    Calls Tryz.prog 73 #[.pointer (some ⟨Bs, 0, none⟩), .int .i64 low, .int .i64 high] w fun e w' => Hid (∃ v, e = .returned (.tuple #[v, .bool (firstP low high L).isSome]) ∧ BestV w.heap.size w' v (firstP low high L)) ∧ Below w.heap.size w w' := by
  obtain ⟨i0, hi, hz0, hz1, hz2⟩ := info_parts num_infoZ
  have hmk : ∀ w : World, (Instr.makeSlice 22 (.int .i64 0) (.int .i64 (L.length : Int))).run Tryz.prog w = .ok (.slice (some ⟨w.heap.size, 0, none⟩) 0 L.length) (w.alloc (.cells (madeCells #[.int .i64 0] L.length) 3)) := fun w => by
    have := run_make (P := Tryz.prog) w 22 3 i0 (.int .i64 0) Tryz.underlying22 hi hz0 .i64 .i64 0 L.length (Int.le_refl _) (by omega) (by rw [hz2]; omega) (by omega)
    rw [hz1, Int.toNat_zero, Int.toNat_natCast, Nat.mul_one] at this
    exact this
  have HSE := Lib.hid hS
  have HBK := Lib.hid hBK
  have HOK := Lib.hid hok
  have HRB : Hid ((0 : Int) + restC (L.drop 0) ≤ 503316480) := Lib.hid (by have := (bounds_bg hok hl).2; rw [List.drop_zero]; omega)
  have HF : Hid (visitF low high (L.drop 0) [] 0 0 none = firstP low high L) := Lib.hid rfl
  clear hS hBK hok
  go_enter Tryz.func73, Tryz.ntmps73
  go_upto_region 5 with (fail)
  simp only [Nat.add_assoc, Nat.reduceAdd]
  obtain ⟨B, hB⟩ : ∃ B, w.heap.size = B := ⟨_, rfl⟩
  have HBe := Lib.hid hB
  rw [hB] at HSE HBK
  simp only [hB]
  obtain ⟨W7, hW⟩ : ∃ W, W = (((((((w.alloc (.cells #[.pointer (some ⟨Bs, 0, none⟩)] 104)).alloc (.cells #[.int .i64 low] 3)).alloc (.cells #[.int .i64 high] 3)).alloc (.cells #[.slice none 0 0] 22)).alloc (.cells #[.int .i64 0] 3)).alloc (.cells #[.bool false] 4)).alloc (.cells #[.func (.func 100) #[] #[.pointer (some ⟨B + 5, 0, none⟩), .pointer (some ⟨B + 4, 0, none⟩), .pointer (some ⟨B + 2, 0, none⟩), .pointer (some ⟨B, 0, none⟩), .pointer (some ⟨B + 1, 0, none⟩), .pointer (some ⟨B + 3, 0, none⟩), .pointer (some ⟨B + 6, 0, none⟩)]] 150)) := ⟨_, rfl⟩
  obtain ⟨hV, hB7, hz7, hv7, hp7⟩ := first_start w Bs L.length B low high hB W7 hW
  have HV := Lib.hid hV
  rw [← hW]
  clear hW hV hB
  have hB8 : Below B w (W7.alloc (.cells (madeCells #[.int .i64 0] L.length) 3)).drew := (hB7.alloc (by omega) _).drew
  have hz8 : W7.drew.heap.size = B + 7 := hz7
  refine wp_region_held_drew (S := (fun w' => Below B w w' ∧ w'.cell? ⟨B + 6, 0, none⟩ = some (.func (.func 100) #[] #[.pointer (some ⟨B + 5, 0, none⟩), .pointer (some ⟨B + 4, 0, none⟩), .pointer (some ⟨B + 2, 0, none⟩), .pointer (some ⟨B, 0, none⟩), .pointer (some ⟨B + 1, 0, none⟩), .pointer (some ⟨B + 3, 0, none⟩), .pointer (some ⟨B + 6, 0, none⟩)]) ∧ w'.cell? ⟨B, 0, none⟩ = some (.pointer (some ⟨Bs, 0, none⟩)) ∧ w'.cell? ⟨Bs, 0, none⟩ = some (.slice a L.length cap))) (by kernel_rfl) (⟨hB7.drew, hv7, hp7, (HSE.out.keep hB7.drew).2.1⟩) (fun hHeld => ?_)
  refine wpAnyH_take (i := 0) (oi := _) (v := ?_) rfl (by kernel_rfl) (by kernel_rfl) (by kernel_rfl) (fun _ _ _ h => h) (Or.inl ⟨by rfl, ?_⟩) (by assumption) ?_
  rotate_left
  · (intro w hSw; (try dsimp only at hSw); (try simp only [List.getElem_toArray, List.getElem_cons_zero]); go_simp; try with_reducible rfl)
  simp only [Act.put, List.setIfInBounds_toArray, List.set_cons_zero, List.set_cons_succ, List.getElem_toArray, List.getElem_cons_zero]
  refine wpAnyH_take (i := 1) (oi := _) (v := ?_) rfl (by kernel_rfl) (by kernel_rfl) (by kernel_rfl) (fun _ _ _ h => h) (Or.inl ⟨by rfl, ?_⟩) (by assumption) ?_
  rotate_left
  · (intro w hSw; (try dsimp only at hSw); (try simp only [List.getElem_toArray, List.getElem_cons_succ, List.getElem_cons_zero]); go_simp; try with_reducible rfl)
  simp only [Act.put, List.setIfInBounds_toArray, List.set_cons_zero, List.set_cons_succ, List.getElem_toArray, List.getElem_cons_succ, List.getElem_cons_zero]
  refine wpAnyH_take (i := 2) (oi := _) (v := ?_) rfl (by kernel_rfl) (by kernel_rfl) (by kernel_rfl) (fun _ _ _ h => h) (Or.inl ⟨by rfl, ?_⟩) (by assumption) ?_
  rotate_left
  · (intro w hSw; (try dsimp only at hSw); (try simp only [List.getElem_toArray, List.getElem_cons_succ, List.getElem_cons_zero]); go_simp; try with_reducible rfl)
  simp only [Act.put, List.setIfInBounds_toArray, List.set_cons_zero, List.set_cons_succ, List.getElem_toArray, List.getElem_cons_succ, List.getElem_cons_zero]
  refine wpAnyH_take (i := 3) (oi := _) (v := ?_) rfl (by kernel_rfl) (by kernel_rfl) (by kernel_rfl) (fun _ _ _ h => h) (Or.inl ⟨by rfl, ?_⟩) (by assumption) ?_
  rotate_left
  · (intro w hSw; (try dsimp only at hSw); (try simp only [List.getElem_toArray, List.getElem_cons_succ, List.getElem_cons_zero]); go_simp; try with_reducible rfl)
  simp only [Act.put, List.setIfInBounds_toArray, List.set_cons_zero, List.set_cons_succ, List.getElem_toArray, List.getElem_cons_succ, List.getElem_cons_zero]
  refine wpAnyH_take (i := 4) (oi := _) (v := ?_) rfl (by kernel_rfl) (by kernel_rfl) (by kernel_rfl) (fun _ _ _ h => h) (Or.inl ⟨by rfl, ?_⟩) (by assumption) ?_
  rotate_left
  · (intro w hSw; (try dsimp only at hSw); (try simp only [List.getElem_toArray, List.getElem_cons_succ, List.getElem_cons_zero]); go_simp; try with_reducible rfl)
  simp only [Act.put, List.setIfInBounds_toArray, List.set_cons_zero, List.set_cons_succ, List.getElem_toArray, List.getElem_cons_succ, List.getElem_cons_zero]
  refine wpAnyH_take (i := 5) (oi := _) (v := ?_) rfl (by kernel_rfl) (by kernel_rfl) (by kernel_rfl) (fun _ _ _ h => h) (Or.inl ⟨by rfl, ?_⟩) (by assumption) ?_
  rotate_left
  · (intro w hSw; (try dsimp only at hSw); (try simp only [List.getElem_toArray, List.getElem_cons_succ, List.getElem_cons_zero]); go_simp; try with_reducible rfl)
  simp only [Act.put, List.setIfInBounds_toArray, List.set_cons_zero, List.set_cons_succ, List.getElem_toArray, List.getElem_cons_succ, List.getElem_cons_zero]
  refine wpAnyH_ready (rs := [6]) (by kernel_rfl) (by simp) ?_
  refine AllReadyH.cons (o := _) rfl (fun K hK => ?_) AllReadyH.nil
  try simp only [List.getElem_toArray, List.getElem_cons_succ, List.getElem_cons_zero]
  go_simp
  refine hK.out _ _ (⟨hB8, HV.out.cv, HV.out.cs, (HSE.out.keep hB8).2.1⟩) (fun hHeld => ?_)
  clear hK K
  try simp only [Act.put, List.setIfInBounds_toArray, List.set_cons_zero, List.set_cons_succ, List.getElem_toArray, List.getElem_cons_succ, List.getElem_cons_zero]
  refine wpAnyH_ready (rs := [7]) (by kernel_rfl) (by simp) ?_
  refine AllReadyH.cons (o := _) rfl (fun K hK => ?_) AllReadyH.nil
  try simp only [List.getElem_toArray, List.getElem_cons_succ, List.getElem_cons_zero]
  go_simp
  (go_at_call 100; go_split_ands; (with_reducible refine (visit_any a L cap hl HOK.out L.length 0 [] 0 0 none _ (by omega) rfl (Int.le_refl _) HRB.out (Int.le_refl _) (by omega) HV.out (HSE.out.keep hB8) (HBK.out.below hB8)).mono ?_); rintro e y ⟨rfl, hVy, hBy⟩; have HVy := Lib.hid hVy; clear hVy; have hBw := hB8.trans hBy)
  go_wp2_with fail
  refine hK.out _ _ (⟨hBw, HVy.out.cv, HVy.out.cs, (HSE.out.keep hBw).2.1⟩) (fun hHeld => ?_)
  clear hK K
  try simp only [Act.put, List.setIfInBounds_toArray, List.set_cons_zero, List.set_cons_succ, List.getElem_toArray, List.getElem_cons_succ, List.getElem_cons_zero]
  refine wpAnyH_done (by kernel_rfl) ?_ _
  have hVy := HVy.out
  rw [HF.out] at hVy
  obtain ⟨v, hv, hbv⟩ := hVy.best
  have hcf := hVy.cf
  have HBV := Lib.hid hbv
  clear hVy hbv hHeld HVy HF hv7 hp7
  go_wp2_with fail
  go_quiet (fail)
  go_wp2_with fail
  go_ret2
  have hq := below_drewN hBw nq
  rw [← HBe.out] at hq
  refine ⟨Lib.hid ⟨v, rfl, ?_⟩, hq⟩
  have := (HBV.out.below (below_drewN (Below.refl _ _) nq) : BestV B _ v (firstP low high L))
  rw [HBe.out]
  exact this
end Go.Proofs.YtfkmnneieglolaaGreatDoor
