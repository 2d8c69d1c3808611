/-
  THE WALK of bricks.newSearch: the greatest sums of the kinds from each one on.
-/
import Derived.Test.YtfkmnneieglolaaGreatDoorFew
import Derived.RegionTactic
import Derived.BigRegion
import Derived.IntWalk
import Derived.Deep.DeepCutAuto
import Derived.Deep.RegionHeld3
namespace Go.Proofs.YtfkmnneieglolaaGreatDoor
open Go.RowKit Go.Shelf
theorem nflat_set (L : List Int) (i : Nat) (x : Int) : (nflat L).set i (.int .i64 x) = nflat (L.set i x) := by
  induction L generalizing i with
  | nil => rfl
  | cons y r ih =>
    cases i with
    | zero => rfl
    | succ i => show _ :: (nflat r).set i _ = _ :: nflat (r.set i x); rw [ih]
/-- The list of the rests, as far as it is reckoned. -/
def restV (L : List BrickR) (k : Nat) : List Int := (List.range (L.length + 1)).map fun i => if k ≤ i then restC (L.drop i) else 0
theorem restV_len (L : List BrickR) (k : Nat) : (restV L k).length = L.length + 1 := by simp [restV]
theorem restV_at {L : List BrickR} {k i : Nat} (h : i ≤ L.length) : ig (restV L k) i = if k ≤ i then restC (L.drop i) else 0 := by
  rw [ig_eq _ i (by rw [restV_len]; omega)]
  simp [restV]
theorem restC_drop {L : List BrickR} {k : Nat} (h : k < L.length) : restC (L.drop k) = (bg L k).weight * (bg L k).count + restC (L.drop (k + 1)) := by
  rw [List.drop_eq_getElem_cons h, bg_eq L k h]
  rfl
theorem restV_step {L : List BrickR} {k : Nat} (h : k < L.length) : (restV L (k + 1)).set k (restC (L.drop k)) = restV L k := by
  apply List.ext_getElem?
  intro j
  rw [List.getElem?_set]
  simp only [restV_len]
  by_cases e : k = j
  · subst e
    rw [if_pos rfl, if_pos (by omega)]
    unfold restV
    rw [List.getElem?_map, List.getElem?_range (by omega)]
    simp
  · rw [if_neg e]
    unfold restV
    rw [List.getElem?_map, List.getElem?_map]
    by_cases q : j < L.length + 1
    · rw [List.getElem?_range q]
      simp only [Option.map_some, Option.some.injEq]
      by_cases q1 : k ≤ j
      · rw [if_pos q1, if_pos (by omega)]
      · rw [if_neg q1, if_neg (by omega)]
    · rw [List.getElem?_eq_none (by simp; omega)]; rfl
theorem made_rest (L : List BrickR) (n : Nat) (h : n = L.length + 1) : (madeCells (Value.int .i64 0).cells (n * 1)).toList = nflat (restV L L.length) := by
  rw [Nat.mul_one]
  apply List.ext_getElem?
  intro j
  by_cases hj : j < n
  · have e1 : (nflat (restV L L.length))[j]? = some (.int .i64 (ig (restV L L.length) j)) := nflat_at _ j (by rw [restV_len]; omega)
    rw [e1, restV_at (by omega)]
    have e2 : (if L.length ≤ j then restC (L.drop j) else 0) = 0 := by
      split
      · rw [List.drop_eq_nil_of_le (by omega)]; rfl
      · rfl
    rw [e2]
    simp [madeCells, Value.cells, hj, Nat.mod_one]
  · rw [List.getElem?_eq_none (by simp [madeCells]; omega), List.getElem?_eq_none (by rw [num_len, restV_len]; omega)]
theorem num_infoZ : (Tryz.prog.info? 3).map (fun i => (i.zero, i.size, i.bytes)) = some (some (.int .i64 0), 1, 8) := by kernel_rfl
/-- A search: where it lies. -/
def SearchAt (n₀ : Nat) (w : World) (Bs : Nat) (a : Option Addr) (L : List BrickR) (cap : Nat) : Prop :=
  Bs < n₀ ∧ w.cell? ⟨Bs, 0, none⟩ = some (.slice a L.length cap) ∧ ∃ Br, Br < n₀ ∧ w.cell? ⟨Bs, 1, none⟩ = some (.slice (some ⟨Br, 0, none⟩) (L.length + 1) (L.length + 1)) ∧ ∀ i, i ≤ L.length → w.cell? ⟨Br, i, none⟩ = some (.int .i64 (restC (L.drop i)))
theorem SearchAt.keep {n₀ : Nat} {w w' : World} {Bs : Nat} {a : Option Addr} {L : List BrickR} {cap : Nat} (h : SearchAt n₀ w Bs a L cap) (hb : Below n₀ w w') : SearchAt n₀ w' Bs a L cap := by
  obtain ⟨h1, h2, Br, h3, h4, h5⟩ := h
  exact ⟨h1, (hb.cell (p := ⟨Bs, 0, none⟩) h1).trans h2, Br, h3, (hb.cell (p := ⟨Bs, 1, none⟩) h1).trans h4, fun i hi => (hb.cell (p := ⟨Br, i, none⟩) h3).trans (h5 i hi)⟩
theorem SearchAt.up {n₀ n₁ : Nat} {w : World} {Bs : Nat} {a : Option Addr} {L : List BrickR} {cap : Nat} (h : SearchAt n₀ w Bs a L cap) (hn : n₀ ≤ n₁) : SearchAt n₁ w Bs a L cap := by
  obtain ⟨h1, h2, Br, h3, h4, h5⟩ := h
  exact ⟨by omega, h2, Br, by omega, h4, h5⟩
set_option maxRecDepth 100000 in
set_option maxHeartbeats 16000000 in
theorem newSearch_any (a : Option Addr) (L : List BrickR) (cap : Nat) (w : World) (ok : BrickOK L) (hl : L.length ≤ 8) (h : Bricks w.heap.size w a L) :
    Calls Tryz.prog 45 #[.slice a L.length cap] w fun e w' => Hid (∃ Bs, e = .returned (.pointer (some ⟨Bs, 0, none⟩)) ∧ w.heap.size ≤ Bs ∧ SearchAt w'.heap.size w' Bs a L cap) ∧ Below w.heap.size w w' := by
  have HU := Lib.hid h
  have HOK := Lib.hid ok
  clear h ok
  obtain ⟨i0, hi, hy1, hy2, hy3⟩ := info_parts num_infoZ
  have s0 : IntKind.i64.wrap ((L.length : Int) + 1) = ((L.length + 1 : Nat) : Int) := by rw [IntWalk.i64_in _ (by omega)]; omega
  have s1 : IntKind.i64.wrap ((L.length : Int) - 1) = (L.length : Int) - 1 := IntWalk.i64_in _ (by omega)
  go_enter Tryz.func45, Tryz.ntmps45
  go_upto_region 2 with (at_make; refine wpList_make_full _ rfl _ _ 22 rfl w.heap.size 3 i0 (.int .i64 0) 1 Tryz.underlying22 hi hy1 hy2 _ _ _ _ (L.length + 1) rfl rfl rfl rfl (by rw [hy3]; omega) (by unfold maxLen; omega) (Nat.le_refl _) ?_; intro w5 hown5 hg5)
  have HR5 := Lib.hid (show w5.ownsRow w.heap.size 3 1 (.slice (some ⟨w.heap.size, 0, none⟩) (L.length + 1) (L.length + 1)) (L.length + 1) (nflat (restV L L.length)) by rw [← made_rest L (L.length + 1) rfl]; exact hown5)
  have hB5 : Below w.heap.size w w5 := (Below.refl _ _).grown hg5 (Nat.le_refl _) (fun k e => by cases e)
  have hz5 : w.heap.size < w5.heap.size := (HR5.out.lt _ rfl).2
  have hR6 := HR5.out.alloc (.cells #[.slice a L.length cap, .slice (some ⟨w.heap.size, 0, none⟩) (L.length + 1) (L.length + 1)] 131)
  have hB6 := hB5.alloc hB5.size (.cells #[.slice a L.length cap, .slice (some ⟨w.heap.size, 0, none⟩) (L.length + 1) (L.length + 1)] 131)
  have y0 : (w5.alloc (.cells #[.slice a L.length cap, .slice (some ⟨w.heap.size, 0, none⟩) (L.length + 1) (L.length + 1)] 131)).cell? ⟨w5.heap.size, 0, none⟩ = some (.slice a L.length cap) := by simp
  have y1 : (w5.alloc (.cells #[.slice a L.length cap, .slice (some ⟨w.heap.size, 0, none⟩) (L.length + 1) (L.length + 1)] 131)).cell? ⟨w5.heap.size, 1, none⟩ = some (.slice (some ⟨w.heap.size, 0, none⟩) (L.length + 1) (L.length + 1)) := by simp
  have hz6 : w5.heap.size < (w5.alloc (.cells #[.slice a L.length cap, .slice (some ⟨w.heap.size, 0, none⟩) (L.length + 1) (L.length + 1)] 131)).heap.size := by simp
  generalize w5.alloc (.cells #[.slice a L.length cap, .slice (some ⟨w.heap.size, 0, none⟩) (L.length + 1) (L.length + 1)] 131) = W6 at *
  clear hown5 hg5 HR5 hB5
  generalize w5.heap.size = Bs at *
  obtain ⟨Br, hBr⟩ : ∃ b, w.heap.size = b := ⟨_, rfl⟩
  have HBr := Lib.hid hBr
  rw [hBr] at hR6 hB6 y1 hz5
  simp only [hBr]
  rw [hBr] at HU
  clear hBr
  go_wp2_with fail
  go_loopw [4] (fun i wr => ∃ k : Nat, k ≤ L.length ∧ i = .int .i64 ((k : Int) - 1) ∧ Below Br w wr ∧ wr.cell? ⟨Bs, 0, none⟩ = some (.slice a L.length cap) ∧ wr.cell? ⟨Bs, 1, none⟩ = some (.slice (some ⟨Br, 0, none⟩) (L.length + 1) (L.length + 1)) ∧ Hid (wr.ownsRow Br 3 1 (.slice (some ⟨Br, 0, none⟩) (L.length + 1) (L.length + 1)) (L.length + 1) (nflat (restV L k)))) (fun i _ => (intOf i + 1).toNat)
  case atStart => exact ⟨L.length, Nat.le_refl _, rfl, hB6, y0, y1, Lib.hid hR6⟩
  case round =>
    obtain ⟨k, hk, rfl, hB, x0, x1, HR⟩ := hrel
    clear hB6 y0 y1 hR6
    by_cases hk0 : k = 0
    · subst hk0
      go_wp2_with fail
      go_ret
      have hb2 := hB
      rw [← HBr.out] at hb2
      refine ⟨Lib.hid ⟨Bs, rfl, by rw [HBr.out]; omega, World.block_lt_of_cell? _ _ x0, x0, Br, (HR.out.lt _ rfl).2, x1, fun i hi => ?_⟩, by first | exact hb2 | exact hB⟩
      rw [HR.out.cellAt i (by omega), nflat_at _ _ (by rw [restV_len]; omega), restV_at hi, if_pos (Nat.zero_le _)]
    · obtain ⟨m, rfl⟩ : ∃ m, k = m + 1 := ⟨k - 1, by omega⟩
      obtain ⟨b, off, rfl, hb, hc⟩ := HU.out (by omega)
      obtain ⟨_, e1, e2⟩ := hc m (by omega)
      have c1 := (hB.cell (p := ⟨b, off + m * 3 + 1, none⟩) hb).trans e1
      have c2 := (hB.cell (p := ⟨b, off + m * 3 + 2, none⟩) hb).trans e2
      have o1 : wr.cell? ⟨Br, m + 1, none⟩ = some (.int .i64 (restC (L.drop (m + 1)))) := by rw [HR.out.cellAt (m + 1) (by omega), nflat_at _ _ (by rw [restV_len]; omega), restV_at (by omega), if_pos (Nat.le_refl _)]
      have o2 : ∃ v, wr.cell? ⟨Br, m, none⟩ = some v := ⟨_, by rw [HR.out.cellAt m (by omega), nflat_at _ _ (by rw [restV_len]; omega)]⟩
      obtain ⟨v2, o2⟩ := o2
      have o3 := HR.out.frozenAt m
      obtain ⟨p1, p2, p3, p4⟩ := ok_bg HOK.out (show m < L.length by omega)
      have HD := Lib.hid (restC_drop (show m < L.length by omega))
      have hrb := rest_bd (fun x hx => HOK.out x (List.mem_of_mem_drop hx) : BrickOK (L.drop (m + 1)))
      have hdl : (L.drop (m + 1)).length ≤ 8 := by rw [List.length_drop]; omega
      generalize (bg L m).weight = W at *
      generalize (bg L m).count = C at *
      generalize restC (L.drop (m + 1)) = R1 at *
      have hm0 : 0 ≤ W * C := Int.mul_nonneg (by omega) p3
      have hm1 : W * C ≤ 1048576 * 60 := Int.mul_le_mul p2 p4 p3 (by omega)
      have t0 : ((m + 1 : Nat) : Int) - 1 = (m : Int) := by omega
      have t1 : IntKind.i64.wrap ((m : Int) + 1) = (m : Int) + 1 := IntWalk.i64_in _ (by omega)
      have t2 : IntKind.i64.wrap (W * C) = W * C := IntWalk.i64_in _ (by omega)
      have t3 : IntKind.i64.wrap (R1 + W * C) = R1 + W * C := IntWalk.i64_in _ (by omega)
      have t4 : IntKind.i64.wrap ((m : Int) - 1) = (m : Int) - 1 := IntWalk.i64_in _ (by omega)
      have j1 : (m : Int) < (L.length : Int) := by omega
      have j2 : (m : Int) + 1 < (L.length : Int) + 1 := by omega
      have j3 : (0 : Int) ≤ (m : Int) := by omega
      have j4 : (0 : Int) ≤ (m : Int) + 1 := by omega
      have hbr : Br < wr.heap.size := World.block_lt_of_cell? _ _ o1
      have hbs : Bs < wr.heap.size := World.block_lt_of_cell? _ _ x0
      clear hc e1 e2 hrb hdl hk0
      rw [t0]
      go_upto_region 5 with (fail)
      go_region
      go_wp2_with fail
      have HST := Lib.hid (show (wr.setCell ⟨Br, m, none⟩ (.int .i64 (R1 + W * C))).ownsRow Br 3 1 (.slice (some ⟨Br, 0, none⟩) (L.length + 1) (L.length + 1)) (L.length + 1) (nflat (restV L m)) by
        rw [← restV_step (show m < L.length by omega), HD.out, show W * C + R1 = R1 + W * C by omega, ← nflat_set]; exact (HR.out.stored m _).1)
      have z0 : (wr.setCell ⟨Br, m, none⟩ (.int .i64 (R1 + W * C))).cell? ⟨Bs, 0, none⟩ = some (.slice (some ⟨b, off, none⟩) L.length cap) := (World.cell?_setCell_far _ _ _ _ (by show Br ≠ Bs; omega)).trans x0
      have z1 : (wr.setCell ⟨Br, m, none⟩ (.int .i64 (R1 + W * C))).cell? ⟨Bs, 1, none⟩ = some (.slice (some ⟨Br, 0, none⟩) (L.length + 1) (L.length + 1)) := (World.cell?_setCell_far _ _ _ _ (by show Br ≠ Bs; omega)).trans x1
      go_roundw
      case rel => exact ⟨m, by omega, by go_num, (hB.setCell (show Br ≤ (⟨Br, m, none⟩ : Addr).block from Nat.le_refl _) _).drew, z0, z1, Lib.hid HST.out.drew⟩
      case measure => simp [intOf]
end Go.Proofs.YtfkmnneieglolaaGreatDoor
