/-
  THE WALK of the laws' own helper example (layer 46).
-/
import Derived.Test.YtfllfabinfmogaaApp
import Derived.BigQuiet
import Derived.Deep.RegionWith
import Derived.Deep.DeepCutAuto
import Derived.Deep.RegionHeld3
namespace Go.Proofs.Ytfllfabinfmogaa
open Go.RowKit Go.Shelf
attribute [local go_sem] Oper.semAt_some
def exH : HoldR := ⟨⟨#[]⟩, 0, 1, 1⟩
def exL (k : Nat) : List HoldR := List.replicate k exH
theorem exL_next (k : Nat) : hflat (exL k) ++ [.string ⟨#[]⟩, .int .i64 0, .int .i64 1, .int .i64 1] = hflat (exL (k + 1)) := by
  unfold exL
  rw [List.replicate_succ', hflat_snoc]
  rfl
theorem hold_info : (Try.prog.info? 78).map (fun i => (i.zero, i.size, i.bytes)) = some (some (.agg #[.string ⟨#[]⟩, .int .i64 0, .int .i64 0, .int .i64 0]), 4, 40) := by kernel_rfl
set_option maxHeartbeats 1000000 in
theorem one_any (w : World) : Calls Try.prog 38 #[] w fun e w' => e = .returned (.agg #[.int .i64 1, .int .i64 1]) ∧ Below w.heap.size w w' := by
  go_enter Try.func38, Try.ntmps38
  go_wp2_with fail
  refine bodyPost_ret (v := .agg #[.int .i64 1, .int .i64 1]) (by simp [results, Try.results38, go_sem]) rfl ⟨rfl, ?_⟩
  exact below_new _ _
theorem holdcells_new (W : World) (l : List Value) (t : TypeId) : ∀ j u, l[j]? = some u → (W.alloc (.cells l.toArray t)).cell? ((⟨W.heap.size, 0, none⟩ : Addr).add j) = some u := fun j u h => by
  rw [Go.WideShapes.add_plain, Nat.zero_add]
  rw [cell_of_row _ W.heap.size j l.toArray t (0, 0) (heap_alloc_new _ _)]
  simpa using h
/-- The two blocks of the walk: the result's, and the local rope's with its slice. -/
def ExSt (B : Nat) (wr : World) (v : Value) : Prop :=
  (wr.cell? ⟨B, 0, none⟩ = some (.string ⟨#[]⟩) ∧ wr.cell? ⟨B, 1, none⟩ = some (.slice none 0 0) ∧ wr.cell? ⟨B, 2, none⟩ = some (.bool false)) ∧ (wr.cell? ⟨B + 1, 0, none⟩ = some (.string ⟨#[114]⟩) ∧ wr.cell? ⟨B + 1, 1, none⟩ = some v ∧ wr.cell? ⟨B + 1, 2, none⟩ = some (.bool false)) ∧ (∀ o, wr.frozen? ⟨B, o, none⟩ = false) ∧ (∀ o, wr.frozen? ⟨B + 1, o, none⟩ = false)
theorem ExSt.keep {B n₀ : Nat} {wr w' : World} {v : Value} (h : ExSt B wr v) (hb : Below n₀ wr w') (hn : B + 2 ≤ n₀) : ExSt B w' v := by
  obtain ⟨⟨a0, a1, a2⟩, ⟨b0, b1, b2⟩, f0, f1⟩ := h
  exact ⟨⟨(hb.cell (p := ⟨B, _, none⟩) (by show B < n₀; omega)).trans a0, (hb.cell (p := ⟨B, _, none⟩) (by show B < n₀; omega)).trans a1, (hb.cell (p := ⟨B, _, none⟩) (by show B < n₀; omega)).trans a2⟩,
    ⟨(hb.cell (p := ⟨B + 1, _, none⟩) (by show B + 1 < n₀; omega)).trans b0, (hb.cell (p := ⟨B + 1, _, none⟩) (by show B + 1 < n₀; omega)).trans b1, (hb.cell (p := ⟨B + 1, _, none⟩) (by show B + 1 < n₀; omega)).trans b2⟩,
    fun o => (hb.frozen (p := ⟨B, o, none⟩) (by show B < n₀; omega)).trans (f0 o), fun o => (hb.frozen (p := ⟨B + 1, o, none⟩) (by show B + 1 < n₀; omega)).trans (f1 o)⟩
theorem ExSt.set {B : Nat} {wr : World} {v : Value} (h : ExSt B wr v) (u : Value) : ExSt B (wr.setCell ⟨B + 1, 1, none⟩ u) u := by
  obtain ⟨⟨a0, a1, a2⟩, ⟨b0, b1, b2⟩, f0, f1⟩ := h
  refine ⟨⟨?_, ?_, ?_⟩, ⟨?_, ?_, ?_⟩, fun o => (World.frozen?_setCell _ _ _ _).trans (f0 o), fun o => (World.frozen?_setCell _ _ _ _).trans (f1 o)⟩
  all_goals simp [go_sem, *]
theorem ExSt.start (w : World) : ExSt w.heap.size ((w.alloc (.cells #[.string ⟨#[]⟩, .slice none 0 0, .bool false] 24)).alloc (.cells #[.string ⟨#[114]⟩, .slice none 0 0, .bool false] 24)) (.slice none 0 0) := by
  refine ⟨⟨?_, ?_, ?_⟩, ⟨?_, ?_, ?_⟩, fun o => ?_, fun o => ?_⟩
  all_goals simp [go_sem]
set_option maxRecDepth 100000 in
set_option maxHeartbeats 8000000 in
theorem example_any (w : World) : Calls Try.prog 27 #[] w fun e w' => Hid (∃ a cap, e = .returned (.agg #[.string ⟨#[114]⟩, .slice a 5 cap, .bool false]) ∧ Holds w'.heap.size w' a (exL 5)) ∧ Below w.heap.size w w' := by
  obtain ⟨i0, hi, hz0, hz1, hz2⟩ := info_parts hold_info
  go_enter Try.func27, Try.ntmps27
  go_upto_region 2 with (fail)
  have HS := Lib.hid (ExSt.start w)
  have hb := (below_new w (.cells #[.string ⟨#[]⟩, .slice none 0 0, .bool false] 24)).alloc (by simp) (.cells #[.string ⟨#[114]⟩, .slice none 0 0, .bool false] 24)
  have hsz : ((w.alloc (.cells #[.string ⟨#[]⟩, .slice none 0 0, .bool false] 24)).alloc (.cells #[.string ⟨#[114]⟩, .slice none 0 0, .bool false] 24)).heap.size = w.heap.size + 2 := by simp
  generalize (w.alloc (.cells #[.string ⟨#[]⟩, .slice none 0 0, .bool false] 24)).alloc (.cells #[.string ⟨#[114]⟩, .slice none 0 0, .bool false] 24) = W0 at *
  obtain ⟨B, hB⟩ : ∃ B, w.heap.size = B := ⟨_, rfl⟩
  rw [hB] at HS hb hsz
  simp only [hB]
  go_wp2_with fail
  go_loopw [3] (fun i wr => ∃ k : Nat, k ≤ 5 ∧ i = .int .i64 k ∧ Below B w wr ∧ B + 2 ≤ wr.heap.size ∧ Hid (∃ v, ExSt B wr v ∧ wr.ownsRow (B + 2) 78 4 v k (hflat (exL k)))) (fun i _ => 5 - (intOf i).toNat)
  case atStart => exact ⟨0, by omega, rfl, hb, by omega, Lib.hid ⟨_, HS.out, ⟨rfl, .inl ⟨rfl, rfl⟩⟩⟩⟩
  case round =>
    obtain ⟨k, hk, rfl, hBw, hz, hH⟩ := hrel
    obtain ⟨v, hE, hO⟩ := hH.out
    clear hH HS hb
    by_cases hlt : k < 5
    · have HE := Lib.hid hE
      have HO := Lib.hid hO
      clear hE hO
      go_upto_region 4 with (fail)
      have x0 : wr.cell? ⟨B + 1, 1, none⟩ = some v := HE.out.2.1.2.1
      go_region_law (first
        | (go_simp; go_at_call 38; (with_reducible refine (one_any _).mono ?_); rintro e yy ⟨rfl, hyy⟩; have hY : Below wr.heap.size wr yy := (Below.refl _ _).drew.trans hyy; have x1 : yy.cell? ⟨B + 1, 1, none⟩ = some v := (HE.out.keep hY hz).2.1.2.1; have x2 : ∀ o, (yy.alloc o).cell? ⟨B + 1, 1, none⟩ = some v := fun o => (HE.out.keep (hY.alloc hY.size o) hz).2.1.2.1; have ho := ownsRow_below HO.out hY; clear hyy)
        | (refine step_append_lies _ rfl (.tmp 6) (.tmp 9) 22 rfl (B + 2) 78 i0 (.agg #[.string ⟨#[]⟩, .int .i64 0, .int .i64 0, .int .i64 0]) 4 40 Try.underlying22 hi hz0 hz1 hz2 rfl (by decide) v k (hflat (exL k)) ?_ ?_ ⟨yy.heap.size, 0, none⟩ 1 1 [.string ⟨#[]⟩, .int .i64 0, .int .i64 1, .int .i64 1] ?_ rfl ?_ ?_ ?_ ?_ ?_ ?_ _ rfl ?_; (next => simp [Act.eval]); (next => exact ho.alloc _); (next => simp [Act.eval]); (next => exact holdcells_new _ _ _); (next => simp [Value.oneCell']); (next => omega); (next => unfold maxLen; omega); (next => omega); (next => have := hY.size; simp <;> omega); intro g5 cap5 w5 hown5 hgrow5 hin5 hg5; have hG : Below (B + 2) wr w5 := ((hY.mono hz).alloc (by have := hY.size; omega) _).grown hgrow5 (by have := hY.size; simp; omega) (fun j e => (ho.lt j e).1); have hz5 : B + 2 ≤ w5.heap.size := Nat.le_trans hz hG.size; have x3 := (HE.out.keep hG (Nat.le_refl _)).2.1.2.1; have x4 := (HE.out.keep hG (Nat.le_refl _)).2.2.2 1; have HG := Lib.hid hG; clear hG))
      all_goals
        go_wp2_with fail
        go_roundw
      all_goals first
        | exact ⟨k + 1, by omega, by go_num, (hBw.trans (HG.out.mono (by omega))).setCell (by show B ≤ B + 1; omega) _, by simpa [World.setCell] using hz5, Lib.hid ⟨_, (HE.out.keep HG.out (Nat.le_refl _)).set _, by rw [← exL_next]; exact ownsRow_setCell_below hown5 (by show B + 1 < B + 2; omega) _⟩⟩
        | (simp [intOf]; omega)
    · obtain rfl : k = 5 := by omega
      have y0 := hE.1.1
      have y1 := hE.1.2.1
      have y2 := hE.1.2.2
      have y3 := hE.2.1.1
      have y4 := hE.2.1.2.1
      have y5 := hE.2.1.2.2
      have y6 := hE.2.2.1 0
      have y7 := hE.2.2.1 1
      have y8 := hE.2.2.1 2
      obtain ⟨a, cap, rfl, _, _, _, hL⟩ := hold_of_row hO
      rw [show (exL 5).length = 5 from rfl] at y4 hO
      have HO := Lib.hid hO
      clear hE hO hL
      go_wp2_with fail
      have e1 := ownsRow_setCell_below (ownsRow_setCell_below (ownsRow_setCell_below HO.out (a := ⟨B, 0, none⟩) (by show B < B + 2; omega) (.string ⟨#[114]⟩)) (a := ⟨B, 1, none⟩) (by show B < B + 2; omega) (.slice a 5 cap)) (a := ⟨B, 2, none⟩) (by show B < B + 2; omega) (.bool false)
      have hf := ((hBw.setCell (p := ⟨B, 0, none⟩) (Nat.le_refl _) (.string ⟨#[114]⟩)).setCell (p := ⟨B, 1, none⟩) (Nat.le_refl _) (.slice a 5 cap)).setCell (p := ⟨B, 2, none⟩) (Nat.le_refl _) (.bool false)
      obtain ⟨a', cap', e2, _, _, _, hL'⟩ := hold_of_row (L := exL 5) e1
      cases e2
      refine bodyPost_ret (v := .agg #[.string ⟨#[114]⟩, .slice a 5 cap, .bool false]) (by simp [results, Try.results27, go_sem, y0, y1, y2]) rfl ⟨Lib.hid ⟨a, cap, rfl, hL'⟩, ?_⟩
      rw [hB]
      exact hf
end Go.Proofs.Ytfllfabinfmogaa
