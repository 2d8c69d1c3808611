/-
  THE WALK of the laws' own helper example (layer 46).
  THE WALK of wear.Bends.
  THE WALKS of wear.places, Travel, Turns and of the reference's Places, Travel, Turns.
  THE WALKS of wear.Wear and wear.Left.
  THE WALK of wear.Left.
  PLAIN: the spots of spans on a rope: how often each place is covered.
  PLAIN: what the spots tell: each place is covered as often as its spot says; the lengths; the worst spot.
  PLAIN: a list of numbers, sorted.
  slices.Sort and slices.Compact at a row of numbers of the call's own.
  PLAIN: the sums of the changes are the covers.
  THE MAP of the changes, as it reads; the keys that were collected.
  THE WALK of wear.Spots.
  THE WALK of wear.Spots on a length or spans that are no good.
  THE WALK of the laws' own helper awake (layer 46): the chapter's examples hold.
  THE WALK of the law WearRuns.
  FROM A WALK TO A ROW: a law that answers true and turns nothing that was there meets its row's post: each argument reads behind the call as it read before. Over any row of this seat.
  OPENING A SLICE OF RECORDS that came in, whatever the record: its cells, one behind the other, are those of a list.
  ARGUMENTS THAT CAME IN: slices of numbers and of spans; a rope.
  ARGUMENTS THAT CAME IN: slices of numbers and of bricks.
  ARGUMENTS THAT CAME IN: a slice of items; a set.
  ARGUMENTS THAT CAME IN: slices of sets and of beams, a house.
  ARGUMENTS THAT CAME IN: slices of moves, of cues and of pairs; a sheet.
-/
import Derived.BigQuiet
import Derived.Deep.RegionWith
import Derived.Deep.DeepCutAuto
import Derived.Deep.RegionHeld3
import Derived.Test.YthldfijlcoobgaaGreatRows
import Derived.Sort.OwnSortedInts
import Derived.Lib.RowBridge
import Derived.Maps.OwnOps
import Derived.Maps.Views
import Derived.Maps.RangeWalk
import Derived.Deep.CutRange
import Derived.ProofKit
import Derived.OpenShut
import Derived.Below
import Derived.ChangeSame
import Derived.Carry
import Derived.RowKit
import Derived.Deep.Slices
import Derived.Deep.Fields
import Derived.WalkKit
import Derived.Lib.SmallJoins
import Derived.Test.YthldfijlcoobgaaGreatApp
import Derived.Test.YthldfijlcoobgaaGreatAlong
import Derived.Test.YthldfijlcoobgaaGreatMem
import Derived.Test.YthldfijlcoobgaaGreatShelf
import Derived.Test.YthldfijlcoobgaaGreatRat4
import Derived.Test.YthldfijlcoobgaaGreatHoldsRunsG28
import Derived.Test.YthldfijlcoobgaaGreatHApp
import Derived.Test.YthldfijlcoobgaaGreatSetM
import Derived.Test.YthldfijlcoobgaaGreatHoldsRunsG26
namespace Go.Proofs.YthldfijlcoobgaaGreat
open Go.RowKit Go.Shelf
attribute [local go_sem] Oper.semAt_some
def exH : HoldR := ⟨⟨#[]⟩, 0, 1, 1⟩
def exL (k : Nat) : List HoldR := List.replicate k exH
theorem exL_next (k : Nat) : hflat (exL k) ++ [.string ⟨#[]⟩, .int .i64 0, .int .i64 1, .int .i64 1] = hflat (exL (k + 1)) := by
  unfold exL
  rw [List.replicate_succ', hflat_snoc]
  rfl
theorem hold_info : (Tryz.prog.info? 79).map (fun i => (i.zero, i.size, i.bytes)) = some (some (.agg #[.string ⟨#[]⟩, .int .i64 0, .int .i64 0, .int .i64 0]), 4, 40) := by kernel_rfl
set_option maxHeartbeats 1000000 in
theorem one_any (w : World) : Calls Tryz.prog 27 #[] w fun e w' => e = .returned (.agg #[.int .i64 1, .int .i64 1]) ∧ Below w.heap.size w w' := by
  go_enter Tryz.func27, Tryz.ntmps27
  go_wp2_with fail
  refine bodyPost_ret (v := .agg #[.int .i64 1, .int .i64 1]) (by simp [results, Tryz.results27, go_sem]) rfl ⟨rfl, ?_⟩
  exact below_new _ _
theorem holdcells_new (W : World) (l : List Value) (t : TypeId) : ∀ j u, l[j]? = some u → (W.alloc (.cells l.toArray t)).cell? ((⟨W.heap.size, 0, none⟩ : Addr).add j) = some u := fun j u h => by
  rw [Go.WideShapes.add_plain, Nat.zero_add]
  rw [cell_of_row _ W.heap.size j l.toArray t (0, 0) (heap_alloc_new _ _)]
  simpa using h
/-- The two blocks of the walk: the result's, and the local rope's with its slice. -/
def ExSt (B : Nat) (wr : World) (v : Value) : Prop :=
  (wr.cell? ⟨B, 0, none⟩ = some (.string ⟨#[]⟩) ∧ wr.cell? ⟨B, 1, none⟩ = some (.slice none 0 0) ∧ wr.cell? ⟨B, 2, none⟩ = some (.bool false)) ∧ (wr.cell? ⟨B + 1, 0, none⟩ = some (.string ⟨#[114]⟩) ∧ wr.cell? ⟨B + 1, 1, none⟩ = some v ∧ wr.cell? ⟨B + 1, 2, none⟩ = some (.bool false)) ∧ (∀ o, wr.frozen? ⟨B, o, none⟩ = false) ∧ (∀ o, wr.frozen? ⟨B + 1, o, none⟩ = false)
theorem ExSt.keep {B n₀ : Nat} {wr w' : World} {v : Value} (h : ExSt B wr v) (hb : Below n₀ wr w') (hn : B + 2 ≤ n₀) : ExSt B w' v := by
  obtain ⟨⟨a0, a1, a2⟩, ⟨b0, b1, b2⟩, f0, f1⟩ := h
  exact ⟨⟨(hb.cell (p := ⟨B, _, none⟩) (by show B < n₀; omega)).trans a0, (hb.cell (p := ⟨B, _, none⟩) (by show B < n₀; omega)).trans a1, (hb.cell (p := ⟨B, _, none⟩) (by show B < n₀; omega)).trans a2⟩,
    ⟨(hb.cell (p := ⟨B + 1, _, none⟩) (by show B + 1 < n₀; omega)).trans b0, (hb.cell (p := ⟨B + 1, _, none⟩) (by show B + 1 < n₀; omega)).trans b1, (hb.cell (p := ⟨B + 1, _, none⟩) (by show B + 1 < n₀; omega)).trans b2⟩,
    fun o => (hb.frozen (p := ⟨B, o, none⟩) (by show B < n₀; omega)).trans (f0 o), fun o => (hb.frozen (p := ⟨B + 1, o, none⟩) (by show B + 1 < n₀; omega)).trans (f1 o)⟩
theorem ExSt.set {B : Nat} {wr : World} {v : Value} (h : ExSt B wr v) (u : Value) : ExSt B (wr.setCell ⟨B + 1, 1, none⟩ u) u := by
  obtain ⟨⟨a0, a1, a2⟩, ⟨b0, b1, b2⟩, f0, f1⟩ := h
  refine ⟨⟨?_, ?_, ?_⟩, ⟨?_, ?_, ?_⟩, fun o => (World.frozen?_setCell _ _ _ _).trans (f0 o), fun o => (World.frozen?_setCell _ _ _ _).trans (f1 o)⟩
  all_goals simp [go_sem, *]
theorem ExSt.start (w : World) : ExSt w.heap.size ((w.alloc (.cells #[.string ⟨#[]⟩, .slice none 0 0, .bool false] 43)).alloc (.cells #[.string ⟨#[114]⟩, .slice none 0 0, .bool false] 43)) (.slice none 0 0) := by
  refine ⟨⟨?_, ?_, ?_⟩, ⟨?_, ?_, ?_⟩, fun o => ?_, fun o => ?_⟩
  all_goals simp [go_sem]
set_option maxRecDepth 100000 in
set_option maxHeartbeats 8000000 in
theorem example_any (w : World) : Calls Tryz.prog 10 #[] w fun e w' => Hid (∃ a cap, e = .returned (.agg #[.string ⟨#[114]⟩, .slice a 5 cap, .bool false]) ∧ Holds w'.heap.size w' a (exL 5)) ∧ Below w.heap.size w w' := by
  obtain ⟨i0, hi, hz0, hz1, hz2⟩ := info_parts hold_info
  go_enter Tryz.func10, Tryz.ntmps10
  go_upto_region 2 with (fail)
  have HS := Lib.hid (ExSt.start w)
  have hb := (below_new w (.cells #[.string ⟨#[]⟩, .slice none 0 0, .bool false] 43)).alloc (by simp) (.cells #[.string ⟨#[114]⟩, .slice none 0 0, .bool false] 43)
  have hsz : ((w.alloc (.cells #[.string ⟨#[]⟩, .slice none 0 0, .bool false] 43)).alloc (.cells #[.string ⟨#[114]⟩, .slice none 0 0, .bool false] 43)).heap.size = w.heap.size + 2 := by simp
  generalize (w.alloc (.cells #[.string ⟨#[]⟩, .slice none 0 0, .bool false] 43)).alloc (.cells #[.string ⟨#[114]⟩, .slice none 0 0, .bool false] 43) = W0 at *
  obtain ⟨B, hB⟩ : ∃ B, w.heap.size = B := ⟨_, rfl⟩
  rw [hB] at HS hb hsz
  simp only [hB]
  go_wp2_with fail
  go_loopw [3] (fun i wr => ∃ k : Nat, k ≤ 5 ∧ i = .int .i64 k ∧ Below B w wr ∧ B + 2 ≤ wr.heap.size ∧ Hid (∃ v, ExSt B wr v ∧ wr.ownsRow (B + 2) 79 4 v k (hflat (exL k)))) (fun i _ => 5 - (intOf i).toNat)
  case atStart => exact ⟨0, by omega, rfl, hb, by omega, Lib.hid ⟨_, HS.out, ⟨rfl, .inl ⟨rfl, rfl⟩⟩⟩⟩
  case round =>
    obtain ⟨k, hk, rfl, hBw, hz, hH⟩ := hrel
    obtain ⟨v, hE, hO⟩ := hH.out
    clear hH HS hb
    by_cases hlt : k < 5
    · have HE := Lib.hid hE
      have HO := Lib.hid hO
      clear hE hO
      go_upto_region 4 with (fail)
      have x0 : wr.cell? ⟨B + 1, 1, none⟩ = some v := HE.out.2.1.2.1
      go_region_law (first
        | (go_simp; go_at_call 27; (with_reducible refine (one_any _).mono ?_); rintro e yy ⟨rfl, hyy⟩; have hY : Below wr.heap.size wr yy := (Below.refl _ _).drew.trans hyy; have x1 : yy.cell? ⟨B + 1, 1, none⟩ = some v := (HE.out.keep hY hz).2.1.2.1; have x2 : ∀ o, (yy.alloc o).cell? ⟨B + 1, 1, none⟩ = some v := fun o => (HE.out.keep (hY.alloc hY.size o) hz).2.1.2.1; have ho := ownsRow_below HO.out hY; clear hyy)
        | (refine step_append_lies _ rfl (.tmp 6) (.tmp 9) 41 rfl (B + 2) 79 i0 (.agg #[.string ⟨#[]⟩, .int .i64 0, .int .i64 0, .int .i64 0]) 4 40 Tryz.underlying41 hi hz0 hz1 hz2 rfl (by decide) v k (hflat (exL k)) ?_ ?_ ⟨yy.heap.size, 0, none⟩ 1 1 [.string ⟨#[]⟩, .int .i64 0, .int .i64 1, .int .i64 1] ?_ rfl ?_ ?_ ?_ ?_ ?_ ?_ _ rfl ?_; (next => simp [Act.eval]); (next => exact ho.alloc _); (next => simp [Act.eval]); (next => exact holdcells_new _ _ _); (next => simp [Value.oneCell']); (next => omega); (next => unfold maxLen; omega); (next => omega); (next => have := hY.size; simp <;> omega); intro g5 cap5 w5 hown5 hgrow5 hin5 hg5; have hG : Below (B + 2) wr w5 := ((hY.mono hz).alloc (by have := hY.size; omega) _).grown hgrow5 (by have := hY.size; simp; omega) (fun j e => (ho.lt j e).1); have hz5 : B + 2 ≤ w5.heap.size := Nat.le_trans hz hG.size; have x3 := (HE.out.keep hG (Nat.le_refl _)).2.1.2.1; have x4 := (HE.out.keep hG (Nat.le_refl _)).2.2.2 1; have HG := Lib.hid hG; clear hG))
      all_goals
        go_wp2_with fail
        go_roundw
      all_goals first
        | exact ⟨k + 1, by omega, by go_num, (hBw.trans (HG.out.mono (by omega))).setCell (by show B ≤ B + 1; omega) _, by simpa [World.setCell] using hz5, Lib.hid ⟨_, (HE.out.keep HG.out (Nat.le_refl _)).set _, by rw [← exL_next]; exact ownsRow_setCell_below hown5 (by show B + 1 < B + 2; omega) _⟩⟩
        | (simp [intOf]; omega)
    · obtain rfl : k = 5 := by omega
      have y0 := hE.1.1
      have y1 := hE.1.2.1
      have y2 := hE.1.2.2
      have y3 := hE.2.1.1
      have y4 := hE.2.1.2.1
      have y5 := hE.2.1.2.2
      have y6 := hE.2.2.1 0
      have y7 := hE.2.2.1 1
      have y8 := hE.2.2.1 2
      obtain ⟨a, cap, rfl, _, _, _, hL⟩ := hold_of_row hO
      rw [show (exL 5).length = 5 from rfl] at y4 hO
      have HO := Lib.hid hO
      clear hE hO hL
      go_wp2_with fail
      have e1 := ownsRow_setCell_below (ownsRow_setCell_below (ownsRow_setCell_below HO.out (a := ⟨B, 0, none⟩) (by show B < B + 2; omega) (.string ⟨#[114]⟩)) (a := ⟨B, 1, none⟩) (by show B < B + 2; omega) (.slice a 5 cap)) (a := ⟨B, 2, none⟩) (by show B < B + 2; omega) (.bool false)
      have hf := ((hBw.setCell (p := ⟨B, 0, none⟩) (Nat.le_refl _) (.string ⟨#[114]⟩)).setCell (p := ⟨B, 1, none⟩) (Nat.le_refl _) (.slice a 5 cap)).setCell (p := ⟨B, 2, none⟩) (Nat.le_refl _) (.bool false)
      obtain ⟨a', cap', e2, _, _, _, hL'⟩ := hold_of_row (L := exL 5) e1
      cases e2
      refine bodyPost_ret (v := .agg #[.string ⟨#[114]⟩, .slice a 5 cap, .bool false]) (by simp [results, Tryz.results10, go_sem, y0, y1, y2]) rfl ⟨Lib.hid ⟨a, cap, rfl, hL'⟩, ?_⟩
      rw [hB]
      exact hf
end Go.Proofs.YthldfijlcoobgaaGreat
namespace Go.Proofs.YthldfijlcoobgaaGreat
open Go.RowKit Go.Shelf
theorem bends_any (nm : ByteArray) (a : Option Addr) (L : List HoldR) (cap : Nat) (hd : Bool) (w : World) (hl : L.length ≤ 1000000) (h : Holds w.heap.size w a L) :
    Calls Tryz.prog 25 #[.agg #[.string nm, .slice a L.length cap, .bool hd]] w fun e w' => e = .returned (.tuple #[.int .i64 (if ropeB L then (L.length : Int) - 2 else 0), .int .i64 (if ropeB L then 0 else 1)]) ∧ Below w.heap.size w w' := by
  have HS := Lib.hid h
  have s1 : IntKind.i64.wrap ((L.length : Int) - 2) = (L.length : Int) - 2 := IntWalk.i64_in _ (by omega)
  clear h
  have hW0 := below_new w (.cells #[.string nm, .slice a L.length cap, .bool hd] 43)
  obtain ⟨b, hb⟩ : ∃ b, ropeB L = b := ⟨_, rfl⟩
  have HB := Lib.hid hb
  rw [hb]
  clear hb
  have HC : Hid (Calls Tryz.prog 42 #[.agg #[.string nm, .slice a L.length cap, .bool hd], .bool true] (w.alloc (.cells #[.string nm, .slice a L.length cap, .bool hd] 43)) fun e w' => Hid (∃ v, e = .returned (.tuple #[v, .int .i64 (if b then 0 else 1)])) ∧ Below w.heap.size w w' ∧ w'.cell? ⟨w.heap.size, 1, none⟩ = some (.slice a L.length cap)) := Lib.hid (by
    refine (along_any nm a L cap hd _ hl ((HS.out.below hW0).mono hW0.size)).mono ?_
    rintro e w1 ⟨hv, hb1⟩
    rw [HB.out] at hv
    exact ⟨hv, hW0.trans (hb1.mono hW0.size), (hb1.cell (p := ⟨w.heap.size, 1, none⟩) (by simp)).trans (by simp)⟩)
  clear hW0 HB HS
  cases b
  · simp only [Bool.false_eq_true, if_false] at HC ⊢
    go_enter Tryz.func25, Tryz.ntmps25
    go_wp2_with (go_at_call 42; (with_reducible refine (HC.out).mono ?_); rintro e w1 ⟨hv, hb1, c1⟩; obtain ⟨v, rfl⟩ := hv.out)
    go_ret2
    exact ⟨rfl, hb1⟩
  · simp only [if_true] at HC ⊢
    go_enter Tryz.func25, Tryz.ntmps25
    go_wp2_with (go_at_call 42; (with_reducible refine (HC.out).mono ?_); rintro e w1 ⟨hv, hb1, c1⟩; obtain ⟨v, rfl⟩ := hv.out)
    go_ret2
    exact ⟨rfl, hb1⟩
end Go.Proofs.YthldfijlcoobgaaGreat
namespace Go.Proofs.YthldfijlcoobgaaGreat
open Go.RowKit Go.Shelf

def placeBad (n : Int) : Bool := decide (n < 0) || decide (1048576 < n)
set_option maxHeartbeats 1000000 in
theorem asks_placeBad (n₀ : Nat) (w : World) : AsksN 44 #[] n₀ w placeBad := by
  intro W r hB
  show Calls _ _ #[numV r] _ _
  unfold numV
  have key : ∀ b1 b2 : Bool, decide (r < 0) = b1 → decide (1048576 < r) = b2 → Hid (placeBad r = (b1 || b2)) := fun b1 b2 h1 h2 => Lib.hid (by unfold placeBad; rw [h1, h2])
  by_cases a1 : r < 0
  · have H := key _ _ (decide_eq_true a1) rfl
    clear key
    go_enter Tryz.func44, Tryz.ntmps44
    go_wp2
    go_ret
    exact ⟨ret_bool (by rw [H.out]; simp), Below.refl _ _⟩
  · have H := key _ _ (decide_eq_false a1) rfl
    clear key
    go_enter Tryz.func44, Tryz.ntmps44
    go_wp2
    go_ret
    exact ⟨ret_bool (by rw [H.out]; simp), Below.refl _ _⟩
theorem ent_placeBad (args : Array Value) (w : World) : (callFunc 44 args).run Tryz.prog w = .ok (.enter 44 args) w := enters_of Tryz.func44 (by kernel_rfl) rfl args w

/-- What is wrong with places. -/
def placesE (L : List Int) : Int := if 1000 < L.length then 4 else if L.any placeBad then 2 else 0
theorem places_ok {L : List Int} (h : placesE L = 0) : L.length ≤ 1000 ∧ ∀ k, k < L.length → 0 ≤ ig L k ∧ ig L k ≤ 1048576 := by
  unfold placesE at h
  split at h
  · cases h
  · split at h
    · cases h
    · rename_i h1 h2
      refine ⟨by omega, fun k hk => ?_⟩
      have := List.any_eq_false.1 (Bool.eq_false_iff.2 h2) (ig L k) (by rw [ig_eq L k hk]; exact List.getElem_mem hk)
      unfold placeBad at this
      simp at this
      omega
set_option maxHeartbeats 4000000 in
theorem places_any (a : Option Addr) (L : List Int) (cap : Nat) (w : World) (hl : L.length ≤ 1000000) (h : Nums w.heap.size w a L) :
    Calls Tryz.prog 28 #[.slice a L.length cap] w fun e w' => e = .returned (.int .i64 (placesE L)) ∧ Below w.heap.size w w' := by
  have HS := Lib.hid h
  clear h
  by_cases hn : 1000 < L.length
  · have HR : Hid (placesE L = 4) := Lib.hid (by unfold placesE; rw [if_pos hn])
    rw [HR.out]
    have hn' : (1000 : Int) < L.length := by omega
    go_enter Tryz.func28, Tryz.ntmps28
    go_wp2_with fail
    go_ret
    exact ⟨rfl, Below.refl _ _⟩
  · cases hs : L.any placeBad
    · have HR : Hid (placesE L = 0) := Lib.hid (by unfold placesE; rw [if_neg hn, hs]; rfl)
      have HAN : Hid (num_any L placeBad = false) := Lib.hid (by rw [num_any_eq]; exact hs)
      rw [HR.out]
      clear hs
      go_enter Tryz.func28, Tryz.ntmps28
      go_wp2_with (go_at_call 43; (with_reducible refine (num_containsFunc _ L _ _ _ _ placeBad _ ent_placeBad (by omega) (Nat.le_refl _) HS.out (asks_placeBad _ _)).mono ?_); rintro e w2 ⟨rfl, hb2⟩; rw [HAN.out])
      go_ret
      exact ⟨rfl, hb2⟩
    · have HR : Hid (placesE L = 2) := Lib.hid (by unfold placesE; rw [if_neg hn, hs]; rfl)
      have HAN : Hid (num_any L placeBad = true) := Lib.hid (by rw [num_any_eq]; exact hs)
      rw [HR.out]
      clear hs
      go_enter Tryz.func28, Tryz.ntmps28
      go_wp2_with (go_at_call 43; (with_reducible refine (num_containsFunc _ L _ _ _ _ placeBad _ ent_placeBad (by omega) (Nat.le_refl _) HS.out (asks_placeBad _ _)).mono ?_); rintro e w2 ⟨rfl, hb2⟩; rw [HAN.out])
      go_ret
      exact ⟨rfl, hb2⟩

theorem max_if (a b : Int) : max a b = if a < b then b else a := by rw [Int.max_def]; split <;> split <;> omega
/-- The travel of the first places; how they turn: the last direction, and the count. -/
def travelTo (L : List Int) : Nat → Int
  | 0 => 0
  | k + 1 => travelTo L k + max (ig L (k + 1) - ig L k) (ig L k - ig L (k + 1))
def turnStep (s : Int × Int) (a b : Int) : Int × Int :=
  if a < b then (1, if s.1 ≠ 0 ∧ s.1 ≠ 1 then s.2 + 1 else s.2) else if b < a then (-1, if s.1 ≠ 0 ∧ s.1 ≠ -1 then s.2 + 1 else s.2) else s
def turnsTo (L : List Int) : Nat → Int × Int
  | 0 => (0, 0)
  | k + 1 => turnStep (turnsTo L k) (ig L k) (ig L (k + 1))
def travelP (L : List Int) : Int := travelTo L (L.length - 1)
def turnsP (L : List Int) : Int := (turnsTo L (L.length - 1)).2
theorem travel_bd {L : List Int} (h : ∀ k, k < L.length → 0 ≤ ig L k ∧ ig L k ≤ 1048576) (k : Nat) (hk : k < L.length ∨ k = 0) : 0 ≤ travelTo L k ∧ travelTo L k ≤ k * 1048576 := by
  induction k with
  | zero => simp [travelTo]
  | succ k ih =>
    have := ih (by omega)
    have a := h (k + 1) (by omega)
    have b := h k (by omega)
    simp only [travelTo]
    omega
theorem turns_bd (L : List Int) (k : Nat) : 0 ≤ (turnsTo L k).2 ∧ (turnsTo L k).2 ≤ k ∧ ((turnsTo L k).1 = 0 ∨ (turnsTo L k).1 = 1 ∨ (turnsTo L k).1 = -1) := by
  induction k with
  | zero => simp [turnsTo]
  | succ k ih =>
    simp only [turnsTo, turnStep]
    split
    · split <;> simp <;> omega
    · split
      · split <;> simp <;> omega
      · omega
set_option maxRecDepth 100000 in
set_option maxHeartbeats 8000000 in
theorem travel_any (a : Option Addr) (L : List Int) (cap : Nat) (w : World) (hl : L.length ≤ 1000000) (h : Nums w.heap.size w a L) :
    Calls Tryz.prog 26 #[.slice a L.length cap] w fun e w' => e = .returned (.tuple #[.int .i64 (if placesE L = 0 then travelP L else 0), .int .i64 (placesE L)]) ∧ Below w.heap.size w w' := by
  have HS := Lib.hid h
  have HPl := Lib.hid (places_any a L cap w hl h)
  clear h
  obtain ⟨g, hg⟩ : ∃ g, placesE L = g := ⟨_, rfl⟩
  rw [hg]
  rw [hg] at HPl
  by_cases h0 : g = 0
  · subst h0
    obtain ⟨hL, hB⟩ := places_ok hg
    have HB := Lib.hid hB
    rw [if_pos rfl]
    clear hg hB
    go_enter Tryz.func26, Tryz.ntmps26
    go_wp2_with (go_at_call 28; (with_reducible refine HPl.out.mono ?_); rintro e w1 ⟨rfl, hb1⟩)
    go_loopw [5, 6] (fun s i wr => ∃ k : Nat, (k + 1 ≤ L.length ∨ k = 0) ∧ i = .int .i64 (↑k + 1) ∧ s = .int .i64 (travelTo L k) ∧ Below w.heap.size w wr) (fun _ i _ => L.length - (intOf i).toNat)
    case atStart => exact ⟨0, .inr rfl, rfl, rfl, hb1⟩
    case round =>
      obtain ⟨k, hk, rfl, rfl, hC⟩ := hrel
      by_cases hlt : k + 1 < L.length
      · obtain ⟨b, off, rfl, hb, hc⟩ := HS.out (by omega)
        have d0 := (hC.cell (p := ⟨b, off + k, none⟩) hb).trans (hc k (by omega))
        have d1 := (hC.cell (p := ⟨b, off + (k + 1), none⟩) hb).trans (hc (k + 1) hlt)
        have t0 := travel_bd HB.out k (by omega)
        have x0 := HB.out k (by omega)
        have x1 := HB.out (k + 1) hlt
        obtain ⟨x, hx⟩ : ∃ x, ig L k = x := ⟨_, rfl⟩
        obtain ⟨y, hy⟩ : ∃ y, ig L (k + 1) = y := ⟨_, rfl⟩
        have HT : Hid (travelTo L (k + 1) = travelTo L k + max (y - x) (x - y)) := Lib.hid (by simp only [travelTo, hx, hy])
        rw [hx] at d0 x0
        rw [hy] at d1 x1
        obtain ⟨T, hT⟩ : ∃ T, travelTo L k = T := ⟨_, rfl⟩
        rw [hT] at t0 HT ⊢
        clear hc hx hy hT
        have s1 : IntKind.i64.wrap ((k : Int) + 1 - 1) = (k : Int) := by rw [IntWalk.i64_in _ (by omega)]; omega
        have s2 : IntKind.i64.wrap (y - x) = y - x := IntWalk.i64_in _ (by omega)
        have s3 : IntKind.i64.wrap (x - y) = x - y := IntWalk.i64_in _ (by omega)
        have s4 : IntKind.i64.wrap (T + max (y - x) (x - y)) = T + max (y - x) (x - y) := IntWalk.i64_in _ (by omega)
        have s5 : ((k : Int) + 1).toNat = k + 1 := by omega
        go_wp2_with fail
        go_quiet (fail)
        clear s1 s2 s3 s4 s5
        go_wp2
        go_roundw
        case rel => exact ⟨k + 1, .inl (by omega), by go_num, by rw [HT.out, max_if], below_drewN hC _⟩
        case measure => simp [intOf]; omega
      · have hT : travelTo L k = travelP L := by
          unfold travelP
          rcases hk with h | h
          · rw [show L.length - 1 = k by omega]
          · rw [show L.length - 1 = k by omega]
        rw [hT]
        clear hT
        go_wp2_with fail
        go_ret2
        exact ⟨rfl, hC⟩
  · rw [if_neg h0]
    have h1 : (g == 0) = false := by simpa using h0
    have h2 : (g != 0) = true := by simpa using h0
    clear hg h0
    go_enter Tryz.func26, Tryz.ntmps26
    go_wp2_with (go_at_call 28; (with_reducible refine HPl.out.mono ?_); rintro e w1 ⟨rfl, hb1⟩)
    go_ret2
    exact ⟨rfl, hb1⟩

set_option maxRecDepth 100000 in
set_option maxHeartbeats 8000000 in
theorem turns_any (a : Option Addr) (L : List Int) (cap : Nat) (w : World) (hl : L.length ≤ 1000000) (h : Nums w.heap.size w a L) :
    Calls Tryz.prog 11 #[.slice a L.length cap] w fun e w' => e = .returned (.tuple #[.int .i64 (if placesE L = 0 then turnsP L else 0), .int .i64 (placesE L)]) ∧ Below w.heap.size w w' := by
  have HS := Lib.hid h
  have HPl := Lib.hid (places_any a L cap w hl h)
  clear h
  obtain ⟨g, hg⟩ : ∃ g, placesE L = g := ⟨_, rfl⟩
  rw [hg]
  rw [hg] at HPl
  by_cases h0 : g = 0
  · subst h0
    obtain ⟨hL, hB⟩ := places_ok hg
    have HB := Lib.hid hB
    rw [if_pos rfl]
    clear hg hB
    go_enter Tryz.func11, Tryz.ntmps11
    go_wp2_with (go_at_call 28; (with_reducible refine HPl.out.mono ?_); rintro e w1 ⟨rfl, hb1⟩)
    go_loopw [5, 6, 7] (fun la c i wr => ∃ k : Nat, (k + 1 ≤ L.length ∨ k = 0) ∧ i = .int .i64 (↑k + 1) ∧ la = .int .i64 (turnsTo L k).1 ∧ c = .int .i64 (turnsTo L k).2 ∧ Below w.heap.size w wr) (fun _ _ i _ => L.length - (intOf i).toNat)
    case atStart => exact ⟨0, .inr rfl, rfl, rfl, rfl, hb1⟩
    case round =>
      obtain ⟨k, hk, rfl, rfl, rfl, hC⟩ := hrel
      by_cases hlt : k + 1 < L.length
      · obtain ⟨b, off, rfl, hb, hc⟩ := HS.out (by omega)
        have d0 := (hC.cell (p := ⟨b, off + k, none⟩) hb).trans (hc k (by omega))
        have d1 := (hC.cell (p := ⟨b, off + (k + 1), none⟩) hb).trans (hc (k + 1) hlt)
        have t0 := turns_bd L k
        obtain ⟨x, hx⟩ : ∃ x, ig L k = x := ⟨_, rfl⟩
        obtain ⟨y, hy⟩ : ∃ y, ig L (k + 1) = y := ⟨_, rfl⟩
        have HT : Hid (turnsTo L (k + 1) = turnStep (turnsTo L k) x y) := Lib.hid (by simp only [turnsTo, hx, hy])
        rw [hx] at d0
        rw [hy] at d1
        obtain ⟨⟨la, c⟩, hT⟩ : ∃ T, turnsTo L k = T := ⟨_, rfl⟩
        rw [hT] at t0 HT ⊢
        simp only at t0 ⊢
        obtain ⟨t1, t2, t3⟩ := t0
        clear hc hx hy hT
        have s1 : IntKind.i64.wrap ((k : Int) + 1 - 1) = (k : Int) := by rw [IntWalk.i64_in _ (by omega)]; omega
        have s2 : IntKind.i64.wrap (c + 1) = c + 1 := IntWalk.i64_in _ (by omega)
        have s5 : ((k : Int) + 1).toNat = k + 1 := by omega
        rcases (show y < x ∨ y = x ∨ x < y by omega) with q | q | q
        · have g1 : decide (x < y) = false := decide_eq_false (by omega)
          have g2 : decide (y < x) = true := decide_eq_true q
          rcases t3 with rfl | rfl | rfl
          · have HV : Hid (turnStep (0, c) x y = (-1, c)) := Lib.hid (by unfold turnStep; rw [if_neg (by omega), if_pos q]; simp)
            clear q
            go_wp2_with fail
            go_quiet (fail)
            go_wp2_with fail
            go_quiet (fail)
            go_wp2_with fail
            go_roundw
            case rel => exact ⟨k + 1, .inl (by omega), by go_num, by rw [HT.out, HV.out], by rw [HT.out, HV.out], by first | exact below_drewN hC _ | exact below_drewN (below_drewN hC _) _⟩
            case measure => simp [intOf]; omega
          · have HV : Hid (turnStep (1, c) x y = (-1, c + 1)) := Lib.hid (by unfold turnStep; rw [if_neg (by omega), if_pos q]; simp)
            clear q
            go_wp2_with fail
            go_quiet (fail)
            go_wp2_with fail
            go_quiet (fail)
            go_wp2_with fail
            go_roundw
            case rel => exact ⟨k + 1, .inl (by omega), by go_num, by rw [HT.out, HV.out], by rw [HT.out, HV.out], by first | exact below_drewN hC _ | exact below_drewN (below_drewN hC _) _⟩
            case measure => simp [intOf]; omega
          · have HV : Hid (turnStep (-1, c) x y = (-1, c)) := Lib.hid (by unfold turnStep; rw [if_neg (by omega), if_pos q]; simp)
            clear q
            go_wp2_with fail
            go_quiet (fail)
            go_wp2_with fail
            go_quiet (fail)
            go_wp2_with fail
            go_roundw
            case rel => exact ⟨k + 1, .inl (by omega), by go_num, by rw [HT.out, HV.out], by rw [HT.out, HV.out], by first | exact below_drewN hC _ | exact below_drewN (below_drewN hC _) _⟩
            case measure => simp [intOf]; omega
        · subst q
          rcases t3 with rfl | rfl | rfl
          · have HV : Hid (turnStep (0, c) y y = (0, c)) := Lib.hid (by unfold turnStep; rw [if_neg (by omega), if_neg (by omega)])
            go_wp2_with fail
            go_quiet (fail)
            go_wp2_with fail
            go_quiet (fail)
            go_wp2_with fail
            go_roundw
            case rel => exact ⟨k + 1, .inl (by omega), by go_num, by rw [HT.out, HV.out], by rw [HT.out, HV.out], by first | exact below_drewN hC _ | exact below_drewN (below_drewN hC _) _⟩
            case measure => simp [intOf]; omega
          · have HV : Hid (turnStep (1, c) y y = (1, c)) := Lib.hid (by unfold turnStep; rw [if_neg (by omega), if_neg (by omega)])
            go_wp2_with fail
            go_quiet (fail)
            go_wp2_with fail
            go_quiet (fail)
            go_wp2_with fail
            go_roundw
            case rel => exact ⟨k + 1, .inl (by omega), by go_num, by rw [HT.out, HV.out], by rw [HT.out, HV.out], by first | exact below_drewN hC _ | exact below_drewN (below_drewN hC _) _⟩
            case measure => simp [intOf]; omega
          · have HV : Hid (turnStep (-1, c) y y = (-1, c)) := Lib.hid (by unfold turnStep; rw [if_neg (by omega), if_neg (by omega)])
            go_wp2_with fail
            go_quiet (fail)
            go_wp2_with fail
            go_quiet (fail)
            go_wp2_with fail
            go_roundw
            case rel => exact ⟨k + 1, .inl (by omega), by go_num, by rw [HT.out, HV.out], by rw [HT.out, HV.out], by first | exact below_drewN hC _ | exact below_drewN (below_drewN hC _) _⟩
            case measure => simp [intOf]; omega
        · have g1 : decide (x < y) = true := decide_eq_true q
          rcases t3 with rfl | rfl | rfl
          · have HV : Hid (turnStep (0, c) x y = (1, c)) := Lib.hid (by unfold turnStep; rw [if_pos q]; simp)
            clear q
            go_wp2_with fail
            go_quiet (fail)
            go_wp2_with fail
            go_roundw
            case rel => exact ⟨k + 1, .inl (by omega), by go_num, by rw [HT.out, HV.out], by rw [HT.out, HV.out], by first | exact below_drewN hC _ | exact below_drewN (below_drewN hC _) _⟩
            case measure => simp [intOf]; omega
          · have HV : Hid (turnStep (1, c) x y = (1, c)) := Lib.hid (by unfold turnStep; rw [if_pos q]; simp)
            clear q
            go_wp2_with fail
            go_quiet (fail)
            go_wp2_with fail
            go_roundw
            case rel => exact ⟨k + 1, .inl (by omega), by go_num, by rw [HT.out, HV.out], by rw [HT.out, HV.out], by first | exact below_drewN hC _ | exact below_drewN (below_drewN hC _) _⟩
            case measure => simp [intOf]; omega
          · have HV : Hid (turnStep (-1, c) x y = (1, c + 1)) := Lib.hid (by unfold turnStep; rw [if_pos q]; simp)
            clear q
            go_wp2_with fail
            go_quiet (fail)
            go_wp2_with fail
            go_roundw
            case rel => exact ⟨k + 1, .inl (by omega), by go_num, by rw [HT.out, HV.out], by rw [HT.out, HV.out], by first | exact below_drewN hC _ | exact below_drewN (below_drewN hC _) _⟩
            case measure => simp [intOf]; omega
      · have hT : turnsTo L k = turnsTo L (L.length - 1) := by
          rcases hk with h | h
          · rw [show L.length - 1 = k by omega]
          · rw [show L.length - 1 = k by omega]
        rw [hT]
        clear hT
        go_wp2_with fail
        go_ret2
        exact ⟨rfl, hC⟩
  · rw [if_neg h0]
    have h1 : (g == 0) = false := by simpa using h0
    have h2 : (g != 0) = true := by simpa using h0
    clear hg h0
    go_enter Tryz.func11, Tryz.ntmps11
    go_wp2_with (go_at_call 28; (with_reducible refine HPl.out.mono ?_); rintro e w1 ⟨rfl, hb1⟩)
    go_ret2
    exact ⟨rfl, hb1⟩
end Go.Proofs.YthldfijlcoobgaaGreat
namespace Go.Proofs.YthldfijlcoobgaaGreat
open Go.RowKit Go.Shelf
def wearP (L : List HoldR) (M : List Int) : Int × Int := if ropeB L then (if placesE M = 0 then (wrap64 (((L.length : Int) - 2) * travelP M), 0) else (0, placesE M)) else (0, 1)
set_option maxHeartbeats 4000000 in
theorem wear_any (nm : ByteArray) (a : Option Addr) (L : List HoldR) (cap : Nat) (hd : Bool) (a2 : Option Addr) (M : List Int) (cap2 : Nat) (w : World) (hl : L.length ≤ 1000000) (hm : M.length ≤ 1000000) (h : Holds w.heap.size w a L) (h2 : Nums w.heap.size w a2 M) :
    Calls Tryz.prog 9 #[.agg #[.string nm, .slice a L.length cap, .bool hd], .slice a2 M.length cap2] w fun e w' => e = .returned (.tuple #[.int .i64 (wearP L M).1, .int .i64 (wearP L M).2]) ∧ Below w.heap.size w w' := by
  have hW0 := below_new w (.cells #[.string nm, .slice a L.length cap, .bool hd] 43)
  have HS := Lib.hid h
  have HN := Lib.hid h2
  clear h h2
  obtain ⟨P, hP⟩ : ∃ P, wearP L M = P := ⟨_, rfl⟩
  have HP := Lib.hid hP
  rw [hP]
  clear hP
  cases hb : ropeB L
  · have HB := Lib.hid hb
    obtain rfl : P = (0, 1) := by rw [← HP.out]; unfold wearP; rw [hb]; rfl
    clear hb HP
    go_enter Tryz.func9, Tryz.ntmps9
    go_wp2_with (go_at_call 25; (with_reducible refine (bends_any nm a L cap hd _ hl (HS.out.grow hW0)).mono ?_); rintro e w1 ⟨rfl, hb1⟩; rw [HB.out, if_neg Bool.false_ne_true, if_neg Bool.false_ne_true])
    go_ret2
    exact ⟨rfl, hW0.trans (hb1.mono hW0.size)⟩
  · have HB := Lib.hid hb
    by_cases hp : placesE M = 0
    · have HPl := Lib.hid hp
      obtain rfl : P = (wrap64 (((L.length : Int) - 2) * travelP M), 0) := by rw [← HP.out]; unfold wearP; rw [hb, if_pos rfl, if_pos hp]
      clear hb HP hp
      go_enter Tryz.func9, Tryz.ntmps9
      go_wp2_with (first
        | (go_at_call 25; (with_reducible refine (bends_any nm a L cap hd _ hl (HS.out.grow hW0)).mono ?_); rintro e w1 ⟨rfl, hb1⟩; rw [HB.out, if_pos rfl, if_pos rfl]; have hx := hW0.trans (hb1.mono hW0.size))
        | (go_at_call 26; (with_reducible refine (travel_any a2 M cap2 _ hm (HN.out.grow hx)).mono ?_); rintro e w2 ⟨rfl, hb2⟩; rw [HPl.out, if_pos rfl]))
      go_ret2
      exact ⟨rfl, hx.trans (hb2.mono hx.size)⟩
    · have HPl := Lib.hid hp
      obtain ⟨E, hE⟩ : ∃ E, placesE M = E := ⟨_, rfl⟩
      obtain rfl : P = (0, E) := by rw [← HP.out]; unfold wearP; rw [hb, if_pos rfl, if_neg hp, hE]
      have hne : (E != 0) = true := by rw [← hE]; simpa using hp
      have HE := Lib.hid hE
      clear hb HP hp hE
      go_enter Tryz.func9, Tryz.ntmps9
      go_wp2_with (first
        | (go_at_call 25; (with_reducible refine (bends_any nm a L cap hd _ hl (HS.out.grow hW0)).mono ?_); rintro e w1 ⟨rfl, hb1⟩; rw [HB.out, if_pos rfl, if_pos rfl]; have hx := hW0.trans (hb1.mono hW0.size))
        | (go_at_call 26; (with_reducible refine (travel_any a2 M cap2 _ hm (HN.out.grow hx)).mono ?_); rintro e w2 ⟨rfl, hb2⟩; rw [if_neg HPl.out, HE.out]))
      go_ret2
      exact ⟨rfl, hx.trans (hb2.mono hx.size)⟩
end Go.Proofs.YthldfijlcoobgaaGreat
namespace Go.Proofs.YthldfijlcoobgaaGreat
open Go.RowKit Go.Shelf
abbrev leftOK (x y : Int) : Prop := 0 ≤ x ∧ 0 ≤ y ∧ x ≤ 1152921504606846976 ∧ y ≤ 1152921504606846976
set_option maxHeartbeats 4000000 in
theorem left_any (x y : Int) (w : World) :
    Calls Tryz.prog 13 #[.int .i64 x, .int .i64 y] w fun e w' => e = .returned (.tuple #[.int .i64 (if leftOK x y then max 0 (y - x) else 0), .int .i64 (if leftOK x y then 0 else 2)]) ∧ Below w.heap.size w w' := by
  obtain ⟨A, hA⟩ : ∃ A, (if leftOK x y then max 0 (y - x) else 0) = A := ⟨_, rfl⟩
  obtain ⟨B, hB⟩ : ∃ B : Int, (if leftOK x y then 0 else 2) = B := ⟨_, rfl⟩
  rw [hA, hB]
  have HA := Lib.hid hA
  have HB := Lib.hid hB
  clear hA hB
  go_enter Tryz.func13, Tryz.ntmps13
  go_wp2_with fail
  all_goals go_ret2
  all_goals refine ⟨congrArg (fun p : Int × Int => Ending.returned (.tuple #[.int .i64 p.1, .int .i64 p.2])) (Prod.ext ?_ ?_ : ((_, _) : Int × Int) = (A, B)), Below.refl _ _⟩
  all_goals simp only
  all_goals (first | rw [← HA.out] | rw [← HB.out])
  all_goals unfold leftOK
  all_goals clear HA HB
  all_goals repeat' split at *
  all_goals omega
end Go.Proofs.YthldfijlcoobgaaGreat
namespace Go.Proofs.YthldfijlcoobgaaGreat

/-- How many spans cover a place. -/
def covB (x : Int) (s : Int × Int) : Bool := decide (s.1 ≤ x) && decide (x < s.2)
def cov (L : List (Int × Int)) (x : Int) : Int := ((L.filter (covB x)).length : Int)
/-- How many spans begin, and end, at a place. -/
def chg (L : List (Int × Int)) (x : Int) : Int := ((L.filter fun s => s.1 == x).length : Int) - ((L.filter fun s => s.2 == x).length : Int)
/-- Spans on a rope. -/
def SpansOK (len : Int) (L : List (Int × Int)) : Prop := ∀ s ∈ L, 0 ≤ s.1 ∧ s.1 < s.2 ∧ s.2 ≤ len
theorem cov_nil (x : Int) : cov [] x = 0 := rfl
theorem cov_snoc (L : List (Int × Int)) (s : Int × Int) (x : Int) : cov (L ++ [s]) x = cov L x + if covB x s then 1 else 0 := by
  unfold cov
  rw [List.filter_append]
  by_cases h : covB x s = true <;> simp [h]
theorem cov_cons (L : List (Int × Int)) (s : Int × Int) (x : Int) : cov (s :: L) x = cov L x + if covB x s then 1 else 0 := by
  unfold cov
  by_cases h : covB x s = true <;> simp [h]
theorem cov_nonneg (L : List (Int × Int)) (x : Int) : 0 ≤ cov L x := Int.natCast_nonneg _
theorem chg_snoc (L : List (Int × Int)) (s : Int × Int) (x : Int) : chg (L ++ [s]) x = chg L x + (if s.1 = x then 1 else 0) - (if s.2 = x then 1 else 0) := by
  unfold chg
  rw [List.filter_append, List.filter_append, List.length_append, List.length_append]
  by_cases h : s.1 = x <;> by_cases h' : s.2 = x <;> simp [h, h'] <;> omega

/-- The sorted list of all ends, and 0. -/
def insK (x : Int) : List Int → List Int
  | [] => [x]
  | y :: t => if x < y then x :: y :: t else if x = y then y :: t else y :: insK x t
theorem insK_mem (x z : Int) (K : List Int) : z ∈ insK x K ↔ z = x ∨ z ∈ K := by
  induction K with
  | nil => simp [insK]
  | cons y t ih =>
    unfold insK
    split
    · simp
    · split
      · rename_i h1 h2
        subst h2
        simp
      · simp only [List.mem_cons, ih]
        constructor
        · rintro (h | h | h)
          · exact .inr (.inl h)
          · exact .inl h
          · exact .inr (.inr h)
        · rintro (h | h | h)
          · exact .inr (.inl h)
          · exact .inl h
          · exact .inr (.inr h)
theorem insK_incr (x : Int) (K : List Int) (h : K.Pairwise (· < ·)) : (insK x K).Pairwise (· < ·) := by
  induction K with
  | nil => simp [insK]
  | cons y t ih =>
    unfold insK
    rw [List.pairwise_cons] at h
    split
    · rename_i h1
      rw [List.pairwise_cons]
      refine ⟨fun z hz => ?_, List.pairwise_cons.2 h⟩
      rcases List.mem_cons.1 hz with e | e
      · omega
      · have := h.1 z e; omega
    · split
      · exact List.pairwise_cons.2 h
      · rw [List.pairwise_cons]
        refine ⟨fun z hz => ?_, ih h.2⟩
        rcases (insK_mem x z t).1 hz with e | e
        · omega
        · exact h.1 z e
theorem insK_len (x : Int) (K : List Int) : (insK x K).length ≤ K.length + 1 := by
  induction K with
  | nil => simp [insK]
  | cons y t ih =>
    unfold insK
    split
    · simp
    · split
      · simp
      · simp only [List.length_cons]; omega
def keysF : List (Int × Int) → List Int
  | [] => [0]
  | s :: t => insK s.2 (insK s.1 (keysF t))
theorem keysF_mem (L : List (Int × Int)) (z : Int) : z ∈ keysF L ↔ z = 0 ∨ ∃ s ∈ L, s.1 = z ∨ s.2 = z := by
  induction L with
  | nil => simp [keysF]
  | cons s t ih =>
    simp only [keysF, insK_mem, ih, List.mem_cons]
    constructor
    · rintro (h | h | h | ⟨r, hr, h⟩)
      · exact .inr ⟨s, .inl rfl, .inr h.symm⟩
      · exact .inr ⟨s, .inl rfl, .inl h.symm⟩
      · exact .inl h
      · exact .inr ⟨r, .inr hr, h⟩
    · rintro (h | ⟨r, rfl | hr, h | h⟩)
      · exact .inr (.inr (.inl h))
      · exact .inr (.inl h.symm)
      · exact .inl h.symm
      · exact .inr (.inr (.inr ⟨r, hr, .inl h⟩))
      · exact .inr (.inr (.inr ⟨r, hr, .inr h⟩))
theorem keysF_incr (L : List (Int × Int)) : (keysF L).Pairwise (· < ·) := by
  induction L with
  | nil => simp [keysF]
  | cons s t ih => exact insK_incr _ _ (insK_incr _ _ ih)
theorem keysF_len (L : List (Int × Int)) : (keysF L).length ≤ 2 * L.length + 1 := by
  induction L with
  | nil => simp [keysF]
  | cons s t ih =>
    have a := insK_len s.2 (insK s.1 (keysF t))
    have b := insK_len s.1 (keysF t)
    simp only [keysF, List.length_cons]
    omega
/-- The places at which the cover may change, on the rope. -/
def keysP (len : Int) (L : List (Int × Int)) : List Int := (keysF L).filter fun x => decide (x < len)
theorem keysP_mem {len : Int} {L : List (Int × Int)} {z : Int} : z ∈ keysP len L ↔ (z = 0 ∨ ∃ s ∈ L, s.1 = z ∨ s.2 = z) ∧ z < len := by
  unfold keysP
  rw [List.mem_filter, keysF_mem]
  simp
theorem keysP_incr (len : Int) (L : List (Int × Int)) : (keysP len L).Pairwise (· < ·) := (keysF_incr L).filter _
theorem keysP_len (len : Int) (L : List (Int × Int)) : (keysP len L).length ≤ 2 * L.length + 1 := Nat.le_trans (List.length_filter_le _ _) (keysF_len L)

/-- Two strictly ascending lists with the same members are the same. -/
theorem incr_ext : ∀ {A B : List Int}, A.Pairwise (· < ·) → B.Pairwise (· < ·) → (∀ z, z ∈ A ↔ z ∈ B) → A = B
  | [], [], _, _, _ => rfl
  | [], b :: B, _, _, h => by have := (h b).2 (List.mem_cons_self ..); cases this
  | a :: A, [], _, _, h => by have := (h a).1 (List.mem_cons_self ..); cases this
  | a :: A, b :: B, hA, hB, h => by
    rw [List.pairwise_cons] at hA hB
    have e : a = b := by
      have h1 := (h a).1 (List.mem_cons_self ..)
      have h2 := (h b).2 (List.mem_cons_self ..)
      rcases List.mem_cons.1 h1 with e | e
      · exact e
      · rcases List.mem_cons.1 h2 with e' | e'
        · exact e'.symm
        · have := hB.1 a e; have := hA.1 b e'; omega
    subst e
    rw [incr_ext hA.2 hB.2]
    intro z
    constructor
    · intro hz
      rcases List.mem_cons.1 ((h z).1 (List.mem_cons_of_mem _ hz)) with e | e
      · have := hA.1 z hz; omega
      · exact e
    · intro hz
      rcases List.mem_cons.1 ((h z).2 (List.mem_cons_of_mem _ hz)) with e | e
      · have := hB.1 z hz; omega
      · exact e

/-- One more key: the spots so far. -/
def spotS (L : List (Int × Int)) (out : List (Int × Int)) (t : Int) : List (Int × Int) :=
  match out.getLast? with
  | none => [(t, cov L t)]
  | some p => if p.2 = cov L t then out else out ++ [(t, cov L t)]
def spotK (L : List (Int × Int)) (K : List Int) : List (Int × Int) := K.foldl (spotS L) []
theorem spotK_snoc (L : List (Int × Int)) (K : List Int) (t : Int) : spotK L (K ++ [t]) = spotS L (spotK L K) t := by simp [spotK]
def spotsP (len : Int) (L : List (Int × Int)) : List (Int × Int) := spotK L (keysP len L)
theorem spotS_len (L out : List (Int × Int)) (t : Int) : (spotS L out t).length ≤ out.length + 1 := by
  unfold spotS
  split
  · simp
  · split <;> simp
theorem spotK_len (L : List (Int × Int)) (K : List Int) : (spotK L K).length ≤ K.length := by
  unfold spotK
  suffices h : ∀ (K : List Int) (o : List (Int × Int)), (K.foldl (spotS L) o).length ≤ o.length + K.length by simpa using h K []
  intro K
  induction K with
  | nil => simp
  | cons t K ih =>
    intro o
    have a := ih (spotS L o t)
    have b := spotS_len L o t
    simp only [List.foldl_cons, List.length_cons]
    omega
end Go.Proofs.YthldfijlcoobgaaGreat
namespace Go.Proofs.YthldfijlcoobgaaGreat

/-- What holds of the spots of some ascending places. -/
def SpotInv (L : List (Int × Int)) (K : List Int) (S : List (Int × Int)) : Prop :=
  (∀ i, i < S.length → (og S i).2 = cov L (og S i).1 ∧ (og S i).1 ∈ K) ∧
  (∀ i j, i < j → j < S.length → (og S i).1 < (og S j).1) ∧
  (∀ i, i + 1 < S.length → (og S i).2 ≠ (og S (i + 1)).2) ∧
  (∀ t ∈ K, ∀ i, i < S.length → (og S i).1 ≤ t → (i + 1 < S.length → t < (og S (i + 1)).1) → cov L t = (og S i).2) ∧
  (∀ k0 K', K = k0 :: K' → 0 < S.length ∧ (og S 0).1 = k0)
theorem last_og {S : List (Int × Int)} {p : Int × Int} (h : S.getLast? = some p) : 0 < S.length ∧ p = og S (S.length - 1) := by
  have hn : S ≠ [] := by intro e; rw [e] at h; cases h
  have hl : 0 < S.length := List.length_pos_iff.2 hn
  refine ⟨hl, ?_⟩
  rw [List.getLast?_eq_getElem?] at h
  unfold og
  rw [h]
  rfl
theorem inv_snoc {L : List (Int × Int)} {K : List Int} {S : List (Int × Int)} {t : Int} (h : SpotInv L K S) (hS : K = [] → S = []) (ht : ∀ z ∈ K, z < t) : SpotInv L (K ++ [t]) (spotS L S t) := by
  obtain ⟨a, b, c, d, e⟩ := h
  unfold spotS
  split
  · rename_i hn
    have hS0 : S = [] := by simpa using hn
    have hK : K = [] := by
      cases K with
      | nil => rfl
      | cons k0 K' => have := (e k0 K' rfl).1; rw [hS0] at this; simp at this
    subst hS0 hK
    refine ⟨fun i hi => ?_, fun i j hij hj => ?_, fun i hi => ?_, fun z hz i hi h1 h2 => ?_, fun k0 K' hk => ?_⟩
    · obtain rfl : i = 0 := by simpa using hi
      exact ⟨rfl, by simp [og]⟩
    · simp at hj; omega
    · simp at hi
    · obtain rfl : i = 0 := by simpa using hi
      simp at hz
      subst hz
      rfl
    · simp at hk
      exact ⟨by simp, hk.1⟩
  · rename_i p hp
    obtain ⟨hl, hpe⟩ := last_og hp
    split
    · rename_i hc
      refine ⟨fun i hi => ⟨(a i hi).1, List.mem_append_left _ (a i hi).2⟩, b, c, fun z hz i hi h1 h2 => ?_, fun k0 K' hk => ?_⟩
      · rcases List.mem_append.1 hz with hz | hz
        · exact d z hz i hi h1 h2
        · obtain rfl : z = t := by simpa using hz
          have hi2 : i = S.length - 1 := by
            rcases Nat.lt_or_ge (i + 1) S.length with l | l
            · have := h2 l; have := ht _ (a (i + 1) l).2; omega
            · omega
          rw [hi2, ← hpe]
          exact hc.symm
      · cases K with
        | nil => rw [hS rfl] at hl; simp at hl
        | cons k1 K1 =>
          simp at hk
          obtain ⟨rfl, _⟩ := hk
          exact e k1 K1 rfl
    · rename_i hc
      have old : ∀ i, i < S.length → og (S ++ [(t, cov L t)]) i = og S i := fun i hi => og_old S _ i hi
      have new : og (S ++ [(t, cov L t)]) S.length = (t, cov L t) := og_new S _
      refine ⟨fun i hi => ?_, fun i j hij hj => ?_, fun i hi => ?_, fun z hz i hi h1 h2 => ?_, fun k0 K' hk => ?_⟩
      · rcases (show i < S.length ∨ i = S.length by simp at hi; omega) with l | l
        · rw [old i l]; exact ⟨(a i l).1, List.mem_append_left _ (a i l).2⟩
        · rw [l, new]; exact ⟨rfl, by simp⟩
      · rcases (show j < S.length ∨ j = S.length by simp at hj; omega) with l | l
        · rw [old i (by omega), old j l]; exact b i j hij l
        · rw [old i (by omega), l, new]; exact ht _ (a i (by omega)).2
      · rcases (show i + 1 < S.length ∨ i + 1 = S.length by simp at hi; omega) with l | l
        · rw [old i (by omega), old (i + 1) l]; exact c i l
        · rw [old i (by omega), l, new]
          have hi2 : i = S.length - 1 := by omega
          rw [hi2, ← hpe]
          exact hc
      · rcases (show i < S.length ∨ i = S.length by simp at hi; omega) with l | l
        · rw [old i l] at h1 ⊢
          rcases List.mem_append.1 hz with hz | hz
          · refine d z hz i l h1 fun hi1 => ?_
            have := h2 (by simp; omega)
            rwa [old (i + 1) hi1] at this
          · obtain rfl : z = t := by simpa using hz
            exfalso
            have h3 := h2 (by simp; omega)
            rcases (show i + 1 < S.length ∨ i + 1 = S.length by omega) with l2 | l2
            · rw [old (i + 1) l2] at h3
              have := ht _ (a (i + 1) l2).2
              omega
            · rw [l2, new] at h3
              simp at h3
        · rw [l, new] at h1 ⊢
          rcases List.mem_append.1 hz with hz | hz
          · have := ht z hz; simp at h1; omega
          · obtain rfl : z = t := by simpa using hz
            rfl
      · cases K with
        | nil => rw [hS rfl] at hl; simp at hl
        | cons k1 K1 =>
          simp at hk
          obtain ⟨rfl, _⟩ := hk
          obtain ⟨q1, q2⟩ := e k1 K1 rfl
          exact ⟨by simp, by rw [old 0 q1]; exact q2⟩
theorem inv_take (L : List (Int × Int)) (K : List Int) (hK : K.Pairwise (· < ·)) : ∀ k, k ≤ K.length → SpotInv L (K.take k) (spotK L (K.take k)) ∧ (K.take k = [] → spotK L (K.take k) = [])
  | 0, _ => by
    refine ⟨⟨fun i hi => ?_, fun i j _ hj => ?_, fun i hi => ?_, fun z hz => ?_, fun k0 K' h => ?_⟩, fun _ => rfl⟩
    · simp [spotK] at hi
    · simp [spotK] at hj
    · simp [spotK] at hi
    · simp at hz
    · simp at h
  | k + 1, hk => by
    have ih := inv_take L K hK k (by omega)
    have e : K.take (k + 1) = K.take k ++ [K[k]] := List.take_succ_eq_append_getElem (by omega)
    rw [e, spotK_snoc]
    refine ⟨inv_snoc ih.1 ih.2 fun z hz => ?_, fun h => absurd h (List.append_ne_nil_of_right_ne_nil _ (List.cons_ne_nil _ _))⟩
    obtain ⟨j, hj, rfl⟩ := List.mem_iff_getElem.1 hz
    rw [List.getElem_take]
    have hj' : j < k := by rw [List.length_take] at hj; omega
    exact List.pairwise_iff_getElem.1 hK j k (by omega) (by omega) hj'
theorem spots_inv (len : Int) (L : List (Int × Int)) : SpotInv L (keysP len L) (spotsP len L) := by
  have h := (inv_take L (keysP len L) (keysP_incr len L) (keysP len L).length (Nat.le_refl _)).1
  rwa [List.take_length] at h

theorem covB_const {s : Int × Int} {k x : Int} (hk : k ≤ x) (h1 : ¬ (k < s.1 ∧ s.1 ≤ x)) (h2 : ¬ (k < s.2 ∧ s.2 ≤ x)) : covB x s = covB k s := by
  unfold covB
  rw [Bool.eq_iff_iff]
  simp
  omega
theorem cov_const {L : List (Int × Int)} {k x : Int} (hk : k ≤ x) (h : ∀ s ∈ L, ¬ (k < s.1 ∧ s.1 ≤ x) ∧ ¬ (k < s.2 ∧ s.2 ≤ x)) : cov L x = cov L k := by
  unfold cov
  rw [List.filter_congr fun s hs => covB_const hk (h s hs).1 (h s hs).2]
theorem max_le {x : Int} : ∀ (K : List Int), (∃ z ∈ K, z ≤ x) → ∃ k ∈ K, k ≤ x ∧ ∀ z ∈ K, z ≤ x → z ≤ k
  | [], h => by obtain ⟨z, hz, _⟩ := h; cases hz
  | y :: K, h => by
    by_cases c : ∃ z ∈ K, z ≤ x
    · obtain ⟨k, hk, kx, hm⟩ := max_le K c
      by_cases hy : y ≤ x ∧ k < y
      · refine ⟨y, List.mem_cons_self .., hy.1, fun z hz zx => ?_⟩
        rcases List.mem_cons.1 hz with e | e
        · omega
        · have := hm z e zx; omega
      · refine ⟨k, List.mem_cons_of_mem _ hk, kx, fun z hz zx => ?_⟩
        rcases List.mem_cons.1 hz with e | e
        · omega
        · exact hm z e zx
    · obtain ⟨z, hz, zx⟩ := h
      have hy : y ≤ x := by
        rcases List.mem_cons.1 hz with e | e
        · omega
        · exact absurd ⟨z, e, zx⟩ c
      refine ⟨y, List.mem_cons_self .., hy, fun z' hz' zx' => ?_⟩
      rcases List.mem_cons.1 hz' with e | e
      · omega
      · exact absurd ⟨z', e, zx'⟩ c
/-- Where the i-th spot ends. -/
def spotEnd (len : Int) (S : List (Int × Int)) (i : Nat) : Int := if i + 1 < S.length then (og S (i + 1)).1 else len
/-- EACH PLACE is covered as often as its spot says. -/
theorem spot_at {len : Int} {L : List (Int × Int)} {i : Nat} {x : Int} (hi : i < (spotsP len L).length) (h1 : (og (spotsP len L) i).1 ≤ x) (h2 : x < spotEnd len (spotsP len L) i) (hx : x < len) : cov L x = (og (spotsP len L) i).2 := by
  obtain ⟨a, b, c, d, e⟩ := spots_inv len L
  obtain ⟨k, hk, kx, hm⟩ := max_le (x := x) (keysP len L) ⟨_, (a i hi).2, h1⟩
  have hki : (og (spotsP len L) i).1 ≤ k := hm _ (a i hi).2 h1
  rw [← d k hk i hi hki fun hi1 => by unfold spotEnd at h2; rw [if_pos hi1] at h2; omega]
  refine cov_const kx fun s hs => ⟨fun ⟨p, q⟩ => ?_, fun ⟨p, q⟩ => ?_⟩
  · have := hm s.1 (keysP_mem.2 ⟨.inr ⟨s, hs, .inl rfl⟩, by omega⟩) q
    omega
  · have := hm s.2 (keysP_mem.2 ⟨.inr ⟨s, hs, .inr rfl⟩, by omega⟩) q
    omega
theorem keys_head {len : Int} {L : List (Int × Int)} (hl : 0 < len) (ok : ∀ s ∈ L, 0 ≤ s.1 ∧ 0 ≤ s.2) : ∃ K', keysP len L = 0 :: K' := by
  have h0 : (0 : Int) ∈ keysP len L := keysP_mem.2 ⟨.inl rfl, hl⟩
  have hi := keysP_incr len L
  cases hK : keysP len L with
  | nil => rw [hK] at h0; cases h0
  | cons k0 K' =>
    rw [hK] at h0 hi
    have hk0 : k0 ∈ keysP len L := by rw [hK]; exact List.mem_cons_self ..
    have hk : 0 ≤ k0 := by
      rcases (keysP_mem.1 hk0).1 with e | ⟨s, hs, e | e⟩
      · omega
      · have := (ok s hs).1; omega
      · have := (ok s hs).2; omega
    rw [List.pairwise_cons] at hi
    rcases List.mem_cons.1 h0 with e | e
    · exact ⟨K', by rw [e]⟩
    · have := hi.1 0 e; omega
theorem spot_bd {len : Int} {L : List (Int × Int)} {i : Nat} (ok : ∀ s ∈ L, 0 ≤ s.1 ∧ 0 ≤ s.2) (hi : i < (spotsP len L).length) : 0 ≤ (og (spotsP len L) i).1 ∧ (og (spotsP len L) i).1 < len ∧ 0 ≤ (og (spotsP len L) i).2 := by
  obtain ⟨a, _⟩ := spots_inv len L
  obtain ⟨h1, h2⟩ := a i hi
  have h3 := keysP_mem.1 h2
  refine ⟨?_, h3.2, by rw [h1]; exact cov_nonneg _ _⟩
  rcases h3.1 with e | ⟨s, hs, e | e⟩
  · omega
  · have := (ok s hs).1; omega
  · have := (ok s hs).2; omega
theorem spotEnd_gt {len : Int} {L : List (Int × Int)} {i : Nat} (ok : ∀ s ∈ L, 0 ≤ s.1 ∧ 0 ≤ s.2) (hi : i < (spotsP len L).length) : (og (spotsP len L) i).1 < spotEnd len (spotsP len L) i ∧ spotEnd len (spotsP len L) i ≤ len := by
  unfold spotEnd
  split
  · rename_i h
    exact ⟨(spots_inv len L).2.1 i (i + 1) (by omega) h, by have := (spot_bd ok h).2.1; omega⟩
  · have := (spot_bd ok hi).2.1; omega

/-- The lengths that are covered, up to a place. -/
def areaTo (L : List (Int × Int)) : Nat → Int
  | 0 => 0
  | n + 1 => areaTo L n + cov L n
theorem area_cons (s : Int × Int) (L : List (Int × Int)) (n : Nat) : areaTo (s :: L) n = areaTo L n + areaTo [s] n := by
  induction n with
  | zero => rfl
  | succ n ih =>
    simp only [areaTo, ih]
    rw [cov_cons L s, cov_cons [] s]
    simp only [cov_nil]
    omega
theorem area_one (s : Int × Int) (h0 : 0 ≤ s.1) (h1 : s.1 < s.2) (n : Nat) : areaTo [s] n = (if s.2 ≤ n then s.2 else n) - (if s.1 ≤ n then s.1 else n) := by
  induction n with
  | zero =>
    simp only [areaTo]
    split <;> split <;> omega
  | succ n ih =>
    simp only [areaTo, ih, cov_cons [] s, cov_nil, covB]
    by_cases a : s.1 ≤ (n : Int) <;> by_cases b : (n : Int) < s.2 <;> simp [a, b] <;> (repeat' split) <;> omega
def lensSum (L : List (Int × Int)) : Int := (L.map fun s => s.2 - s.1).sum
theorem area_all (L : List (Int × Int)) (n : Nat) (ok : SpansOK n L) : areaTo L n = lensSum L := by
  induction L with
  | nil =>
    induction n with
    | zero => rfl
    | succ n ih => simp only [areaTo]; rw [ih (fun s hs => by cases hs)]; rfl
  | cons s L ih =>
    have h := ok s (List.mem_cons_self ..)
    rw [area_cons, ih fun r hr => ok r (List.mem_cons_of_mem _ hr), area_one s h.1 h.2.1]
    rw [if_pos h.2.2, if_pos (by omega)]
    simp only [lensSum, List.map_cons, List.sum_cons]
    omega
theorem area_step (L : List (Int × Int)) (a n : Nat) (c : Int) (h : ∀ x : Int, a ≤ x → x < a + n → cov L x = c) : areaTo L (a + n) = areaTo L a + n * c := by
  induction n with
  | zero => simp
  | succ n ih =>
    have e : areaTo L (a + (n + 1)) = areaTo L (a + n) + cov L ((a + n : Nat) : Int) := rfl
    rw [e, ih fun x h1 h2 => h x h1 (by omega), h ((a + n : Nat) : Int) (by omega) (by omega)]
    have : ((n + 1 : Nat) : Int) * c = n * c + c := by rw [Int.natCast_succ, Int.add_mul, Int.one_mul]
    omega
/-- One spot further. -/
theorem area_spot {len : Int} {L : List (Int × Int)} {i : Nat} (ok : ∀ s ∈ L, 0 ≤ s.1 ∧ 0 ≤ s.2) (hi : i < (spotsP len L).length) :
    areaTo L (spotEnd len (spotsP len L) i).toNat = areaTo L (og (spotsP len L) i).1.toNat + (spotEnd len (spotsP len L) i - (og (spotsP len L) i).1) * (og (spotsP len L) i).2 := by
  obtain ⟨b1, b2, _⟩ := spot_bd ok hi
  obtain ⟨e1, e2⟩ := spotEnd_gt ok hi
  have h := area_step L (og (spotsP len L) i).1.toNat (spotEnd len (spotsP len L) i - (og (spotsP len L) i).1).toNat (og (spotsP len L) i).2 fun x h1 h2 => spot_at hi (by omega) (by omega) (by omega)
  rw [show (og (spotsP len L) i).1.toNat + (spotEnd len (spotsP len L) i - (og (spotsP len L) i).1).toNat = (spotEnd len (spotsP len L) i).toNat by omega] at h
  rw [h, Int.toNat_of_nonneg (by omega)]

/-- The worst of the first spots. -/
def worstTo (S : List (Int × Int)) : Nat → Nat
  | 0 => 0
  | k + 1 => if (og S (worstTo S k)).2 < (og S k).2 then k else worstTo S k
theorem worst_lt (S : List (Int × Int)) (k : Nat) : worstTo S k = 0 ∨ worstTo S k < k := by
  induction k with
  | zero => exact .inl rfl
  | succ k ih =>
    simp only [worstTo]
    split
    · exact .inr (by omega)
    · rcases ih with e | e
      · exact .inl e
      · exact .inr (by omega)
theorem worst_max (S : List (Int × Int)) (k : Nat) : ∀ j, j < k → (og S j).2 ≤ (og S (worstTo S k)).2 := by
  induction k with
  | zero => intro j h; omega
  | succ k ih =>
    intro j hj
    simp only [worstTo]
    rcases (show j < k ∨ j = k by omega) with l | l
    · have := ih j l
      split <;> omega
    · subst l
      split <;> omega
end Go.Proofs.YthldfijlcoobgaaGreat
namespace Go.Proofs.YthldfijlcoobgaaGreat
def sortI (l : List Int) : List Int := l.mergeSort fun x y => decide (x ≤ y)
theorem sortI_sorted (l : List Int) : (sortI l).Pairwise (· ≤ ·) := by
  have h := List.pairwise_mergeSort (le := fun x y : Int => decide (x ≤ y)) (fun a b c h1 h2 => by simp at *; omega) (fun a b => by simp; omega) l
  exact h.imp fun h => by simpa using h
theorem sortI_len (l : List Int) : (sortI l).length = l.length := List.length_mergeSort _
theorem sortI_mem (l : List Int) (x : Int) : x ∈ sortI l ↔ x ∈ l := List.mem_mergeSort
theorem sortI_incr {l : List Int} (h : l.Nodup) : (sortI l).Pairwise (· < ·) := by
  have h1 := sortI_sorted l
  have h2 : (sortI l).Nodup := (List.mergeSort_perm l _).nodup_iff.2 h
  exact (h1.and h2).imp fun ⟨a, b⟩ => by omega
end Go.Proofs.YthldfijlcoobgaaGreat
namespace Go.Proofs.YthldfijlcoobgaaGreat
open Go.RowKit Go.Shelf Go.Sort Go.Lib

theorem nflat_map (L : List Int) : nflat L = L.map (Value.int .i64) := by
  induction L with
  | nil => rfl
  | cons x r ih => rw [List.map_cons, ← ih]; rfl
theorem row_block {w : World} {base g n cap : Nat} {e : TypeId} {xs : List Value} (h : w.ownsRow base e 1 (.slice (some ⟨g, 0, none⟩) n cap) n xs) :
    ∃ cur, base ≤ g ∧ w.heap[g]? = some (.cells cur e (0, 0)) ∧ n ≤ cap ∧ cap ≤ maxLen ∧ cur.size = cap * 1 ∧ cur.toList.take (n * 1) = xs := by
  rcases h.2 with ⟨e0, _⟩ | ⟨g', cap', cur, e0, hb, hg, h1, h2, h3, h4⟩
  · cases e0
  · cases e0; exact ⟨cur, hb, hg, h1, h2, h3, h4⟩
theorem sort_own {w : World} {base g cap : Nat} {L : List Int} (h : w.ownsRow base 3 1 (.slice (some ⟨g, 0, none⟩) L.length cap) L.length (nflat L)) (hl : L.length ≤ 1000000) :
    Calls Tryz.prog 31 #[.slice (some ⟨g, 0, none⟩) L.length cap] w fun e w' => e = .returned (.tuple #[]) ∧ w'.ownsRow base 3 1 (.slice (some ⟨g, 0, none⟩) L.length cap) L.length (nflat (sortI L)) ∧ w.grownBy w' (some g) := by
  obtain ⟨cur, hb, hg, h1, h2, h3, h4⟩ := row_block h
  rw [Nat.mul_one, nflat_map] at h4
  refine (Tryz.slices_Sort_int g 0 cap L w (holds_of_blockI hg h4) (Array.getElem?_eq_some_iff.1 hg).1 (by omega)).mono fun e w' ⟨he, n, os, hw⟩ => ⟨he, ?_, ?_⟩
  · rw [hw, nflat_map]
    exact ownsRow_sortedI (sortI_len L) hb hg h1 h2 h3
  · rw [hw]; exact grownBy_sortedI _
end Go.Proofs.YthldfijlcoobgaaGreat
namespace Go.Proofs.YthldfijlcoobgaaGreat

theorem chg_cons (L : List (Int × Int)) (s : Int × Int) (x : Int) : chg (s :: L) x = chg L x + (if s.1 = x then 1 else 0) - (if s.2 = x then 1 else 0) := by
  unfold chg
  by_cases h : s.1 = x <;> by_cases h' : s.2 = x <;> simp [h, h'] <;> omega
theorem chg_bd (L : List (Int × Int)) (x : Int) : -(L.length : Int) ≤ chg L x ∧ chg L x ≤ L.length := by
  unfold chg
  have a := List.length_filter_le (fun s : Int × Int => s.1 == x) L
  have b := List.length_filter_le (fun s : Int × Int => s.2 == x) L
  omega
/-- The sum of the changes at the first places. -/
def nTo (L : List (Int × Int)) (K : List Int) : Nat → Int
  | 0 => 0
  | k + 1 => nTo L K k + chg L (ig K k)
def hits (e : Int) (K : List Int) : Nat → Int
  | 0 => 0
  | k + 1 => hits e K k + if e = ig K k then 1 else 0
theorem nTo_nil (K : List Int) (k : Nat) : nTo [] K k = 0 := by
  induction k with
  | zero => rfl
  | succ k ih => simp only [nTo, ih]; rfl
theorem nTo_cons (L : List (Int × Int)) (s : Int × Int) (K : List Int) (k : Nat) : nTo (s :: L) K k = nTo L K k + hits s.1 K k - hits s.2 K k := by
  induction k with
  | zero => rfl
  | succ k ih => simp only [nTo, hits, ih, chg_cons]; omega
theorem ig_lt {K : List Int} (h : K.Pairwise (· < ·)) {i j : Nat} (hij : i < j) (hj : j < K.length) : ig K i < ig K j := by
  rw [ig_eq K i (by omega), ig_eq K j hj]
  exact List.pairwise_iff_getElem.1 h i j (by omega) hj hij
theorem hits_none {e : Int} {K : List Int} (k : Nat) (h : ∀ j, j < k → ig K j ≠ e) : hits e K k = 0 := by
  induction k with
  | zero => rfl
  | succ k ih => simp only [hits]; rw [ih fun j hj => h j (by omega), if_neg fun x => h k (by omega) x.symm]; rfl
theorem hits_one {e : Int} {K : List Int} (hK : K.Pairwise (· < ·)) (i : Nat) (hi : i < K.length) (he : ig K i = e) (k : Nat) (hk : k ≤ K.length) : hits e K k = if i < k then 1 else 0 := by
  induction k with
  | zero => rfl
  | succ k ih =>
    simp only [hits]
    rw [ih (by omega)]
    rcases Nat.lt_trichotomy i k with l | l | l
    · have := ig_lt hK l (by omega)
      rw [if_pos l, if_neg (by omega), if_pos (by omega)]
      rfl
    · subst l
      rw [if_neg (by omega), if_pos he.symm, if_pos (by omega)]
      rfl
    · have := ig_lt hK l hi
      rw [if_neg (by omega), if_neg (by omega), if_neg (by omega)]
      rfl
theorem hits_le {e : Int} {K : List Int} (hK : K.Pairwise (· < ·)) (he : e ∈ K) (k : Nat) (hk : k < K.length) : hits e K (k + 1) = if e ≤ ig K k then 1 else 0 := by
  obtain ⟨i, hi, h⟩ := List.mem_iff_getElem.1 he
  have hig : ig K i = e := by rw [ig_eq K i hi]; exact h
  rw [hits_one hK i hi hig (k + 1) (by omega)]
  rcases Nat.lt_trichotomy i k with l | l | l
  · have := ig_lt hK l hk
    rw [if_pos (by omega), if_pos (by omega)]
  · subst l
    rw [if_pos (by omega), if_pos (by omega)]
  · have := ig_lt hK l hi
    rw [if_neg (by omega), if_neg (by omega)]
theorem nTo_cov (K : List Int) (hK : K.Pairwise (· < ·)) (k : Nat) (hk : k < K.length) : ∀ (L : List (Int × Int)), (∀ s ∈ L, s.1 < s.2 ∧ s.1 ∈ K ∧ s.2 ∈ K) → nTo L K (k + 1) = cov L (ig K k)
  | [], _ => nTo_nil K (k + 1)
  | s :: L, h => by
    obtain ⟨h1, h2, h3⟩ := h s (List.mem_cons_self ..)
    rw [nTo_cons, cov_cons, nTo_cov K hK k hk L fun r hr => h r (List.mem_cons_of_mem _ hr), hits_le hK h2 k hk, hits_le hK h3 k hk]
    unfold covB
    by_cases a : s.1 ≤ ig K k <;> by_cases b : s.2 ≤ ig K k
    · rw [if_pos a, if_pos b, if_neg (by simp; omega)]; omega
    · rw [if_pos a, if_neg b, if_pos (by simp; omega)]; omega
    · omega
    · rw [if_neg a, if_neg b, if_neg (by simp; omega)]; omega
theorem nTo_keys {len : Int} {L : List (Int × Int)} (ok : SpansOK len L) (k : Nat) (hk : k < (keysF L).length) : nTo L (keysF L) (k + 1) = cov L (ig (keysF L) k) :=
  nTo_cov (keysF L) (keysF_incr L) k hk L fun s hs => ⟨(ok s hs).2.1, (keysF_mem L _).2 (.inr ⟨s, hs, .inl rfl⟩), (keysF_mem L _).2 (.inr ⟨s, hs, .inr rfl⟩)⟩
theorem nTo_bd (L : List (Int × Int)) (K : List Int) (k : Nat) : -((k * L.length : Nat) : Int) ≤ nTo L K k ∧ nTo L K k ≤ (k * L.length : Nat) := by
  induction k with
  | zero => simp [nTo]
  | succ k ih =>
    have := chg_bd L (ig K k)
    simp only [nTo]
    rw [Nat.succ_mul]
    omega
/-- The keys below the length are the first ones. -/
theorem keys_take {len : Int} {L : List (Int × Int)} (k : Nat) (h : ∀ j, j < k → ig (keysF L) j < len) (hk : k ≤ (keysF L).length) (h2 : k = (keysF L).length ∨ ig (keysF L) k = len) : keysP len L = (keysF L).take k := by
  refine incr_ext (keysP_incr len L) ((keysF_incr L).take) fun z => ?_
  rw [keysP, List.mem_filter]
  have hlt := @ig_lt _ (keysF_incr L)
  constructor
  · rintro ⟨hz, hl⟩
    obtain ⟨i, hi, e⟩ := List.mem_iff_getElem.1 hz
    have hig : ig (keysF L) i = z := by rw [ig_eq _ i hi]; exact e
    have hik : i < k := by
      rcases Nat.lt_or_ge i k with l | l
      · exact l
      · exfalso
        simp at hl
        rcases h2 with h2 | h2
        · omega
        · rcases Nat.lt_or_ge k i with q | q
          · have := hlt q hi; omega
          · have : i = k := by omega
            subst this
            omega
    exact List.mem_iff_getElem.2 ⟨i, by rw [List.length_take]; omega, by rw [List.getElem_take]; exact e⟩
  · intro hz
    obtain ⟨i, hi, e⟩ := List.mem_iff_getElem.1 hz
    rw [List.length_take] at hi
    rw [List.getElem_take] at e
    have hig : ig (keysF L) i = z := by rw [ig_eq _ i (by omega)]; exact e
    refine ⟨List.mem_iff_getElem.2 ⟨i, by omega, e⟩, ?_⟩
    have := h i (by omega)
    simp
    omega
end Go.Proofs.YthldfijlcoobgaaGreat
namespace Go.Proofs.YthldfijlcoobgaaGreat
open Go.RowKit Go.Maps

/-- The map of the changes. -/
def ChgMap {H : Type} (L : List (Int × Int)) (D : DataW H) : Prop := IsMap D ∧ (∀ x : Int, has D (.int .i64 x) = true ↔ x ∈ keysF L) ∧ ∀ x : Int, D.atKey (.int .i64 x) (.lit (.int .i64 0)) = .lit (.int .i64 (chg L x))
theorem keyLit (x : Int) : WideAt.IsKeyLit (.int .i64 x) := trivial
theorem put_map {H : Type} (D : DataW H) (h : IsMap D) (k : Lit) (d : DataW H) : IsMap (D.put k d) := by
  obtain ⟨es, rfl⟩ := h
  exact ⟨_, rfl⟩
theorem lit_ne {x y : Int} (h : x ≠ y) : (Lit.int .i64 x) ≠ Lit.int .i64 y := fun e => h (by injection e)
theorem chg_start {H : Type} : ChgMap [] ((.map [] : DataW H).put (.int .i64 0) (.lit (.int .i64 0))) := by
  have hm : IsMap (.map [] : DataW H) := isMap_empty
  refine ⟨put_map _ hm _ _, fun x => ?_, fun x => ?_⟩
  · by_cases h : x = 0
    · subst h
      rw [has_put_same hm (keyLit 0)]
      simp [keysF]
    · rw [has_put_other (lit_ne h)]
      simp [keysF, has, h]
  · by_cases h : x = 0
    · subst h
      rw [atKey_put_same hm (keyLit 0)]
      rfl
    · rw [atKey_put_other (lit_ne h)]
      rfl
theorem chg_put {H : Type} {L : List (Int × Int)} {D : DataW H} {s : Int × Int} (h : ChgMap L D) (hs : s.1 < s.2) :
    ChgMap (L ++ [s]) ((D.put (.int .i64 s.1) (.lit (.int .i64 (chg L s.1 + 1)))).put (.int .i64 s.2) (.lit (.int .i64 (chg L s.2 - 1)))) := by
  obtain ⟨hm, hh, ha⟩ := h
  have hm1 := put_map D hm (.int .i64 s.1) (.lit (.int .i64 (chg L s.1 + 1)))
  have memk : ∀ x, x ∈ keysF (L ++ [s]) ↔ x = s.1 ∨ x = s.2 ∨ x ∈ keysF L := fun x => by
    rw [keysF_mem, keysF_mem]
    constructor
    · rintro (h | ⟨r, hr, h⟩)
      · exact .inr (.inr (.inl h))
      · rcases List.mem_append.1 hr with hr | hr
        · exact .inr (.inr (.inr ⟨r, hr, h⟩))
        · obtain rfl : r = s := by simpa using hr
          rcases h with h | h
          · exact .inl h.symm
          · exact .inr (.inl h.symm)
    · rintro (h | h | h | ⟨r, hr, h⟩)
      · exact .inr ⟨s, by simp, .inl h.symm⟩
      · exact .inr ⟨s, by simp, .inr h.symm⟩
      · exact .inl h
      · exact .inr ⟨r, List.mem_append_left _ hr, h⟩
  refine ⟨put_map _ hm1 _ _, fun x => ?_, fun x => ?_⟩
  · rw [memk]
    by_cases h2 : x = s.2
    · subst h2
      rw [has_put_same hm1 (keyLit _)]
      simp
    · rw [has_put_other (lit_ne h2)]
      by_cases h1 : x = s.1
      · subst h1
        rw [has_put_same hm (keyLit _)]
        simp
      · rw [has_put_other (lit_ne h1), hh]
        simp [h1, h2]
  · rw [chg_snoc]
    by_cases h2 : x = s.2
    · rw [h2, atKey_put_same hm1 (keyLit _), if_neg (by omega), if_pos rfl]
      congr 2
      omega
    · rw [atKey_put_other (lit_ne h2)]
      by_cases h1 : x = s.1
      · rw [h1, atKey_put_same hm (keyLit _), if_pos rfl, if_neg (by omega)]
        congr 2
        omega
      · rw [atKey_put_other (lit_ne h1), ha, if_neg (fun e => h1 e.symm), if_neg (fun e => h2 e.symm)]
        congr 2
        omega
theorem chg_at {H : Type} {L : List (Int × Int)} {D : DataW H} (h : ChgMap L D) {x c : Int} (hat : D.atKey (.int .i64 x) (.lit (.int .i64 0)) = .lit (.int .i64 c)) : c = chg L x := by
  rw [h.2.2] at hat
  injection hat with e
  injection e with _ e2
  exact e2.symm
theorem chg_at2 {H : Type} {L : List (Int × Int)} {D : DataW H} {s : Int × Int} {d : DataW H} (h : ChgMap L D) (hs : s.1 < s.2) {c : Int} (hat : (D.put (.int .i64 s.1) d).atKey (.int .i64 s.2) (.lit (.int .i64 0)) = .lit (.int .i64 c)) : c = chg L s.2 := by
  rw [atKey_put_other (lit_ne (by omega))] at hat
  exact chg_at h hat

/-- The keys met so far: each once, and just those that are no longer to come. -/
def Coll {H : Type} (D : DataW H) (left : Lit → Bool) (ks : List Int) : Prop := ks.Nodup ∧ ∀ x : Int, x ∈ ks ↔ (has D (.int .i64 x) = true ∧ left (.int .i64 x) = false)
theorem coll_start {H : Type} (D : DataW H) : Coll D (has D) [] := ⟨List.nodup_nil, fun x => by simp⟩
theorem coll_step {H : Type} {D : DataW H} {left : Lit → Bool} {ks : List Int} {x : Int} (h : Coll D left ks) (hl : left (.int .i64 x) = true) (hh : has D (.int .i64 x) = true) : Coll D (fun z => left z && !z.sameKey (.int .i64 x)) (ks ++ [x]) := by
  obtain ⟨h1, h2⟩ := h
  have same : ∀ y : Int, (Lit.int .i64 y).sameKey (.int .i64 x) = decide (y = x) := fun y => by
    by_cases e : y = x
    · subst e; simp [Lit.sameKey]
    · rw [sameKey_ne (lit_ne e)]; simp [e]
  refine ⟨?_, fun y => ?_⟩
  · rw [List.nodup_append]
    refine ⟨h1, by simp, fun a ha b hb => ?_⟩
    obtain rfl : b = x := by simpa using hb
    intro e
    subst e
    have := ((h2 a).1 ha).2
    rw [hl] at this
    cases this
  · simp only [List.mem_append, List.mem_singleton, h2, same]
    by_cases e : y = x
    · subst e
      simp [hh]
    · simp [e]
theorem coll_end {H : Type} {D : DataW H} {left : Lit → Bool} {ks : List Int} {L : List (Int × Int)} (h : Coll D left ks) (hD : ChgMap L D) (hl : ∀ kl, left kl = false) : sortI ks = keysF L := by
  refine incr_ext (sortI_incr h.1) (keysF_incr L) fun z => ?_
  rw [sortI_mem, h.2, hD.2.1]
  simp [hl]
end Go.Proofs.YthldfijlcoobgaaGreat
namespace Go.Proofs.YthldfijlcoobgaaGreat
open Go.RowKit Go.Shelf Go.Maps

def spanBad (len : Int) (s : Int × Int) : Bool := decide (s.1 < 0) || decide (s.2 ≤ s.1) || decide (len < s.2)
set_option maxHeartbeats 1000000 in
theorem asks_spanBad (bx : Nat) (len : Int) (n₀ : Nat) (w : World) (hbx : bx < n₀) (hc : w.cell? ⟨bx, 0, none⟩ = some (.int .i64 len)) :
    AsksS 30 #[.pointer (some ⟨bx, 0, none⟩)] n₀ w (spanBad len) := by
  intro W r hB
  show Calls _ _ #[spanV r, _] _ _
  unfold spanV
  have c0 : W.cell? ⟨bx, 0, none⟩ = some (.int .i64 len) := (hB.cell (p := ⟨bx, 0, none⟩) hbx).trans hc
  have hz : bx < W.heap.size := World.block_lt_of_cell? _ _ c0
  obtain ⟨r1, r2⟩ := r
  simp only
  have key : ∀ b1 b2 b3 : Bool, decide (r1 < 0) = b1 → decide (r2 ≤ r1) = b2 → decide (len < r2) = b3 → Hid (spanBad len (r1, r2) = (b1 || b2 || b3)) := fun b1 b2 b3 h1 h2 h3 => Lib.hid (by unfold spanBad; rw [h1, h2, h3])
  cases h1 : decide (r1 < 0)
  all_goals cases h2 : decide (r2 ≤ r1)
  all_goals cases h3 : decide (len < r2)
  all_goals
    have H := key _ _ _ h1 h2 h3
    clear key hc
    go_enter Tryz.func30, Tryz.ntmps30
    go_wp2_with fail
    go_ret
    exact ⟨ret_bool (by rw [H.out]; simp), below_new _ _⟩
theorem ent_spanBad (args : Array Value) (w : World) : (callFunc 30 args).run Tryz.prog w = .ok (.enter 30 args) w := enters_of Tryz.func30 (by kernel_rfl) rfl args w

theorem own_base {w : World} {b b' size n : Nat} {e : TypeId} {v : Value} {xs : List Value} (h : w.ownsRow b' e size v n xs) (hb : b ≤ b') : w.ownsRow b e size v n xs := by
  refine ⟨h.1, ?_⟩
  rcases h.2 with hn | ⟨g, cap, cur, e1, hb1, rest⟩
  · exact .inl hn
  · exact .inr ⟨g, cap, cur, e1, Nat.le_trans hb hb1, rest⟩
theorem map_below {H : Type} {w w' : World} {b n : Nat} {D : DataW H} (h : w.ownsMap Tryz.prog 3 (plainElem Tryz.prog 3) b n D) (hB : Below w.heap.size w w') : w'.ownsMap Tryz.prog 3 (plainElem Tryz.prog 3) b n D := by
  have hlt := h.lt
  obtain ⟨es, clock, hb, F, hs, hD⟩ := h
  exact ⟨es, clock, (hB.block b hlt).trans hb, F, hs, hD⟩
theorem og_last {S : List (Int × Int)} (hl : 0 < S.length) : S.getLast? = some (og S (S.length - 1)) := by
  rw [List.getLast?_eq_getElem?, og_get (by omega)]
theorem spotS_same {L S : List (Int × Int)} {t : Int} (hl : 0 < S.length) (h : (og S (S.length - 1)).2 = cov L t) : spotS L S t = S := by
  unfold spotS
  rw [og_last hl]
  exact if_pos h
theorem spotS_new {L S : List (Int × Int)} {t : Int} (hl : 0 < S.length) (h : ¬ (og S (S.length - 1)).2 = cov L t) : spotS L S t = S ++ [(t, cov L t)] := by
  unfold spotS
  rw [og_last hl]
  exact if_neg h
theorem nodup_len : ∀ {ks K : List Int}, ks.Nodup → (∀ x ∈ ks, x ∈ K) → ks.length ≤ K.length
  | [], _, _, _ => Nat.zero_le _
  | x :: t, K, h, hs => by
    rw [List.nodup_cons] at h
    have hx : x ∈ K := hs x (List.mem_cons_self ..)
    have := nodup_len (ks := t) (K := K.erase x) h.2 fun y hy => by
      have hne : y ≠ x := fun e => h.1 (e ▸ hy)
      exact (List.mem_erase_of_ne hne).2 (hs y (List.mem_cons_of_mem _ hy))
    rw [List.length_erase_of_mem hx] at this
    have hp : 0 < K.length := List.length_pos_of_mem hx
    simp only [List.length_cons]
    omega
theorem coll_len {H : Type} {D : DataW H} {left : Lit → Bool} {ks : List Int} {L : List (Int × Int)} (h : Coll D left ks) (hD : ChgMap L D) : ks.length ≤ 2 * L.length + 1 :=
  Nat.le_trans (nodup_len h.1 fun x hx => (hD.2.1 x).1 ((h.2 x).1 hx).1) (keysF_len L)

/-- What is wrong with a length and spans. -/
def spotsE (len : Int) (L : List (Int × Int)) : Int := if len < 1 ∨ 1048576 < len then 2 else if 1000 < L.length then 4 else if L.any (spanBad len) then 1 else 0
theorem spots_ok {len : Int} {L : List (Int × Int)} (h : spotsE len L = 0) : 1 ≤ len ∧ len ≤ 1048576 ∧ L.length ≤ 1000 ∧ SpansOK len L ∧ L.any (spanBad len) = false := by
  unfold spotsE at h
  split at h
  · cases h
  · split at h
    · cases h
    · split at h
      · cases h
      · rename_i h1 h2 h3
        refine ⟨by omega, by omega, by omega, fun s hs => ?_, Bool.eq_false_iff.2 h3⟩
        have := List.any_eq_false.1 (Bool.eq_false_iff.2 h3) s hs
        unfold spanBad at this
        simp at this
        omega

theorem keyI : Keyed Tryz.prog 3 := int_keyed Tryz.underlying3
theorem zeroI (w : World) : (zeroValue 3).run Tryz.prog w = .ok (.int .i64 0) w := by kernel_rfl

set_option maxRecDepth 100000 in
set_option maxHeartbeats 16000000 in
theorem spots_good {H : Type} (len : Int) (a : Option Addr) (L : List (Int × Int)) (cap : Nat) (w : World) (h : Spans w.heap.size w a L) (he : spotsE len L = 0) :
    Calls Tryz.prog 12 #[.int .i64 len, .slice a L.length cap] w fun e w' => Hid (∃ v, e = .returned (.tuple #[v, .int .i64 0]) ∧ w'.ownsRow w.heap.size 55 2 v (spotsP len L).length (oflat (spotsP len L))) ∧ Below w.heap.size w w' := by
  obtain ⟨l1, l2, hl, hOK, hany⟩ := spots_ok he
  have HS := Lib.hid h
  have HOK := Lib.hid hOK
  have HAN : Hid (span_any L (spanBad len) = false) := Lib.hid (by rw [span_any_eq]; exact hany)
  clear h he hOK hany
  have hW0 := below_new w (.cells #[.int .i64 len] 3)
  have c0 : (w.alloc (.cells #[.int .i64 len] 3)).cell? ⟨w.heap.size, 0, none⟩ = some (.int .i64 len) := by simp
  have hz0 : w.heap.size < (w.alloc (.cells #[.int .i64 len] 3)).heap.size := by simp
  have hmm := @run_makeMap Tryz.prog
  have g1 : decide (len < 1) = false := decide_eq_false (by omega)
  have g2 : decide (1048576 < len) = false := decide_eq_false (by omega)
  have g3 : decide ((1000 : Int) < L.length) = false := decide_eq_false (by omega)
  go_enter Tryz.func12, Tryz.ntmps12
  go_upto_region 1 with (fail)
  obtain ⟨Bl, hBl⟩ : ∃ b, w.heap.size = b := ⟨_, rfl⟩
  rw [hBl] at c0 hz0
  simp only [hBl]
  generalize w.alloc (.cells #[.int .i64 len] 3) = W0 at *
  go_upto_region 7 with (go_at_call 29; (with_reducible refine (span_containsFunc _ L _ _ _ _ (spanBad len) _ ent_spanBad (by omega) (Nat.le_refl _) (HS.out.grow hW0) (asks_spanBad Bl len _ _ hz0 c0)).mono ?_); rintro e w2 ⟨rfl, hb2⟩; rw [HAN.out])
  have b2 := hb2
  have hW2 := hW0.trans (hb2.mono hW0.size)
  have hS2 := (HS.out.grow hW0).grow hb2
  have c2 := (hb2.cell (p := ⟨Bl, 0, none⟩) hz0).trans c0
  clear hb2 c0 hz0 hW0 HAN HS b2
  obtain ⟨Wa, rfl⟩ : ∃ W : World, W = w2 := ⟨_, rfl⟩
  have HS := Lib.hid hS2
  clear hS2
  obtain ⟨w3, hins, hown3, hg3⟩ := (World.ownsMap_made (H := H) Wa Tryz.prog 3 (plainElem Tryz.prog 3)).update keyI Tryz.underlying83 (by unfold maxLen; omega) (keyOf_int_mk Tryz.underlying3 (a := 0) (by decide)) (plainElem_int Tryz.underlying3 (a := 0) (by decide))
  have hb3 : Below Wa.heap.size Wa w3 := ((Below.refl _ _).alloc (Nat.le_refl _) _).grown hg3 (by simp) (fun j hj => by cases hj; exact Nat.le_refl _)
  have HC3 := Lib.hid (chg_start (H := H))
  go_upto_region 8 with (fail)
  clear hins hmm hg3
  obtain ⟨Bm, hBm⟩ : ∃ b, Wa.heap.size = b := ⟨_, rfl⟩
  have hBmle : Wa.heap.size ≤ Bm := by omega
  simp only [hBm] at hown3 ⊢
  clear hBm
  go_wp2_with fail
  go_loopw [34] (fun i wr => ∃ (k : Nat) (D : DataW H), k ≤ L.length ∧ i = .int .i64 k ∧ wr.ownsMap Tryz.prog 3 (plainElem Tryz.prog 3) Bm (2 * k + 1) D ∧ Hid (ChgMap (L.take k) D) ∧ Below Wa.heap.size Wa wr) (fun i _ => L.length - (intOf i).toNat)
  case atStart => exact ⟨0, _, Nat.zero_le _, rfl, hown3, HC3, hb3⟩
  case round =>
    obtain ⟨k, D, hk, rfl, hown, HD, hC⟩ := hrel
    clear hown3 HC3 hb3
    by_cases hlt : k < L.length
    · obtain ⟨b, off, rfl, hb, hcx⟩ := HS.out (by omega)
      obtain ⟨e0, e1⟩ := hcx k hlt
      have d0 := (hC.cell (p := ⟨b, off + k * 2, none⟩) hb).trans e0
      have d1 := (hC.cell (p := ⟨b, off + k * 2 + 1, none⟩) hb).trans e1
      have hok := HOK.out (sg L k) (by rw [sg_eq L k hlt]; exact List.getElem_mem hlt)
      have HT : Hid (L.take (k + 1) = L.take k ++ [sg L k]) := Lib.hid (by rw [sg_eq L k hlt]; exact List.take_succ_eq_append_getElem hlt)
      have hcb1 := chg_bd (L.take k) (sg L k).1
      have hcb2 := chg_bd (L.take k) (sg L k).2
      have htl : (L.take k).length ≤ 1000 := by rw [List.length_take]; omega
      clear hcx e0 e1
      go_upto_region 11 with (fail)
      have hownS := hown.alloc (.cells #[.int .i64 (sg L k).1, .int .i64 (sg L k).2] 50)
      have hCS := hC.alloc hC.size (.cells #[.int .i64 (sg L k).1, .int .i64 (sg L k).2] 50)
      obtain ⟨x0, x1⟩ := new_cells wr (.int .i64 (sg L k).1) (.int .i64 (sg L k).2) 50
      have hBw : Bm < wr.heap.size := hown.lt
      clear hown hC d0 d1
      generalize wr.alloc (.cells #[.int .i64 (sg L k).1, .int .i64 (sg L k).2] 50) = wS at *
      generalize wr.heap.size = Bs at *
      obtain ⟨p, hp⟩ : ∃ p, sg L k = p := ⟨_, rfl⟩
      rw [hp] at x0 x1 hok HT hcb1 hcb2
      clear hp
      have wk1 : (Lit.int .i64 p.1).wf = true := WalkArith.wf_i64 (by omega)
      have wk2 : (Lit.int .i64 p.2).wf = true := WalkArith.wf_i64 (by omega)
      obtain ⟨c1, hc1⟩ : ∃ c, chg (L.take k) p.1 = c := ⟨_, rfl⟩
      obtain ⟨c2, hc2⟩ : ∃ c, chg (L.take k) p.2 = c := ⟨_, rfl⟩
      have wv1 : (Lit.int .i64 (c1 + 1)).wf = true := WalkArith.wf_i64 (by omega)
      have wv2 : (Lit.int .i64 (c2 - 1)).wf = true := WalkArith.wf_i64 (by omega)
      have HPUT := Lib.hid (chg_put HD.out hok.2.1)
      have HA1 : Hid (∀ c, D.atKey (.int .i64 p.1) (.lit (.int .i64 0)) = .lit (.int .i64 c) → c = c1) := Lib.hid fun c h => (chg_at HD.out h).trans hc1
      have HA2 : Hid (∀ c, (D.put (.int .i64 p.1) (.lit (.int .i64 (c1 + 1)))).atKey (.int .i64 p.2) (.lit (.int .i64 0)) = .lit (.int .i64 c) → c = c2) := Lib.hid fun c h => (chg_at2 HD.out hok.2.1 h).trans hc2
      rw [hc1, hc2] at HPUT
      rw [hc1] at hcb1
      rw [hc2] at hcb2
      clear hc1 hc2
      have hne : some Bs ≠ some Bm := fun e => by injection e with e; omega
      go_upto_region 12 with (first
        | (at_lookup; refine wpList_lookup_own_int _ rfl _ _ 83 rfl 3 3 .i64 keyI Tryz.underlying83 Tryz.underlying3 (zeroI _) Bm _ _ rfl hownS _ _ rfl (keyOf_int_mk Tryz.underlying3 wk1) ?_; intro c hat hwc; obtain rfl := HA1.out c hat; clear hat hwc)
        | (at_mapUpdate; refine wpList_mapUpdate_own _ rfl _ _ _ 83 rfl 3 3 keyI Tryz.underlying83 _ Bm _ _ rfl hownS (by unfold maxLen; omega) _ _ _ rfl rfl (keyOf_int_mk Tryz.underlying3 wk1) _ [] (plainElem_int Tryz.underlying3 wv1) ?_; intro w4 hown4 hgrow4))
      have y1 := hgrow4.cell x1 hne
      have hC4 := hCS.grown hgrow4 hCS.size (fun j hj => by cases hj; exact hBmle)
      clear x0 x1 hownS hgrow4 hCS HA1
      go_wp2_with (first
        | (at_lookup; refine wpList_lookup_own_int _ rfl _ _ 83 rfl 3 3 .i64 keyI Tryz.underlying83 Tryz.underlying3 (zeroI _) Bm _ _ rfl hown4 _ _ rfl (keyOf_int_mk Tryz.underlying3 wk2) ?_; intro c hat hwc; obtain rfl := HA2.out c hat; clear hat hwc)
        | (at_mapUpdate; refine wpList_mapUpdate_own _ rfl _ _ _ 83 rfl 3 3 keyI Tryz.underlying83 _ Bm _ _ rfl hown4 (by unfold maxLen; omega) _ _ _ rfl rfl (keyOf_int_mk Tryz.underlying3 wk2) _ [] (plainElem_int Tryz.underlying3 wv2) ?_; intro w5 hown5 hgrow5))
      have hC5 := hC4.grown hgrow5 hC4.size (fun j hj => by cases hj; exact hBmle)
      go_roundw
      case rel => exact ⟨k + 1, _, by omega, by go_num, hown5, by rw [HT.out]; exact HPUT, hC5⟩
      case measure => simp [intOf]; omega
    · obtain rfl : k = L.length := by omega
      have HD2 : Hid (ChgMap L D) := Lib.hid (by have := HD.out; rwa [List.take_length] at this)
      clear HD
      obtain ⟨wo, rfl⟩ : ∃ W : World, W = wr := ⟨_, rfl⟩
      go_wp2_with (at_range; refine wpList_range_own _ rfl _ 83 rfl 3 3 keyI Tryz.underlying83 _ Bm _ D rfl hown ?_; intro w0 hrg0 hg0 hs0)
      go_frame
      have hC0 := hC.grown (hg0.but none) hC.size (fun j hj => by cases hj)
      have hBr : Bm < w0.heap.size := hrg0.owns.lt
      have hrr := hrg0.lt
      have hrW : Wa.heap.size ≤ wo.heap.size := hC.size
      generalize wo.heap.size = r at *
      clear hs0 hg0 hown hC
      obtain ⟨B0, hB0⟩ : ∃ b, w0.heap.size = b := ⟨_, rfl⟩
      have HC0 := Lib.hid (coll_start D)
      go_loopw [9, 10] (fun v _ wr => ∃ (left : Lit → Bool) (cnt : Nat) (ks : List Int), wr.ranges Tryz.prog 3 (plainElem Tryz.prog 3) Bm r (2 * L.length + 1) D left cnt ∧ wr.ownsRow B0 3 1 v ks.length (nflat ks) ∧ Hid (Coll D left ks) ∧ B0 ≤ wr.heap.size ∧ Below Wa.heap.size Wa wr) (fun _ _ wr => wr.rangeLeft Bm r)
      case atStart => exact ⟨_, _, [], hrg0, World.ownsRow_nil _ _ _ _, HC0, by omega, hC0⟩
      case round =>
        obtain ⟨left, cnt, ks, hrg, hrow, HCo, hBB, hC⟩ := hrel
        have hkl := coll_len HCo.out HD2.out
        clear hrg0 HC0 hC0
        go_wp2_with (at_next; refine wpList_next_ranges_ii _ rfl _ rfl 3 3 .i64 .i64 keyI Tryz.underlying3 Tryz.underlying3 Bm r _ _ _ _ rfl hrg ?_ ?_)
        · intro hc0 hl0
          have HK : Hid (sortI ks = keysF L) := Lib.hid (coll_end HCo.out HD2.out hl0)
          have hown := hrg.owns
          have hks : 0 < ks.length := by
            have h := congrArg List.length HK.out
            rw [sortI_len] at h
            have h0 : (0 : Int) ∈ keysF L := (keysF_mem L 0).2 (.inl rfl)
            have := List.length_pos_of_mem h0
            omega
          obtain ⟨pg, pcap, hve⟩ : ∃ g cap, u9 = .slice (some ⟨g, 0, none⟩) ks.length cap := by
            rcases hrow.2 with ⟨_, h0⟩ | ⟨g, cap, cur, e1, _⟩
            · omega
            · exact ⟨g, cap, e1⟩
          subst hve
          have hpg := (hrow.lt pg rfl).1
          clear hrg HCo hl0 hc0
          obtain ⟨wl, rfl⟩ : ∃ W : World, W = wr := ⟨_, rfl⟩
          go_upto_region 20 with (go_at_call 31; (with_reducible refine (sort_own hrow (by omega)).mono ?_); rintro e w6 ⟨rfl, hrow6, hg6⟩)
          have hown6 := hown.kept hg6 (fun e => by injection e with e; omega)
          have hC6 : Below Wa.heap.size Wa w6 := hC.grown hg6 hC.size (fun j hj => by cases hj; omega)
          have hkl : ks.length = (keysF L).length := by rw [← sortI_len, HK.out]
          rw [HK.out, hkl] at hrow6
          obtain ⟨na, ncap, hve, _, _, _, hN⟩ := num_of_row hrow6
          injection hve with hve1 hve2 hve3
          subst hve1 hve3
          have HN := Lib.hid hN
          have HKI := Lib.hid (keysF_incr L)
          have HKL := keysF_len L
          have HKM : Hid (∀ k, k < (keysF L).length → 0 ≤ ig (keysF L) k ∧ ig (keysF L) k ≤ len) := Lib.hid fun k hk => by
            have hm : ig (keysF L) k ∈ keysF L := by rw [ig_eq _ k hk]; exact List.getElem_mem hk
            rcases (keysF_mem L _).1 hm with h | ⟨s, hs, h | h⟩
            · omega
            · have := HOK.out s hs; omega
            · have := HOK.out s hs; omega
          clear hrow hrow6 hg6 hown hC hN hve2 HK hBB
          rw [hkl]
          clear hkl hks
          go_wp2_with fail
          go_loopw [11, 12, 63] (fun v n i wr => ∃ k : Nat, k ≤ (keysF L).length ∧ Hid (∀ j, j < k → ig (keysF L) j < len) ∧ i = .int .i64 k ∧ n = .int .i64 (nTo L (keysF L) k) ∧ wr.ownsRow w6.heap.size 55 2 v (spotK L ((keysF L).take k)).length (oflat (spotK L ((keysF L).take k))) ∧ Below w6.heap.size w6 wr) (fun _ _ i _ => (keysF L).length - (intOf i).toNat)
          case atStart => exact ⟨0, Nat.zero_le _, Lib.hid (fun j h => absurd h (Nat.not_lt_zero _)), rfl, rfl, World.ownsRow_nil _ _ _ _, Below.refl _ _⟩
          case round =>
            obtain ⟨k, hk, HLT, rfl, rfl, hrow, hD⟩ := hrel
            by_cases hlt : k < (keysF L).length
            · obtain ⟨b2, off2, hve, hb2, hcx⟩ := HN.out (by omega)
              injection hve with hve
              injection hve with hv1 hv2
              subst hv1 hv2
              have e0 := (hD.cell (p := ⟨pg, 0 + k, none⟩) hb2).trans (hcx k hlt)
              have hownr := map_below hown6 hD
              have hcl := (hD.cell (p := ⟨Bl, 0, none⟩) (Nat.lt_of_lt_of_le (World.block_lt_of_cell? _ _ c2) hC6.size)).trans ((hC6.cell (p := ⟨Bl, 0, none⟩) (World.block_lt_of_cell? _ _ c2)).trans c2)
              have hkm := HKM.out k hlt
              have hDs := hD.size
              have hnb := nTo_bd L (keysF L) k
              have hmul : k * L.length ≤ 2001 * 1000 := Nat.mul_le_mul (by omega) hl
              have hsum := nTo_keys HOK.out k hlt
              have hcb := chg_bd L (ig (keysF L) k)
              have HTK : Hid ((keysF L).take (k + 1) = (keysF L).take k ++ [ig (keysF L) k]) := Lib.hid (by rw [ig_eq _ k hlt]; exact List.take_succ_eq_append_getElem hlt)
              have HNS : Hid (nTo L (keysF L) (k + 1) = nTo L (keysF L) k + chg L (ig (keysF L) k)) := Lib.hid rfl
              rw [HNS.out] at hsum
              have hSl : (spotK L ((keysF L).take k)).length ≤ 3000 := Nat.le_trans (spotK_len _ _) (by rw [List.length_take]; omega)
              have HSP : Hid (spotK L ((keysF L).take (k + 1)) = spotS L (spotK L ((keysF L).take k)) (ig (keysF L) k)) := Lib.hid (by rw [HTK.out, spotK_snoc])
              obtain ⟨t, ht⟩ : ∃ t, ig (keysF L) k = t := ⟨_, rfl⟩
              obtain ⟨c, hc⟩ : ∃ c, chg L t = c := ⟨_, rfl⟩
              obtain ⟨N, hN⟩ : ∃ N, nTo L (keysF L) k = N := ⟨_, rfl⟩
              obtain ⟨S, hS⟩ : ∃ S, spotK L ((keysF L).take k) = S := ⟨_, rfl⟩
              have HT := Lib.hid ht
              have HA : Hid (∀ c', D.atKey (.int .i64 t) (.lit (.int .i64 0)) = .lit (.int .i64 c') → c' = c) := Lib.hid fun c' h => (chg_at HD2.out h).trans hc
              rw [ht, hc, hN] at hsum HNS
              rw [ht] at hcb HSP
              rw [hc] at hcb
              rw [ht] at e0 hkm
              rw [hN] at hnb ⊢
              rw [hS] at hrow hSl HSP
              have HS0 := Lib.hid hS
              have hNb : -2001000 ≤ N ∧ N ≤ 2001000 := by omega
              have hsum2 := Lib.hid hsum
              have wk : (Lit.int .i64 t).wf = true := WalkArith.wf_i64 (by omega)
              clear ht hc hN hS hcx hnb hsum hmul
              rw [Nat.zero_add] at e0
              obtain ⟨oa, ocap, rfl, _, _, _, hO⟩ := load_of_row hrow
              by_cases htl : t = len
              · have q1 : (t == len) = true := by simpa using htl
                have HF : Hid (S = spotsP len L) := Lib.hid (by
                  unfold spotsP
                  rw [← HS0.out, keys_take k HLT.out hk (.inr (HT.out.trans htl))])
                clear htl
                go_wp2_with (at_lookup; refine wpList_lookup_own_int _ rfl _ _ 83 rfl 3 3 .i64 keyI Tryz.underlying83 Tryz.underlying3 (zeroI _) Bm _ _ rfl hownr _ _ rfl (keyOf_int_mk Tryz.underlying3 wk) ?_; intro c' hat hwc; obtain rfl := (HA.out c' hat).symm; clear hat hwc)
                go_ret2
                have hfin := hW2.trans ((hC6.trans (hD.mono hC6.size)).mono hW2.size)
                have hz0 := Nat.le_trans hW2.size hC6.size
                have hfin0 := hfin
                have hz := hz0
                rw [hBl] at hfin hz
                refine ⟨Lib.hid ⟨_, rfl, ?_⟩, by first | exact hfin | exact hfin0⟩
                rw [← HF.out]
                first | exact own_base hrow hz | exact own_base hrow hz0
              · have q1 : (t == len) = false := by simpa using htl
                have hlen : t < len := by omega
                have HLT2 : Hid (∀ j, j < k + 1 → ig (keysF L) j < len) := Lib.hid fun j hj => by
                  rcases (show j < k ∨ j = k by omega) with l | l
                  · exact HLT.out j l
                  · subst l; rw [HT.out]; exact hlen
                clear htl
                by_cases hS0 : S.length = 0
                · have q2 : ((S.length : Int) == 0) = true := by rw [hS0]; rfl
                  have HST : Hid (spotS L S t = S ++ [(t, N + c)]) := Lib.hid (by
                    have : S = [] := List.length_eq_zero_iff.1 hS0
                    subst this
                    unfold spotS
                    rw [← hsum2.out]
                    rfl)
                  clear hS0
                  go_wp2_with (first
                    | (at_lookup; refine wpList_lookup_own_int _ rfl _ _ 83 rfl 3 3 .i64 keyI Tryz.underlying83 Tryz.underlying3 (zeroI _) Bm _ _ rfl hownr _ _ rfl (keyOf_int_mk Tryz.underlying3 wk) ?_; intro c' hat hwc; obtain rfl := (HA.out c' hat).symm; clear hat hwc)
                    | (at_builtin; refine load_append rfl _ _ rfl w6.heap.size _ S rfl (hrow.alloc _) _ (t, N + c) rfl (by simp) (by omega) (by first | omega | (simp <;> omega)) ?_; intro v5 w5 hown5 hg5))
                  have hD5 := (hD.alloc hD.size _).grown hg5 (by have := hD.size; simp; omega) (fun j hj => (hrow.lt _ hj).1)
                  go_roundw
                  case rel => exact ⟨k + 1, by omega, HLT2, by go_num, by rw [HNS.out], by rw [HSP.out, HST.out]; exact hown5, hD5⟩
                  case measure => simp [intOf]; omega
                · have q2 : ((S.length : Int) == 0) = false := beq_eq_false_iff_ne.2 (by omega)
                  obtain ⟨ob, ooff, rfl, hob, hoc⟩ := hO (by omega)
                  obtain ⟨_, o1⟩ := hoc (S.length - 1) (by omega)
                  have hS1 : (1 : Int) ≤ S.length := by omega
                  have s1 : IntKind.i64.wrap ((S.length : Int) - 1) = (S.length : Int) - 1 := IntWalk.i64_in _ (by omega)
                  have s2 : ((S.length : Int) - 1).toNat = S.length - 1 := by omega
                  obtain ⟨W, hWq⟩ : ∃ x, (og S (S.length - 1)).2 = x := ⟨_, rfl⟩
                  rw [hWq] at o1
                  by_cases hw : W = N + c
                  · have q3 : (W != N + c) = false := by simpa using hw
                    have HST : Hid (spotS L S t = S) := Lib.hid (spotS_same (by omega) (by rw [hWq, hw, hsum2.out]))
                    clear hw hS0 hoc hWq
                    go_wp2_with (first
                      | (at_lookup; refine wpList_lookup_own_int _ rfl _ _ 83 rfl 3 3 .i64 keyI Tryz.underlying83 Tryz.underlying3 (zeroI _) Bm _ _ rfl hownr _ _ rfl (keyOf_int_mk Tryz.underlying3 wk) ?_; intro c' hat hwc; obtain rfl := (HA.out c' hat).symm; clear hat hwc)
                      | (at_builtin; refine load_append rfl _ _ rfl w6.heap.size _ S rfl (hrow.alloc _) _ (t, N + c) rfl (by simp) (by omega) (by first | omega | (simp <;> omega)) ?_; intro v5 w5 hown5 hg5))
                    go_roundw
                    case rel => exact ⟨k + 1, by omega, HLT2, by go_num, by rw [HNS.out], by rw [HSP.out, HST.out]; exact hrow, hD⟩
                    case measure => simp [intOf]; omega
                  · have q3 : (W != N + c) = true := by simpa using hw
                    have HST : Hid (spotS L S t = S ++ [(t, N + c)]) := Lib.hid (by rw [hsum2.out]; exact spotS_new (by omega) (by rw [hWq, ← hsum2.out]; exact hw))
                    clear hw hS0 hoc hWq
                    go_wp2_with (first
                      | (at_lookup; refine wpList_lookup_own_int _ rfl _ _ 83 rfl 3 3 .i64 keyI Tryz.underlying83 Tryz.underlying3 (zeroI _) Bm _ _ rfl hownr _ _ rfl (keyOf_int_mk Tryz.underlying3 wk) ?_; intro c' hat hwc; obtain rfl := (HA.out c' hat).symm; clear hat hwc)
                      | (at_builtin; refine load_append rfl _ _ rfl w6.heap.size _ S rfl (hrow.alloc _) _ (t, N + c) rfl (by simp) (by omega) (by first | omega | (simp <;> omega)) ?_; intro v5 w5 hown5 hg5))
                    have hD5 := (hD.alloc hD.size _).grown hg5 (by have := hD.size; simp; omega) (fun j hj => (hrow.lt _ hj).1)
                    go_roundw
                    case rel => exact ⟨k + 1, by omega, HLT2, by go_num, by rw [HNS.out], by rw [HSP.out, HST.out]; exact hown5, hD5⟩
                    case measure => simp [intOf]; omega
            · obtain rfl : k = (keysF L).length := by omega
              have HF : Hid (spotK L ((keysF L).take (keysF L).length) = spotsP len L) := Lib.hid (by
                unfold spotsP
                rw [keys_take (keysF L).length HLT.out (Nat.le_refl _) (.inl rfl)])
              rw [HF.out] at hrow
              go_wp2_with fail
              go_ret2
              have hfin := hW2.trans ((hC6.trans (hD.mono hC6.size)).mono hW2.size)
              have hz0 := Nat.le_trans hW2.size hC6.size
              have hfin0 := hfin
              have hz := hz0
              rw [hBl] at hfin hz
              exact ⟨Lib.hid ⟨_, rfl, by first | exact own_base hrow hz | exact own_base hrow hz0⟩, by first | exact hfin | exact hfin0⟩
        · intro x c w1 cnt1 hwx hwc hlx hat hrg1 hlt1 hg1 hs1 hen
          have HCN := Lib.hid (coll_step HCo.out hlx (has_true_of_atKey hat))
          have hrow1 := hrow.kept hg1 (by rcases ho : Value.ownBlock u9 with _ | k; exact .inl rfl; exact .inr (fun e => by have := (hrow.lt k ho).1; injection e with e; omega))
          have hC1 := hC.grown hg1 hC.size (fun j hj => by cases hj; omega)
          have hBB1 : B0 ≤ w1.heap.size := by omega
          clear hs1
          go_wp2_with (at_builtin; refine num_append rfl _ _ rfl B0 _ ks rfl (hrow1.alloc _) _ x rfl (by simp) (by omega) (by first | omega | (simp <;> omega)) ?_; intro v5 w5 hown5 hg5)
          have hrg5 := (hrg1.alloc (.cells #[.int .i64 x] 3)).kept hg5 (fun e => by have := (hrow1.lt _ e.symm).1; omega) (fun e => by have := (hrow1.lt _ e.symm).1; omega)
          have hC5 : Below Wa.heap.size Wa w5 := (hC1.alloc hC1.size (.cells #[.int .i64 x] 3)).grown hg5 (by have := hC1.size; simp; omega) (fun j hj => by have := (hrow1.lt _ hj).1; omega)
          have hz5 : B0 ≤ w5.heap.size := Nat.le_trans (by simp; omega) hg5.size
          go_roundw
          case rel => exact ⟨_, cnt1, _, hrg5, hown5, HCN, hz5, hC5⟩
          case measure => rw [hrg5.left_eq, hrg.left_eq]; exact hlt1
end Go.Proofs.YthldfijlcoobgaaGreat
namespace Go.Proofs.YthldfijlcoobgaaGreat
open Go.RowKit Go.Shelf Go.Maps
set_option maxRecDepth 100000 in
set_option maxHeartbeats 16000000 in
theorem spots_bad (len : Int) (a : Option Addr) (L : List (Int × Int)) (cap : Nat) (w : World) (hl : L.length ≤ 1000000) (h : Spans w.heap.size w a L) (he : ¬ spotsE len L = 0) :
    Calls Tryz.prog 12 #[.int .i64 len, .slice a L.length cap] w fun e w' => e = .returned (.tuple #[.slice none 0 0, .int .i64 (spotsE len L)]) ∧ Below w.heap.size w w' := by
  have HS := Lib.hid h
  have hW0 := below_new w (.cells #[.int .i64 len] 3)
  obtain ⟨R, hR⟩ : ∃ R, spotsE len L = R := ⟨_, rfl⟩
  have HR := Lib.hid hR
  rw [hR]
  by_cases q1 : len < 1
  · obtain rfl : R = 2 := by rw [← hR]; unfold spotsE; rw [if_pos (Or.inl q1)]
    have g1 := decide_eq_true q1
    clear hR he h HS HR
    go_enter Tryz.func12, Tryz.ntmps12
    go_wp2_with fail
    go_ret2
    exact ⟨rfl, hW0⟩
  · have g1 := decide_eq_false q1
    by_cases q2 : 1048576 < len
    · obtain rfl : R = 2 := by rw [← hR]; unfold spotsE; rw [if_pos (Or.inr q2)]
      have g2 := decide_eq_true q2
      clear hR he h HS HR q1
      go_enter Tryz.func12, Tryz.ntmps12
      go_wp2_with fail
      go_ret2
      exact ⟨rfl, hW0⟩
    · have g2 := decide_eq_false q2
      by_cases q3 : 1000 < L.length
      · obtain rfl : R = 4 := by rw [← hR]; unfold spotsE; rw [if_neg (by omega), if_pos q3]
        have g3 : decide ((1000 : Int) < L.length) = true := decide_eq_true (by omega)
        clear hR he h HS HR q1 q2
        go_enter Tryz.func12, Tryz.ntmps12
        go_wp2_with fail
        go_ret2
        exact ⟨rfl, hW0⟩
      · have g3 : decide ((1000 : Int) < L.length) = false := decide_eq_false (by omega)
        have hany : L.any (spanBad len) = true := by
          by_cases q : L.any (spanBad len) = true
          · exact q
          · exact absurd (by unfold spotsE; rw [if_neg (by omega), if_neg q3, if_neg q]) he
        obtain rfl : R = 1 := by rw [← hR]; unfold spotsE; rw [if_neg (by omega), if_neg q3, if_pos hany]
        have HAN : Hid (span_any L (spanBad len) = true) := Lib.hid (by rw [span_any_eq]; exact hany)
        have hl3 : L.length ≤ 1000 := by omega
        clear hR he h HR hany q1 q2 q3
        have c0 : (w.alloc (.cells #[.int .i64 len] 3)).cell? ⟨w.heap.size, 0, none⟩ = some (.int .i64 len) := by simp
        have hz0 : w.heap.size < (w.alloc (.cells #[.int .i64 len] 3)).heap.size := by simp
        go_enter Tryz.func12, Tryz.ntmps12
        go_upto_region 1 with (fail)
        obtain ⟨Bl, hBl⟩ : ∃ b, w.heap.size = b := ⟨_, rfl⟩
        rw [hBl] at c0 hz0
        simp only [hBl]
        generalize w.alloc (.cells #[.int .i64 len] 3) = W0 at *
        go_wp2_with (go_at_call 29; (with_reducible refine (span_containsFunc _ L _ _ _ _ (spanBad len) _ ent_spanBad (by omega) (Nat.le_refl _) (HS.out.grow hW0) (asks_spanBad Bl len _ _ hz0 c0)).mono ?_); rintro e w2 ⟨rfl, hb2⟩; rw [HAN.out])
        go_ret2
        have hfin := hW0.trans (hb2.mono hW0.size)
        exact ⟨rfl, by first | exact hfin | (rw [← hBl]; exact hfin)⟩
theorem spots_any {H : Type} (len : Int) (a : Option Addr) (L : List (Int × Int)) (cap : Nat) (w : World) (hl : L.length ≤ 1000000) (h : Spans w.heap.size w a L) :
    Calls Tryz.prog 12 #[.int .i64 len, .slice a L.length cap] w fun e w' => Hid (∃ v, e = .returned (.tuple #[v, .int .i64 (spotsE len L)]) ∧ (spotsE len L = 0 → w'.ownsRow w.heap.size 55 2 v (spotsP len L).length (oflat (spotsP len L))) ∧ (¬ spotsE len L = 0 → v = .slice none 0 0)) ∧ Below w.heap.size w w' := by
  by_cases he : spotsE len L = 0
  · refine (spots_good (H := H) len a L cap w h he).mono ?_
    rintro e w' ⟨hv, hb⟩
    obtain ⟨v, rfl, hr⟩ := hv.out
    exact ⟨Lib.hid ⟨v, by rw [he], fun _ => hr, fun q => absurd he q⟩, hb⟩
  · refine (spots_bad len a L cap w hl h he).mono ?_
    rintro e w' ⟨rfl, hb⟩
    exact ⟨Lib.hid ⟨_, rfl, fun q => absurd q he, fun _ => rfl⟩, hb⟩
end Go.Proofs.YthldfijlcoobgaaGreat
namespace Go.Proofs.YthldfijlcoobgaaGreat
open Go.RowKit Go.Shelf
def wM : List Int := [0, 500, 500, 200, 800]
def wS : List (Int × Int) := [(0, 300), (200, 1000)]
def wO : List (Int × Int) := [(0, 1), (200, 2), (300, 1)]
theorem wear46 : wearP (exL 5) wM = (4200, 0) := by decide +kernel
theorem places46 : placesE wM = 0 := by decide +kernel
theorem turns46 : turnsP wM = 2 := by decide +kernel
theorem spotsE46 : spotsE 1000 wS = 0 := by decide +kernel
theorem spots46 : spotsP 1000 wS = wO := by decide +kernel
theorem left46 : leftOK 3 10 := by decide +kernel
theorem nums_new (w : World) (n : Nat) (L : List Int) (h : n = L.length) (hl : n ≤ 1000) : Nums (w.alloc (.cells (nflat L).toArray 3)).heap.size (w.alloc (.cells (nflat L).toArray 3)) (some ⟨w.heap.size, 0, none⟩) L := by
  subst h
  obtain ⟨a, cap, e, _, _, _, hc⟩ := num_of_row (World.ownsRow_lit (base := 0) (e := 3) (size := 1) w (nflat L).toArray L.length (Nat.zero_le _) (by unfold maxLen; omega) (by simp [num_len]))
  cases e
  exact hc
theorem spans_new (w : World) (n : Nat) (L : List (Int × Int)) (h : n = L.length) (hl : n ≤ 1000) : Spans (w.alloc (.cells (sflat L).toArray 50)).heap.size (w.alloc (.cells (sflat L).toArray 50)) (some ⟨w.heap.size, 0, none⟩) L := by
  subst h
  obtain ⟨a, cap, e, _, _, _, hc⟩ := span_of_row (World.ownsRow_lit (base := 0) (e := 50) (size := 2) w (sflat L).toArray L.length (Nat.zero_le _) (by unfold maxLen; omega) (by simp [span_len]))
  cases e
  exact hc
theorem loads_new (w : World) (n : Nat) (L : List (Int × Int)) (h : n = L.length) (hl : n ≤ 1000) : Loads (w.alloc (.cells (oflat L).toArray 55)).heap.size (w.alloc (.cells (oflat L).toArray 55)) (some ⟨w.heap.size, 0, none⟩) L := by
  subst h
  obtain ⟨a, cap, e, _, _, _, hc⟩ := load_of_row (World.ownsRow_lit (base := 0) (e := 55) (size := 2) w (oflat L).toArray L.length (Nat.zero_le _) (by unfold maxLen; omega) (by simp [load_len]))
  cases e
  exact hc
theorem wear_ex (a a2 : Option Addr) (cap : Nat) (w : World) (h : Holds w.heap.size w a (exL 5)) (h2 : Nums w.heap.size w a2 wM) :
    Calls Tryz.prog 9 #[.agg #[.string ⟨#[114]⟩, .slice a 5 cap, .bool false], .slice a2 5 5] w fun e w' => e = .returned (.tuple #[.int .i64 4200, .int .i64 0]) ∧ Below w.heap.size w w' := by
  have h := wear_any ⟨#[114]⟩ a (exL 5) cap false a2 wM 5 w (by decide) (by decide) h h2
  rw [wear46] at h
  exact h
theorem turns_ex (a2 : Option Addr) (w : World) (h2 : Nums w.heap.size w a2 wM) :
    Calls Tryz.prog 11 #[.slice a2 5 5] w fun e w' => e = .returned (.tuple #[.int .i64 2, .int .i64 0]) ∧ Below w.heap.size w w' := by
  have h := turns_any a2 wM 5 w (by decide) h2
  rw [places46, turns46, if_pos rfl] at h
  exact h
theorem spots_ex (a2 : Option Addr) (w : World) (h2 : Spans w.heap.size w a2 wS) :
    Calls Tryz.prog 12 #[.int .i64 1000, .slice a2 2 2] w fun e w' => Hid (∃ a c, e = .returned (.tuple #[.slice a 3 c, .int .i64 0]) ∧ Loads w'.heap.size w' a wO) ∧ Below w.heap.size w w' := by
  refine (spots_any (H := Unit) 1000 a2 wS 2 w (by decide) h2).mono fun e w' ⟨h, hb⟩ => ⟨?_, hb⟩
  obtain ⟨v, he, h1, _⟩ := h.out
  rw [spotsE46, spots46] at h1
  obtain ⟨a, c, rfl, _, _, _, hL⟩ := load_of_row (h1 rfl)
  rw [spotsE46] at he
  exact Lib.hid ⟨a, c, he, hL⟩
theorem left_ex (w : World) :
    Calls Tryz.prog 13 #[.int .i64 3, .int .i64 10] w fun e w' => e = .returned (.tuple #[.int .i64 7, .int .i64 0]) ∧ Below w.heap.size w w' := by
  have h := left_any 3 10 w
  rw [if_pos left46, if_pos left46] at h
  exact h
theorem eq_ex (a1 a2 : Option Addr) (c1 : Nat) (w : World) (h1 : Loads w.heap.size w a1 wO) (h2 : Loads w.heap.size w a2 wO) :
    Calls Tryz.prog 14 #[.slice a1 3 c1, .slice a2 3 3] w fun e w' => e = .returned (.bool true) ∧ Below w.heap.size w w' :=
  (load_equal a1 a2 wO wO c1 3 w (by decide) h1 h2 (by decide)).mono fun e w' h => by rw [decide_eq_true rfl] at h; exact h
set_option maxRecDepth 100000 in
set_option maxHeartbeats 8000000 in
theorem awake_any (w : World) : Calls Tryz.prog 4 #[] w fun e w' => e = .returned (.bool true) ∧ Below w.heap.size w w' := by
  have HM : Hid (∀ w : World, Nums (w.alloc (.cells #[.int .i64 0, .int .i64 500, .int .i64 500, .int .i64 200, .int .i64 800] 3)).heap.size (w.alloc (.cells #[.int .i64 0, .int .i64 500, .int .i64 500, .int .i64 200, .int .i64 800] 3)) (some ⟨w.heap.size, 0, none⟩) wM) := Lib.hid fun w => nums_new w 5 wM rfl (by decide)
  have HS : Hid (∀ w : World, Spans (w.alloc (.cells #[.int .i64 0, .int .i64 300, .int .i64 200, .int .i64 1000] 50)).heap.size (w.alloc (.cells #[.int .i64 0, .int .i64 300, .int .i64 200, .int .i64 1000] 50)) (some ⟨w.heap.size, 0, none⟩) wS) := Lib.hid fun w => spans_new w 2 wS rfl (by decide)
  have HO : Hid (∀ w : World, Loads (w.alloc (.cells #[.int .i64 0, .int .i64 1, .int .i64 200, .int .i64 2, .int .i64 300, .int .i64 1] 55)).heap.size (w.alloc (.cells #[.int .i64 0, .int .i64 1, .int .i64 200, .int .i64 2, .int .i64 300, .int .i64 1] 55)) (some ⟨w.heap.size, 0, none⟩) wO) := Lib.hid fun w => loads_new w 3 wO rfl (by decide)
  go_enter Tryz.func4, Tryz.ntmps4
  go_wp2_with (first
    | (go_at_call 10; (with_reducible refine (example_any _).mono ?_); rintro e w1 ⟨hx, hb1⟩; obtain ⟨ra, rc, rfl, hR⟩ := hx.out; have HB1 := Lib.hid hb1; have HR := Lib.hid hR; clear hx hb1 hR)
    | (go_at_call 9; (with_reducible refine (wear_ex _ _ _ _ (HR.out.grow (below_new _ _)) (HM.out _)).mono ?_); rintro e w2 ⟨rfl, hb2⟩; have HB2 := Lib.hid (HB1.out.trans ((mono_in _ hb2).mono HB1.out.size)); clear hb2)
    | (go_at_call 11; (with_reducible refine (turns_ex _ _ (HM.out _)).mono ?_); rintro e w3 ⟨rfl, hb3⟩; have HB3 := Lib.hid (HB2.out.trans ((mono_in _ hb3).mono HB2.out.size)); clear hb3)
    | (go_at_call 12; (with_reducible refine (spots_ex _ _ (HS.out _)).mono ?_); rintro e w4 ⟨hx, hb4⟩; obtain ⟨sa, sc, rfl, hS⟩ := hx.out; have HS4 := Lib.hid hS; have HB4 := Lib.hid (HB3.out.trans ((mono_in _ hb4).mono HB3.out.size)); clear hx hS hb4)
    | (go_at_call 13; (with_reducible refine (left_ex _).mono ?_); rintro e w5 ⟨rfl, hb5⟩; have HS5 := Lib.hid (HS4.out.grow hb5); have HB5 := Lib.hid (HB4.out.trans (hb5.mono HB4.out.size)); clear hb5)
    | (go_at_call 14; (with_reducible refine (eq_ex _ _ _ _ (HS5.out.grow (below_new _ _)) (HO.out _)).mono ?_); rintro e w6 ⟨rfl, hb6⟩; have HB6 := Lib.hid (HB5.out.trans ((mono_in _ hb6).mono HB5.out.size)); clear hb6))
  go_ret
  exact ⟨rfl, HB6.out⟩
end Go.Proofs.YthldfijlcoobgaaGreat
namespace Go.Proofs.YthldfijlcoobgaaGreat
open Go.RowKit Go.Shelf
attribute [local go_sem] Oper.semAt_some
theorem bigr_no {h : HouseR} {s : SheetR} (e : bigB h s = false) : SmallH h 6 ∧ s.cues.length ≤ 65 ∧ ∀ i, i < s.cues.length → (cg s.cues i).moves.length ≤ 105 := by
  unfold bigB at e
  simp only [Bool.or_eq_false_iff, Bool.not_eq_false', decide_eq_false_iff_not] at e
  obtain ⟨a, b, c⟩ := e
  refine ⟨smallH_iff.1 a, by omega, fun i hi => ?_⟩
  rw [cue_any_eq] at c
  have := List.any_eq_false.1 c (cg s.cues i) (by rw [cg_eq s.cues i hi]; exact List.getElem_mem hi)
  unfold cueLong at this
  simp only [Bool.or_eq_true, decide_eq_true_eq, not_or] at this
  omega
theorem runsX_len (h : HouseR) (C : List CueR) : (runsX h C).length ≤ h.sets.length := by
  unfold runsX
  split
  · rw [countTo_len]; exact Nat.le_refl _
  · exact Nat.zero_le _
set_option maxRecDepth 100000 in
set_option maxHeartbeats 16000000 in
theorem runs_law (h : HouseR) (s : SheetR) (w : World) (hh : HouseIn0 w h) (hs : SheetIn0 w s) :
    Calls Tryz.prog 3 #[.agg #[.string h.name, .int .i64 h.height, .slice h.sa h.sets.length h.sc, .slice h.ra h.roofs.length h.rc], .agg #[.slice s.ca s.cues.length s.cc, .slice s.pa s.pairs.length s.pc]] w fun e w' => e = .returned (.bool true) ∧ Below w.heap.size w w' := by
  have hb0 : Below w.heap.size w ((w.alloc (.cells #[.string h.name, .int .i64 h.height, .slice h.sa h.sets.length h.sc, .slice h.ra h.roofs.length h.rc] 25)).alloc (.cells #[.slice s.ca s.cues.length s.cc, .slice s.pa s.pairs.length s.pc] 29)) := (below_new w _).alloc (by simp) _
  have HX : Hid (∀ w', Below ((w.alloc (.cells #[.string h.name, .int .i64 h.height, .slice h.sa h.sets.length h.sc, .slice h.ra h.roofs.length h.rc] 25)).alloc (.cells #[.slice s.ca s.cues.length s.cc, .slice s.pa s.pairs.length s.pc] 29)).heap.size ((w.alloc (.cells #[.string h.name, .int .i64 h.height, .slice h.sa h.sets.length h.sc, .slice h.ra h.roofs.length h.rc] 25)).alloc (.cells #[.slice s.ca s.cues.length s.cc, .slice s.pa s.pairs.length s.pc] 29)) w' → HouseAt w' w.heap.size h ∧ SheetAt w' (w.heap.size + 1) s ∧ HouseIn0 w' h ∧ SheetIn0 w' s) := Lib.hid fun w' q =>
    ⟨((HouseAt.new w h _).carry (below_new _ _)).carry q, (show SheetAt ((w.alloc (.cells #[.string h.name, .int .i64 h.height, .slice h.sa h.sets.length h.sc, .slice h.ra h.roofs.length h.rc] 25)).alloc (.cells #[.slice s.ca s.cues.length s.cc, .slice s.pa s.pairs.length s.pc] 29)) (w.heap.size + 1) s by unfold SheetAt; simp).carry q, (hh.grow hb0).grow q, (hs.grow hb0).grow q⟩
  have HW : Hid (∀ w', Below ((w.alloc (.cells #[.string h.name, .int .i64 h.height, .slice h.sa h.sets.length h.sc, .slice h.ra h.roofs.length h.rc] 25)).alloc (.cells #[.slice s.ca s.cues.length s.cc, .slice s.pa s.pairs.length s.pc] 29)).heap.size ((w.alloc (.cells #[.string h.name, .int .i64 h.height, .slice h.sa h.sets.length h.sc, .slice h.ra h.roofs.length h.rc] 25)).alloc (.cells #[.slice s.ca s.cues.length s.cc, .slice s.pa s.pairs.length s.pc] 29)) w' → Below w.heap.size w w') := Lib.hid fun w' q => hb0.trans (q.mono hb0.size)
  clear hh hs hb0
  cases hbc : bigB h s
  case true =>
    have HBC := Lib.hid hbc
    have HXR : Hid True := Lib.hid trivial
    clear hbc
    go_enter Tryz.func3, Tryz.ntmps3
    go_upto_region 1 with (fail)
    obtain ⟨W0, hW0⟩ : ∃ W0 : World, (w.alloc (.cells #[.string h.name, .int .i64 h.height, .slice h.sa h.sets.length h.sc, .slice h.ra h.roofs.length h.rc] 25)).alloc (.cells #[.slice s.ca s.cues.length s.cc, .slice s.pa s.pairs.length s.pc] 29) = W0 := ⟨_, rfl⟩
    simp only [hW0] at HX HW ⊢
    clear hW0
    obtain ⟨B1, hB1⟩ : ∃ b, w.heap.size = b := ⟨_, rfl⟩
    obtain ⟨B2, hB2⟩ : ∃ b, w.heap.size + 1 = b := ⟨_, rfl⟩
    rw [hB2] at HX ⊢
    rw [hB1] at HX ⊢
    clear hB1 hB2
    go_upto_region 3 with (go_at_call 4; (with_reducible refine (awake_any _).mono ?_); rintro e w1 ⟨rfl, hb1⟩; obtain ⟨⟨a0, a1, a2, a3⟩, ⟨s0, s1⟩, -, -⟩ := HX.out _ hb1)
    go_wp2_with (go_at_call 5; (with_reducible refine (big_any h s _ (HX.out _ hb1).2.2.1 (HX.out _ hb1).2.2.2).mono ?_); rintro e w2 ⟨rfl, hb2⟩; rw [HBC.out]; have hq2 := hb1.trans (hb2.mono hb1.size))
    go_ret
    exact ⟨rfl, HW.out _ hq2⟩
  have HBC := Lib.hid hbc
  clear hbc
  obtain ⟨sm, lc, mc⟩ := bigr_no HBC.out
  have HXR : Hid (∀ w', Below ((w.alloc (.cells #[.string h.name, .int .i64 h.height, .slice h.sa h.sets.length h.sc, .slice h.ra h.roofs.length h.rc] 25)).alloc (.cells #[.slice s.ca s.cues.length s.cc, .slice s.pa s.pairs.length s.pc] 29)).heap.size ((w.alloc (.cells #[.string h.name, .int .i64 h.height, .slice h.sa h.sets.length h.sc, .slice h.ra h.roofs.length h.rc] 25)).alloc (.cells #[.slice s.ca s.cues.length s.cc, .slice s.pa s.pairs.length s.pc] 29)) w' → HouseIn w' h) := Lib.hid fun w' q => smallH_in (by omega) (HX.out w' q).2.2.1 sm
  have HMC : Hid (∀ i, i < s.cues.length → (cg s.cues i).moves.length ≤ 1000) := Lib.hid fun i hi => by have := mc i hi; omega
  have hrl := runsX_len h s.cues
  have hsl : h.sets.length ≤ 900 := by have := sm.1; omega
  clear sm mc
  go_enter Tryz.func3, Tryz.ntmps3
  go_upto_region 1 with (fail)
  obtain ⟨W0, hW0⟩ : ∃ W0 : World, (w.alloc (.cells #[.string h.name, .int .i64 h.height, .slice h.sa h.sets.length h.sc, .slice h.ra h.roofs.length h.rc] 25)).alloc (.cells #[.slice s.ca s.cues.length s.cc, .slice s.pa s.pairs.length s.pc] 29) = W0 := ⟨_, rfl⟩
  simp only [hW0] at HX HW HXR ⊢
  clear hW0
  obtain ⟨B1, hB1⟩ : ∃ b, w.heap.size = b := ⟨_, rfl⟩
  obtain ⟨B2, hB2⟩ : ∃ b, w.heap.size + 1 = b := ⟨_, rfl⟩
  rw [hB2] at HX ⊢
  rw [hB1] at HX ⊢
  clear hB1 hB2
  go_upto_region 3 with (go_at_call 4; (with_reducible refine (awake_any _).mono ?_); rintro e w1 ⟨rfl, hb1⟩; obtain ⟨⟨a0, a1, a2, a3⟩, ⟨s0, s1⟩, -, -⟩ := HX.out _ hb1)
  go_upto_region 5 with (go_at_call 5; (with_reducible refine (big_any h s _ (HX.out _ hb1).2.2.1 (HX.out _ hb1).2.2.2).mono ?_); rintro e w2 ⟨rfl, hb2⟩; rw [HBC.out]; have hq2 := hb1.trans (hb2.mono hb1.size); obtain ⟨⟨x0, x1, x2, x3⟩, ⟨y0, y1⟩, -, -⟩ := HX.out _ hq2)
  clear a0 a1 a2 a3 s0 s1 hb1 hb2
  obtain ⟨E, hE⟩ : ∃ E, runsE h s.cues = E := ⟨_, rfl⟩
  obtain ⟨X, hX⟩ : ∃ X, runsX h s.cues = X := ⟨_, rfl⟩
  obtain ⟨n, hn⟩ : ∃ n, X.length = n := ⟨_, rfl⟩
  rw [hX] at hrl
  have HE := Lib.hid hE
  have HXX := Lib.hid hX
  have HN := Lib.hid hn
  rw [hn] at hrl
  clear hE hX hn
  go_upto_region 7 with (first
    | (go_at_call 6; (with_reducible refine (runs_any h s _ (HXR.out _ hq2) (HX.out _ hq2).2.2.2 (by omega) HMC.out).mono ?_); rintro e w4 ⟨hx4, hb4⟩; rw [HE.out, HXX.out, HN.out] at hx4; obtain ⟨v4, c4, rfl, hv4⟩ := hx4.out; have HV4 := Lib.hid hv4; clear hv4 hx4; have hq4 := hq2.trans (hb4.mono hq2.size); obtain ⟨⟨p0, p1, p2, p3⟩, ⟨q0, q1⟩, -, -⟩ := HX.out _ hq4)
    | (go_at_call 7; (with_reducible refine (refruns_any h s _ (HXR.out _ hq4) (HX.out _ hq4).2.2.2 (by omega) HMC.out).mono ?_); rintro e w5 ⟨hx5, hb5⟩; rw [HE.out, HXX.out, HN.out] at hx5; obtain ⟨v5, c5, rfl, hv5⟩ := hx5.out; have HV5 := Lib.hid hv5; clear hv5 hx5; have hq5 := hq4.trans (hb5.mono hq4.size)))
  clear x0 x1 x2 x3 y0 y1 p0 p1 p2 p3 q0 q1
  go_wp2_with (go_at_call 8; (with_reducible refine (eq_same _ _ X n _ _ _ HN.out (by omega) (HV4.out.grow hb5) HV5.out).mono ?_); rintro e w6 ⟨rfl, hb6⟩; have hq6 := hq5.trans (hb6.mono hq5.size))
  go_ret
  exact ⟨ret_bool (by simp), HW.out _ hq6⟩
end Go.Proofs.YthldfijlcoobgaaGreat
namespace Go.Proofs.YthldfijlcoobgaaGreat
open Go.ChangeShapes Go.WideShapes Go.ChangeAt Go.WideMaps Go.WideElems Go.RowKit

theorem own : ownKnob Tryz.prog.godebug = none := by kernel_rfl
theorem laidOut : laidOutB Tryz.prog = true := by kernel_rfl

section
variable {H : Type} {enc : TypeId × Value → H} {P : Program}
theorem post_of_below {f : Func} {s : ChangeSpec} {apart fresh handsOn again : Bool} {W W' : World} {args : Array Value} {v : Value} {ds gs : List (DataW H)} {before pa pv : List MemPlace}
    (hW : DataW.Whole enc P f.params.toList s.vars apart W args.toList ds gs before)
    (hres : ∀ (b : Nat) (sp : Nat → Bool) (hd : Bool), DataW.TrodAll enc P W' b sp hd f.resultTypes.toList (v.resultList f.resultTypes.size) (s.fn H (ds ++ gs)).results [])
    (hargs : ∀ sp : Nat → Bool, (∀ p ∈ before, sp p.block = true) → DataW.TrodAll enc P W' 0 sp true f.params.toList args.toList (s.fn H (ds ++ gs)).args pa)
    (hvars : ∀ sp : Nat → Bool, (∀ p ∈ before, sp p.block = true) → DataW.TrodVars enc P W' sp s.vars (s.fn H (ds ++ gs)).vars pv)
    (hps : before = pa ++ pv) (hb : Below W.heap.size W W')
    (hok : ∀ (j : Nat) (t : TypeId) (r : Value), f.resultTypes[j]? = some t → (v.resultList f.resultTypes.size)[j]? = some r → Value.okWide P W' .any 0 t r) :
    s.post enc P f apart fresh handsOn again W args v W' := by
  have hlt : ∀ p ∈ before, p.block < W.heap.size := fun p hp => hW.lt p hp
  have hold : ∀ p ∈ before, (fun b => decide (b < W.heap.size)) p.block = true := fun p hp => by simpa using hlt p hp
  refine ⟨ds, gs, before, [], pa, pv, hW, hres _ _ _, hargs _ hold, hvars _ hold, World.keptBut_mono (fun p hp => ⟨hp, ?_⟩) (hb.frame (· ∈ before)), fun _ => ?_⟩
  · rw [hps, List.mem_append] at hp
    exact Or.inr hp
  · obtain ⟨_, _, _, _, _, hz, hn⟩ := hW
    refine ⟨hok, _, _, ([] ++ pa) ++ pv, ⟨[] ++ pa, pv, trodAll_append (hargs _ (fun _ _ => rfl)) (hres _ _ _), hvars _ (fun _ _ => rfl), rfl, ?_, ?_⟩, ?_⟩
    · intro b off hp
      have hin : MemPlace.cell b off ∈ before := by rw [hps]; simpa using hp
      rw [hb.frozen (hlt _ hin)]
      exact hz b off hin
    · intro ha
      have := hn ha
      rw [hps] at this
      simpa using this
    · intro p hp _
      rw [hps]
      simpa using hp

theorem trodAll_below (hl : laidOutB P = true) {W W' : World} (hb : Below W.heap.size W W') (sp : Nat → Bool) :
    ∀ {ts : List TypeId} {vs : List Value} {ds : List (DataW H)} {ps : List MemPlace}, (ts.all fun t => P.readableRec t && decide (t < P.types.size)) = true → DataW.TrodAll enc P W 0 (fun _ => true) true ts vs ds ps →
      (∀ x ∈ ps, x.block < W.heap.size) → (∀ x ∈ ps, sp x.block = true) → DataW.TrodAll enc P W' 0 sp true ts vs ds ps
  | [], [], [], _, _, h, _, _ => h
  | t :: ts, v :: vs, d :: ds, _, ht, ⟨p, q, h0, h1, rfl⟩, hlt, hsp => by
    simp only [List.all_cons, Bool.and_eq_true, decide_eq_true_eq] at ht
    exact ⟨p, q, WideElems.Trod_stays hl ht.1.1 ht.1.2 h0 (fun x hx => hb.same (hlt x (List.mem_append.2 (.inl hx)))) (fun x hx => hsp x (List.mem_append.2 (.inl hx))),
      trodAll_below hl hb sp (by simpa using ht.2) h1 (fun x hx => hlt x (List.mem_append.2 (.inr hx))) (fun x hx => hsp x (List.mem_append.2 (.inr hx))), rfl⟩
  | [], [], _ :: _, _, _, h, _, _ => h.elim
  | [], _ :: _, _, _, _, h, _, _ => h.elim
  | _ :: _, [], _, _, _, h, _, _ => h.elim
  | _ :: _, _ :: _, [], _, _, h, _, _ => h.elim

theorem law_post {f : Func} {s : ChangeSpec} {apart fresh handsOn again : Bool} {W W' : World} {args : Array Value} {ds gs : List (DataW H)} {before : List MemPlace} {tb : TypeId}
    (hl : laidOutB P = true) (hr : (f.params.toList.all fun t => P.readableRec t && decide (t < P.types.size)) = true) (hW : DataW.Whole enc P f.params.toList s.vars apart W args.toList ds gs before)
    (hv : s.vars = []) (hfn : s.fn H (ds ++ gs) = { results := [.lit (.bool true)], args := ds }) (ht : f.resultTypes = #[tb]) (hu : P.underlying tb = some .bool) (hb : Below W.heap.size W W') :
    s.post enc P f apart fresh handsOn again W args (.bool true) W' := by
  have hlt : ∀ p ∈ before, p.block < W.heap.size := fun p hp => hW.lt p hp
  have hW2 := hW
  obtain ⟨p, q, hA, hV, hpq, _, _⟩ := hW
  have hV' := hV
  rw [hv] at hV'
  obtain ⟨rfl, rfl⟩ := trodVars_none hV'
  have hpp : before = p := by rw [hpq, List.append_nil]
  refine post_of_below (pa := before) (pv := []) hW2 ?_ ?_ ?_ (by simp) hb ?_
  · intro b sp hd
    rw [hfn, ht]
    exact trodAll_mk1 (shut_bool hu _)
  · intro sp hsp
    rw [hfn]
    exact trodAll_below hl hb sp hr (by rw [hpp]; exact hA) hlt hsp
  · intro sp hsp
    rw [hfn, hv]
    rfl
  · intro j t r hj hrr
    rw [ht] at hj hrr
    exact ok_one ht rfl (okWide_bool_mk hu _) j t r (by rw [ht]; exact hj) (by rw [ht]; exact hrr)
end
end Go.Proofs.YthldfijlcoobgaaGreat
namespace Go.Proofs.YthldfijlcoobgaaGreat
open Go.ChangeShapes Go.WideShapes Go.ChangeAt Go.WideMaps Go.WideElems Go.RowKit Go.Deep

theorem flatMap_get {X : Type} (cells : X → List Value) (size : Nat) (hlen : ∀ r, (cells r).length = size) : ∀ (L : List X) (j : Nat) (u : Value), (L.flatMap cells)[j]? = some u → ∃ i k r, j = i * size + k ∧ L[i]? = some r ∧ (cells r)[k]? = some u
  | [], j, u, h => by simp at h
  | x :: l, j, u, h => by
    rw [List.flatMap_cons, List.getElem?_append] at h
    split at h
    · exact ⟨0, j, x, by omega, rfl, h⟩
    · next hj =>
      rw [hlen] at h hj
      obtain ⟨i, k, r, e, h1, h2⟩ := flatMap_get cells size hlen l _ u h
      exact ⟨i + 1, k, r, by rw [Nat.add_mul]; omega, h1, h2⟩

section
variable {H : Type} {enc : TypeId × Value → H} {P : Program} {w : World} {base : Nat} {spare : Nat → Bool} {held : Bool}
theorem open_rows {X : Type} [Inhabited X] (cells : X → List Value) (size : Nat) (Fit : X → Prop) (hsize : 0 < size) (hlen : ∀ r, (cells r).length = size) {t e : TypeId} (ht : P.underlying t = some (.slice e)) (hC : P.cellsOf e = size)
    (hel : ∀ n cs' y, cs'.length = size → DataW.trod enc P w base spare held n e cs' = some y → ∃ r, cs' = cells r ∧ Fit r) {fuel : Nat} {v : Value} {x : DataW H × List MemPlace} (h : DataW.trod enc P w base spare held fuel t [v] = some x) :
    ∃ (a : Option Addr) (cap : Nat) (L : List X), v = .slice a L.length cap ∧ L.length ≤ cap ∧ cap ≤ maxLen ∧ (a = none → cap = 0) ∧ (∀ r ∈ L, Fit r) ∧
      (0 < L.length → ∃ b off, a = some ⟨b, off, none⟩ ∧ b < w.heap.size ∧ ∀ j u, (L.flatMap cells)[j]? = some u → w.cell? ⟨b, off + j, none⟩ = some u) := by
  rcases open_slice ht h with ⟨hcs, _⟩ | ⟨a, len, cap, m, n, D, Pl, hcs, _, hl, hm, hmm, _, hi⟩
  · simp only [List.cons.injEq, and_true] at hcs
    subst hcs
    exact ⟨none, 0, [], rfl, Nat.le_refl _, by unfold maxLen; omega, fun _ => rfl, (fun _ h => by cases h), fun h => absurd h (Nat.not_lt_zero _)⟩
  · simp only [List.cons.injEq, and_true] at hcs
    subst hcs
    have hlm : len ≤ m := by rw [hmm]; split <;> omega
    have hex : ∀ i, ∃ r : X, i < len → Fit r ∧ ∀ k u, (cells r)[k]? = some u → w.cell? (a.add (i * size + k)) = some u := fun i => by
      by_cases h : i < len
      · obtain ⟨cs', hc, ht'⟩ := hi i (by omega)
        rw [hC] at hc
        obtain ⟨_, hcl, hat⟩ := World.cells?_some hc
        obtain ⟨r, e, hf⟩ := hel n cs' _ hcl ht'
        refine ⟨r, fun _ => ⟨hf, fun k u hu => ?_⟩⟩
        rw [← e] at hu
        have hk : k < size := by
          have := (List.getElem?_eq_some_iff.1 hu).1
          omega
        rw [← Go.Deep.add_add, hat k hk, hu]
      · exact ⟨default, fun h' => absurd h' h⟩
    obtain ⟨f, hf⟩ := Classical.axiomOfChoice hex
    refine ⟨some a, cap, (List.range len).map f, by simp, by simpa using hl, hm, (fun e => by cases e), ?_, ?_⟩
    · intro r hr
      obtain ⟨i, hi', rfl⟩ := List.mem_map.1 hr
      exact (hf i (by simpa using hi')).1
    · intro hpos
      have hpos' : 0 < len := by simpa using hpos
      have hcell : ∀ i k u, i < len → (cells (f i))[k]? = some u → w.cell? (a.add (i * size + k)) = some u := fun i k u h hu => (hf i h).2 k u hu
      have h0 : ∃ u, (cells (f 0))[0]? = some u := ⟨_, List.getElem?_eq_getElem (by rw [hlen]; exact hsize)⟩
      obtain ⟨u0, hu0⟩ := h0
      have hc0 := hcell 0 0 u0 hpos' hu0
      obtain ⟨b, off, spot⟩ := a
      have hspot : spot = none := by simpa [Addr.add] using World.cell?_spot hc0
      subst hspot
      refine ⟨b, off, rfl, ?_, fun j u hj => ?_⟩
      · rw [Go.WideShapes.add_plain] at hc0
        exact World.block_lt_of_cell? w _ hc0
      · obtain ⟨i, k, r, e, h1, h2⟩ := flatMap_get cells size hlen _ j u hj
        rw [List.getElem?_map] at h1
        have hil : i < len := by
          rcases Nat.lt_or_ge i len with l | l
          · exact l
          · rw [List.getElem?_eq_none (by simpa using l)] at h1; cases h1
        rw [List.getElem?_range hil] at h1
        obtain rfl : f i = r := by simpa using h1
        have := hcell i k u hil h2
        rw [Go.WideShapes.add_plain] at this
        rw [e]
        exact this
/-- An element that is a struct of one-cell fields. -/
theorem elem_fields {e : TypeId} {fs : Array Field} {n : Nat} {cs' : List Value} {y : DataW H × List MemPlace} (he : P.underlying e = some (.struct fs)) (hone : oneCellFields P fs = true) (hl : cs'.length = fs.size) (h : DataW.trod enc P w base spare held n e cs' = some y) :
    ∃ m, ∀ (j : Nat) (f : Field), fs[j]? = some f → ∃ (v : Value) (z : DataW H × List MemPlace), cs'[j]? = some v ∧ DataW.trod enc P w base spare held m f.type [v] = some z := by
  obtain ⟨ys, n', hn', hy, hlen, hyl, hf⟩ := DataW.trod_struct he h
  refine ⟨n', fun j f hj => ?_⟩
  obtain ⟨ho, hk⟩ := hone_of hone j f hj
  have hjl : j < fs.size := (Array.getElem?_eq_some_iff.1 hj).1
  have hv : cs'[j]? = some (cs'[j]'(by omega)) := List.getElem?_eq_getElem (by omega)
  have h1 := hf j f hj
  rw [ho, hk] at h1
  have hone' : (cs'.drop j).take 1 = [cs'[j]'(by omega)] := by
    rw [List.drop_eq_getElem_cons (by omega)]
    rfl
  rw [hone'] at h1
  exact ⟨_, ys[j]'(by omega), hv, h1.trans (List.getElem?_eq_getElem (by omega))⟩
/-- A field that is a slice of whatever. -/
theorem field_slice {t e : TypeId} {n : Nat} {v : Value} {y : DataW H × List MemPlace} (ht : P.underlying t = some (.slice e)) (h : DataW.trod enc P w base spare held n t [v] = some y) : ∃ a l c, v = .slice a l c := by
  rcases open_slice ht h with ⟨hcs, _⟩ | ⟨a, len, cap, m, n, D, Pl, hcs, _⟩
  · simp only [List.cons.injEq, and_true] at hcs
    exact ⟨_, _, _, hcs⟩
  · simp only [List.cons.injEq, and_true] at hcs
    exact ⟨_, _, _, hcs⟩
end
end Go.Proofs.YthldfijlcoobgaaGreat
namespace Go.Proofs.YthldfijlcoobgaaGreat
open Go.ChangeShapes Go.WideShapes Go.ChangeAt Go.WideMaps Go.WideElems Go.RowKit Go.Deep Go.Joins

theorem num_of_flat {n₀ : Nat} {w : World} {a : Option Addr} {L : List (Int)} (h : 0 < L.length → ∃ b off, a = some ⟨b, off, none⟩ ∧ b < n₀ ∧ ∀ j u, (nflat L)[j]? = some u → w.cell? ⟨b, off + j, none⟩ = some u) : Nums n₀ w a L := fun hl => by
  obtain ⟨b, off, e, hb, hc⟩ := h hl
  refine ⟨b, off, e, hb, fun i hi => ?_⟩
  have f0 := nflat_at L i hi
  have c0 := hc _ _ f0
  try simp only [← Nat.add_assoc] at c0
  exact c0

theorem span_of_flat {n₀ : Nat} {w : World} {a : Option Addr} {L : List (Int × Int)} (h : 0 < L.length → ∃ b off, a = some ⟨b, off, none⟩ ∧ b < n₀ ∧ ∀ j u, (sflat L)[j]? = some u → w.cell? ⟨b, off + j, none⟩ = some u) : Spans n₀ w a L := fun hl => by
  obtain ⟨b, off, e, hb, hc⟩ := h hl
  refine ⟨b, off, e, hb, fun i hi => ?_⟩
  obtain ⟨f0, f1⟩ := sflat_at L i hi
  have c0 := hc _ _ f0
  have c1 := hc _ _ f1
  try simp only [← Nat.add_assoc] at c0 c1
  exact ⟨c0, c1⟩

theorem hold_of_flat {n₀ : Nat} {w : World} {a : Option Addr} {L : List (HoldR)} (h : 0 < L.length → ∃ b off, a = some ⟨b, off, none⟩ ∧ b < n₀ ∧ ∀ j u, (hflat L)[j]? = some u → w.cell? ⟨b, off + j, none⟩ = some u) : Holds n₀ w a L := fun hl => by
  obtain ⟨b, off, e, hb, hc⟩ := h hl
  refine ⟨b, off, e, hb, fun i hi => ?_⟩
  obtain ⟨f0, f1, f2, f3⟩ := hflat_at L i hi
  have c0 := hc _ _ f0
  have c1 := hc _ _ f1
  have c2 := hc _ _ f2
  have c3 := hc _ _ f3
  try simp only [← Nat.add_assoc] at c0 c1 c2 c3
  exact ⟨c0, c1, c2, c3⟩

instance : Inhabited HoldR := ⟨⟨⟨#[]⟩, 0, 0, 0⟩⟩
section
variable {H : Type} {enc : TypeId × Value → H} {w : World} {base : Nat} {spare : Nat → Bool} {held : Bool}
theorem open_nums {fuel : Nat} {v : Value} {x : DataW H × List MemPlace} (h : DataW.trod enc Tryz.prog w base spare held fuel 32 [v] = some x) :
    ∃ (a : Option Addr) (cap : Nat) (L : List Int), v = .slice a L.length cap ∧ L.length ≤ cap ∧ cap ≤ maxLen ∧ (a = none → cap = 0) ∧ (∀ r ∈ L, (Lit.int .i64 r).wf = true) ∧ Nums w.heap.size w a L := by
  obtain ⟨a, cap, L, h1, h2, h3, h4, h5, h6⟩ := open_rows (P := Tryz.prog) (fun r : Int => [Value.int .i64 r]) 1 (fun r => (Lit.int .i64 r).wf = true) (by decide) (fun _ => rfl) Tryz.underlying32 (by kernel_rfl) (fun n cs' y hl ht => by
    obtain ⟨m, e, _, hw⟩ := DataW.trod_int Tryz.underlying3 ht
    exact ⟨m, e, hw⟩) h
  exact ⟨a, cap, L, h1, h2, h3, h4, h5, num_of_flat h6⟩
theorem open_spans {fuel : Nat} {v : Value} {x : DataW H × List MemPlace} (h : DataW.trod enc Tryz.prog w base spare held fuel 51 [v] = some x) :
    ∃ (a : Option Addr) (cap : Nat) (L : List (Int × Int)), v = .slice a L.length cap ∧ L.length ≤ cap ∧ cap ≤ maxLen ∧ (a = none → cap = 0) ∧ Spans w.heap.size w a L := by
  obtain ⟨a, cap, L, h1, h2, h3, h4, _, h6⟩ := open_rows (P := Tryz.prog) (fun r : Int × Int => [.int .i64 r.1, .int .i64 r.2]) 2 (fun _ => True) (by decide) (fun _ => rfl) Tryz.underlying51 (by kernel_rfl) (fun n cs' y hl ht => by
    obtain ⟨m, hf⟩ := elem_fields Tryz.underlying50 (by kernel_rfl) (by rw [hl]; rfl) ht
    obtain ⟨v0, z0, c0, t0⟩ := hf 0 _ rfl
    obtain ⟨v1, z1, c1, t1⟩ := hf 1 _ rfl
    obtain ⟨n0, e0, _, w0⟩ := DataW.trod_int Tryz.underlying3 t0
    obtain ⟨n1, e1, _, w1⟩ := DataW.trod_int Tryz.underlying3 t1
    simp only [List.cons.injEq, and_true] at e0 e1
    subst e0 e1
    match cs', hl with
    | [x0, x1], _ =>
      simp only [List.getElem?_cons_zero, List.getElem?_cons_succ, Option.some.injEq] at c0 c1
      subst c0 c1
      exact ⟨(n0, n1), rfl, trivial⟩) h
  exact ⟨a, cap, L, h1, h2, h3, h4, span_of_flat h6⟩
set_option maxRecDepth 100000 in
theorem open_frac {fuel : Nat} {cs : List Value} {x : DataW H × List MemPlace} (hl : cs.length = 2) (h : DataW.trod enc Tryz.prog w base spare held fuel 76 cs = some x) : ∃ n d : Int, cs = [.int .i64 n, .int .i64 d] := by
  obtain ⟨m, hf⟩ := elem_fields Tryz.underlying76 (by kernel_rfl) (by rw [hl]; rfl) h
  obtain ⟨v0, z0, c0, t0⟩ := hf 0 _ rfl
  obtain ⟨v1, z1, c1, t1⟩ := hf 1 _ rfl
  obtain ⟨n0, e0, _, w0⟩ := DataW.trod_int Tryz.underlying3 t0
  obtain ⟨n1, e1, _, w1⟩ := DataW.trod_int Tryz.underlying3 t1
  simp only [List.cons.injEq, and_true] at e0 e1
  subst e0 e1
  match cs, hl with
  | [x0, x1], _ =>
    simp only [List.getElem?_cons_zero, List.getElem?_cons_succ, Option.some.injEq] at c0 c1
    subst c0 c1
    exact ⟨n0, n1, rfl⟩
set_option maxRecDepth 100000 in
theorem open_holds {fuel : Nat} {v : Value} {x : DataW H × List MemPlace} (h : DataW.trod enc Tryz.prog w base spare held fuel 41 [v] = some x) :
    ∃ (a : Option Addr) (cap : Nat) (L : List HoldR), v = .slice a L.length cap ∧ L.length ≤ cap ∧ cap ≤ maxLen ∧ (a = none → cap = 0) ∧ Holds w.heap.size w a L := by
  obtain ⟨a, cap, L, h1, h2, h3, h4, _, h6⟩ := open_rows (P := Tryz.prog) (fun r : HoldR => [.string r.block, .int .i64 r.pulls, .int .i64 r.ln, .int .i64 r.ld]) 4 (fun _ => True) (by decide) (fun _ => rfl) Tryz.underlying41 (by kernel_rfl) (fun n cs' y hl ht => by
    obtain ⟨ys, m, _, _, _, hyl, hf⟩ := DataW.trod_struct Tryz.underlying79 ht
    have f0 : DataW.trod enc Tryz.prog w base spare held m 9 ((cs'.drop 0).take (Tryz.prog.cellsOf 9)) = ys[0]? := hf 0 _ rfl
    have f1 : DataW.trod enc Tryz.prog w base spare held m 3 ((cs'.drop 1).take (Tryz.prog.cellsOf 3)) = ys[1]? := hf 1 _ rfl
    have f2 : DataW.trod enc Tryz.prog w base spare held m 76 ((cs'.drop 2).take (Tryz.prog.cellsOf 76)) = ys[2]? := hf 2 _ rfl
    have C0 : Tryz.prog.cellsOf 9 = 1 := by kernel_rfl
    have C1 : Tryz.prog.cellsOf 3 = 1 := by kernel_rfl
    have C2 : Tryz.prog.cellsOf 76 = 2 := by kernel_rfl
    rw [C0] at f0
    rw [C1] at f1
    rw [C2] at f2
    match cs', hl, ys, hyl with
    | [x0, x1, x2, x3], _, [y0, y1, y2], _ =>
      obtain ⟨n0, e0, _, _⟩ := DataW.trod_string Tryz.underlying9 (cs := [x0]) (x := y0) f0
      obtain ⟨n1, e1, _, _⟩ := DataW.trod_int Tryz.underlying3 (cs := [x1]) (x := y1) f1
      obtain ⟨n2, n3, e2⟩ := open_frac (cs := [x2, x3]) (x := y2) rfl f2
      simp only [List.cons.injEq, and_true] at e0 e1 e2
      obtain ⟨e2, e3⟩ := e2
      subst e0 e1 e2 e3
      exact ⟨⟨n0, n1, n2, n3⟩, rfl, trivial⟩) h
  exact ⟨a, cap, L, h1, h2, h3, h4, hold_of_flat h6⟩
end
section
variable {H : Type} {enc : TypeId × Value → H} {W : World} {base : Nat}
set_option maxRecDepth 100000 in
theorem open_numsA {v : Value} {d : DataW H} {p : List MemPlace} (hv : Value.okWide Tryz.prog W .any base 32 v) (h : DataW.Trod enc Tryz.prog W 0 (fun _ => true) true 32 v d p) :
    ∃ (a : Option Addr) (cap : Nat) (L : List Int), v = .slice a L.length cap ∧ L.length ≤ cap ∧ cap ≤ maxLen ∧ (a = none → cap = 0) ∧ (∀ r ∈ L, (Lit.int .i64 r).wf = true) ∧ Nums W.heap.size W a L := by
  obtain ⟨a0, len0, cap0, rfl⟩ := okWide_slice Tryz.underlying32 hv
  obtain ⟨fuel, hf⟩ := h
  exact open_nums (v := .slice a0 len0 cap0) hf
set_option maxRecDepth 100000 in
theorem open_spansA {v : Value} {d : DataW H} {p : List MemPlace} (hv : Value.okWide Tryz.prog W .any base 51 v) (h : DataW.Trod enc Tryz.prog W 0 (fun _ => true) true 51 v d p) :
    ∃ (a : Option Addr) (cap : Nat) (L : List (Int × Int)), v = .slice a L.length cap ∧ L.length ≤ cap ∧ cap ≤ maxLen ∧ (a = none → cap = 0) ∧ Spans W.heap.size W a L := by
  obtain ⟨a0, len0, cap0, rfl⟩ := okWide_slice Tryz.underlying51 hv
  obtain ⟨fuel, hf⟩ := h
  exact open_spans (v := .slice a0 len0 cap0) hf
set_option maxRecDepth 100000 in
theorem open_rope {v : Value} {d : DataW H} {p : List MemPlace} (hv : Value.okWide Tryz.prog W .any base 43 v) (h : DataW.Trod enc Tryz.prog W 0 (fun _ => true) true 43 v d p) :
    ∃ (nm : ByteArray) (a : Option Addr) (cap : Nat) (L : List HoldR) (hd : Bool), v = .agg #[.string nm, .slice a L.length cap, .bool hd] ∧ L.length ≤ cap ∧ cap ≤ maxLen ∧ (a = none → cap = 0) ∧ Holds W.heap.size W a L := by
  obtain ⟨v0, v1, v2, y0, y1, y2, n, rfl, _, _, h0, h1, h2⟩ := open_agg3 Tryz.underlying43 (by kernel_rfl) (by kernel_rfl) hv h
  obtain ⟨nm, e0, _, _⟩ := DataW.trod_string Tryz.underlying9 h0
  obtain ⟨a, cap, L, rfl, c1, c2, c3, c4⟩ := open_holds h1
  obtain ⟨hd, e2, _⟩ := DataW.trod_bool Tryz.underlying4 h2
  simp only [List.cons.injEq, and_true] at e0 e2
  subst e0 e2
  exact ⟨nm, a, cap, L, hd, rfl, c1, c2, c3, c4⟩
end
end Go.Proofs.YthldfijlcoobgaaGreat
namespace Go.Proofs.YthldfijlcoobgaaGreat
open Go.ChangeShapes Go.WideShapes Go.ChangeAt Go.WideMaps Go.WideElems Go.RowKit Go.Deep Go.Joins

theorem brick_of_flat {n₀ : Nat} {w : World} {a : Option Addr} {L : List (BrickR)} (h : 0 < L.length → ∃ b off, a = some ⟨b, off, none⟩ ∧ b < n₀ ∧ ∀ j u, (kflat L)[j]? = some u → w.cell? ⟨b, off + j, none⟩ = some u) : Bricks n₀ w a L := fun hl => by
  obtain ⟨b, off, e, hb, hc⟩ := h hl
  refine ⟨b, off, e, hb, fun i hi => ?_⟩
  obtain ⟨f0, f1, f2⟩ := kflat_at L i hi
  have c0 := hc _ _ f0
  have c1 := hc _ _ f1
  have c2 := hc _ _ f2
  try simp only [← Nat.add_assoc] at c0 c1 c2
  exact ⟨c0, c1, c2⟩
instance : Inhabited BrickR := ⟨⟨⟨#[]⟩, 0, 0⟩⟩
section
variable {H : Type} {enc : TypeId × Value → H} {w : World} {base : Nat} {spare : Nat → Bool} {held : Bool}
set_option maxRecDepth 100000 in
theorem open_bricks {fuel : Nat} {v : Value} {x : DataW H × List MemPlace} (h : DataW.trod enc Tryz.prog w base spare held fuel 69 [v] = some x) :
    ∃ (a : Option Addr) (cap : Nat) (L : List BrickR), v = .slice a L.length cap ∧ L.length ≤ cap ∧ cap ≤ maxLen ∧ (a = none → cap = 0) ∧ Bricks w.heap.size w a L := by
  obtain ⟨a, cap, L, h1, h2, h3, h4, _, h6⟩ := open_rows (P := Tryz.prog) (fun r : BrickR => [.string r.name, .int .i64 r.weight, .int .i64 r.count]) 3 (fun _ => True) (by decide) (fun _ => rfl) Tryz.underlying69 (by kernel_rfl) (fun n cs' y hl ht => by
    obtain ⟨m, hf⟩ := elem_fields Tryz.underlying104 (by kernel_rfl) (by rw [hl]; rfl) ht
    obtain ⟨v0, z0, c0, t0⟩ := hf 0 _ rfl
    obtain ⟨v1, z1, c1, t1⟩ := hf 1 _ rfl
    obtain ⟨v2, z2, c2, t2⟩ := hf 2 _ rfl
    obtain ⟨n0, e0, _, _⟩ := DataW.trod_string Tryz.underlying9 t0
    obtain ⟨n1, e1, _, w1⟩ := DataW.trod_int Tryz.underlying3 t1
    obtain ⟨n2, e2, _, w2⟩ := DataW.trod_int Tryz.underlying3 t2
    simp only [List.cons.injEq, and_true] at e0 e1 e2
    subst e0 e1 e2
    match cs', hl with
    | [x0, x1, x2], _ =>
      simp only [List.getElem?_cons_zero, List.getElem?_cons_succ, Option.some.injEq] at c0 c1 c2
      subst c0 c1 c2
      exact ⟨⟨n0, n1, n2⟩, rfl, trivial⟩) h
  exact ⟨a, cap, L, h1, h2, h3, h4, brick_of_flat h6⟩
end
section
variable {H : Type} {enc : TypeId × Value → H} {W : World} {base : Nat}
set_option maxRecDepth 100000 in
theorem open_bricksA {v : Value} {d : DataW H} {p : List MemPlace} (hv : Value.okWide Tryz.prog W .any base 69 v) (h : DataW.Trod enc Tryz.prog W 0 (fun _ => true) true 69 v d p) :
    ∃ (a : Option Addr) (cap : Nat) (L : List BrickR), v = .slice a L.length cap ∧ L.length ≤ cap ∧ cap ≤ maxLen ∧ (a = none → cap = 0) ∧ Bricks W.heap.size W a L := by
  obtain ⟨a0, len0, cap0, rfl⟩ := okWide_slice Tryz.underlying69 hv
  obtain ⟨fuel, hf⟩ := h
  exact open_bricks (v := .slice a0 len0 cap0) hf
end
end Go.Proofs.YthldfijlcoobgaaGreat
namespace Go.Proofs.YthldfijlcoobgaaGreat
open Go.ChangeShapes Go.WideShapes Go.ChangeAt Go.WideMaps Go.WideElems Go.RowKit Go.Deep Go.Joins
theorem item_of_flat {n₀ : Nat} {w : World} {a : Option Addr} {L : List ItemR} (h : 0 < L.length → ∃ b off, a = some ⟨b, off, none⟩ ∧ b < n₀ ∧ ∀ j u, (tflat L)[j]? = some u → w.cell? ⟨b, off + j, none⟩ = some u) : Items n₀ w a L := fun hl => by
  obtain ⟨b, off, e, hb, hc⟩ := h hl
  refine ⟨b, off, e, hb, fun i hi => ?_⟩
  obtain ⟨f0, f1, f2, f3, f4, f5, f6⟩ := tflat_at L i hi
  have c0 := hc _ _ f0
  have c1 := hc _ _ f1
  have c2 := hc _ _ f2
  have c3 := hc _ _ f3
  have c4 := hc _ _ f4
  have c5 := hc _ _ f5
  have c6 := hc _ _ f6
  try simp only [← Nat.add_assoc] at c0 c1 c2 c3 c4 c5 c6
  exact ⟨c0, c1, c2, c3, c4, c5, c6⟩
instance : Inhabited ItemR := ⟨⟨⟨#[]⟩, 0, 0, 0, 0, 0, 0⟩⟩
section
variable {H : Type} {enc : TypeId × Value → H} {w : World} {base : Nat} {spare : Nat → Bool} {held : Bool}
set_option maxRecDepth 100000 in
theorem open_items {fuel : Nat} {v : Value} {x : DataW H × List MemPlace} (h : DataW.trod enc Tryz.prog w base spare held fuel 68 [v] = some x) :
    ∃ (a : Option Addr) (cap : Nat) (L : List ItemR), v = .slice a L.length cap ∧ L.length ≤ cap ∧ cap ≤ maxLen ∧ (a = none → cap = 0) ∧ Items w.heap.size w a L := by
  obtain ⟨a, cap, L, h1, h2, h3, h4, _, h6⟩ := open_rows (P := Tryz.prog) (fun r : ItemR => [.string r.name, .int .i64 r.pos, .int .i64 r.width, .int .i64 r.weight, .int .i64 r.hang, .int .i64 r.front, .int .i64 r.back]) 7 (fun _ => True) (by decide) (fun _ => rfl) Tryz.underlying68 (by kernel_rfl) (fun n cs' y hl ht => by
    obtain ⟨m, hf⟩ := elem_fields Tryz.underlying102 (by kernel_rfl) (by rw [hl]; rfl) ht
    obtain ⟨v0, z0, c0, t0⟩ := hf 0 _ rfl
    obtain ⟨v1, z1, c1, t1⟩ := hf 1 _ rfl
    obtain ⟨v2, z2, c2, t2⟩ := hf 2 _ rfl
    obtain ⟨v3, z3, c3, t3⟩ := hf 3 _ rfl
    obtain ⟨v4, z4, c4, t4⟩ := hf 4 _ rfl
    obtain ⟨v5, z5, c5, t5⟩ := hf 5 _ rfl
    obtain ⟨v6, z6, c6, t6⟩ := hf 6 _ rfl
    obtain ⟨n0, e0, _, _⟩ := DataW.trod_string Tryz.underlying9 t0
    obtain ⟨n1, e1, _, w1⟩ := DataW.trod_int Tryz.underlying3 t1
    obtain ⟨n2, e2, _, w2⟩ := DataW.trod_int Tryz.underlying3 t2
    obtain ⟨n3, e3, _, w3⟩ := DataW.trod_int Tryz.underlying3 t3
    obtain ⟨n4, e4, _, w4⟩ := DataW.trod_int Tryz.underlying3 t4
    obtain ⟨n5, e5, _, w5⟩ := DataW.trod_int Tryz.underlying3 t5
    obtain ⟨n6, e6, _, w6⟩ := DataW.trod_int Tryz.underlying3 t6
    simp only [List.cons.injEq, and_true] at e0 e1 e2 e3 e4 e5 e6
    subst e0 e1 e2 e3 e4 e5 e6
    match cs', hl with
    | [x0, x1, x2, x3, x4, x5, x6], _ =>
      simp only [List.getElem?_cons_zero, List.getElem?_cons_succ, Option.some.injEq] at c0 c1 c2 c3 c4 c5 c6
      subst c0 c1 c2 c3 c4 c5 c6
      exact ⟨⟨n0, n1, n2, n3, n4, n5, n6⟩, rfl, trivial⟩) h
  exact ⟨a, cap, L, h1, h2, h3, h4, item_of_flat h6⟩
end
section
variable {H : Type} {enc : TypeId × Value → H} {W : World} {base : Nat}
set_option maxRecDepth 100000 in
theorem open_set {v : Value} {d : DataW H} {p : List MemPlace} (hv : Value.okWide Tryz.prog W .any base 71 v) (h : DataW.Trod enc Tryz.prog W 0 (fun _ => true) true 71 v d p) :
    ∃ r : SetR, v = .agg #[.string r.name, .int .i64 r.depth, .int .i64 r.low, .int .i64 r.high, .int .i64 r.length, .slice r.la r.lines.length r.lc, .int .i64 r.pipe, .int .i64 r.arbor, .int .i64 r.purchase, .int .i64 r.most, .int .i64 r.brake, .slice r.ia r.items.length r.ic, .slice r.ba r.bricks.length r.bc] ∧ SetIn0 W r := by
  obtain ⟨cs, rfl, hsz⟩ := okWide_struct Tryz.underlying71 hv
  obtain ⟨l⟩ := cs
  match l, hsz.trans (show Tryz.prog.cellsOf 71 = 13 by kernel_rfl) with
  | [x0, x1, x2, x3, x4, x5, x6, x7, x8, x9, x10, x11, x12], _ =>
    obtain ⟨fuel, hf0⟩ := h
    obtain ⟨m, hf⟩ := elem_fields (cs' := [x0, x1, x2, x3, x4, x5, x6, x7, x8, x9, x10, x11, x12]) Tryz.underlying71 (by kernel_rfl) rfl (by simpa [Value.cells] using hf0)
    obtain ⟨v0, z0, c0, t0⟩ := hf 0 _ rfl
    obtain ⟨v1, z1, c1, t1⟩ := hf 1 _ rfl
    obtain ⟨v2, z2, c2, t2⟩ := hf 2 _ rfl
    obtain ⟨v3, z3, c3, t3⟩ := hf 3 _ rfl
    obtain ⟨v4, z4, c4, t4⟩ := hf 4 _ rfl
    obtain ⟨v5, z5, c5, t5⟩ := hf 5 _ rfl
    obtain ⟨v6, z6, c6, t6⟩ := hf 6 _ rfl
    obtain ⟨v7, z7, c7, t7⟩ := hf 7 _ rfl
    obtain ⟨v8, z8, c8, t8⟩ := hf 8 _ rfl
    obtain ⟨v9, z9, c9, t9⟩ := hf 9 _ rfl
    obtain ⟨v10, z10, c10, t10⟩ := hf 10 _ rfl
    obtain ⟨v11, z11, c11, t11⟩ := hf 11 _ rfl
    obtain ⟨v12, z12, c12, t12⟩ := hf 12 _ rfl
    simp only [List.getElem?_cons_zero, List.getElem?_cons_succ, Option.some.injEq] at c0 c1 c2 c3 c4 c5 c6 c7 c8 c9 c10 c11 c12
    subst c0 c1 c2 c3 c4 c5 c6 c7 c8 c9 c10 c11 c12
    obtain ⟨n0, e0, _, _⟩ := DataW.trod_string Tryz.underlying9 t0
    obtain ⟨n1, e1, _, w1⟩ := DataW.trod_int Tryz.underlying3 t1
    obtain ⟨n2, e2, _, w2⟩ := DataW.trod_int Tryz.underlying3 t2
    obtain ⟨n3, e3, _, w3⟩ := DataW.trod_int Tryz.underlying3 t3
    obtain ⟨n4, e4, _, w4⟩ := DataW.trod_int Tryz.underlying3 t4
    obtain ⟨n6, e6, _, w6⟩ := DataW.trod_int Tryz.underlying3 t6
    obtain ⟨n7, e7, _, w7⟩ := DataW.trod_int Tryz.underlying3 t7
    obtain ⟨n8, e8, _, w8⟩ := DataW.trod_int Tryz.underlying3 t8
    obtain ⟨n9, e9, _, w9⟩ := DataW.trod_int Tryz.underlying3 t9
    obtain ⟨n10, e10, _, w10⟩ := DataW.trod_int Tryz.underlying3 t10
    obtain ⟨la, lc, L, rfl, l1, l2, l3, _, l4⟩ := open_nums t5
    obtain ⟨ia, ic, I, rfl, i1, i2, i3, i4⟩ := open_items t11
    obtain ⟨ba, bc, B, rfl, b1, b2, b3, b4⟩ := open_bricks t12
    simp only [List.cons.injEq, and_true] at e0 e1 e2 e3 e4 e6 e7 e8 e9 e10
    subst e0 e1 e2 e3 e4 e6 e7 e8 e9 e10
    exact ⟨⟨n0, n1, n2, n3, n4, la, L, lc, n6, n7, n8, n9, n10, ia, I, ic, ba, B, bc⟩, rfl, ⟨l4, i4, b4, l1, i1, b1, l3, i3, b3⟩⟩
end
end Go.Proofs.YthldfijlcoobgaaGreat
namespace Go.Proofs.YthldfijlcoobgaaGreat
open Go.ChangeShapes Go.WideShapes Go.ChangeAt Go.WideMaps Go.WideElems Go.RowKit Go.Deep Go.Joins
instance : Inhabited RoofR := ⟨⟨⟨#[]⟩, 0, 0, 0⟩⟩
instance : Inhabited SetR := ⟨⟨⟨#[]⟩, 0, 0, 0, 0, none, [], 0, 0, 0, 0, 0, 0, none, [], 0, none, [], 0⟩⟩
theorem roof_of_flat {n₀ : Nat} {w : World} {a : Option Addr} {L : List RoofR} (h : 0 < L.length → ∃ b off, a = some ⟨b, off, none⟩ ∧ b < n₀ ∧ ∀ j u, (rflat L)[j]? = some u → w.cell? ⟨b, off + j, none⟩ = some u) : Roofs n₀ w a L := fun hl => by
  obtain ⟨b, off, e, hb, hc⟩ := h hl
  refine ⟨b, off, e, hb, fun i hi => ?_⟩
  obtain ⟨f0, f1, f2, f3⟩ := rflat_at L i hi
  have c0 := hc _ _ f0
  have c1 := hc _ _ f1
  have c2 := hc _ _ f2
  have c3 := hc _ _ f3
  try simp only [← Nat.add_assoc] at c0 c1 c2 c3
  exact ⟨c0, c1, c2, c3⟩
theorem set_of_flat {n₀ : Nat} {w : World} {a : Option Addr} {L : List SetR} (h : 0 < L.length → ∃ b off, a = some ⟨b, off, none⟩ ∧ b < n₀ ∧ ∀ j u, (hsflat L)[j]? = some u → w.cell? ⟨b, off + j, none⟩ = some u) : SetRows n₀ w a L := fun hl => by
  obtain ⟨b, off, e, hb, hc⟩ := h hl
  refine ⟨b, off, e, hb, fun i hi => ?_⟩
  obtain ⟨f0, f1, f2, f3, f4, f5, f6, f7, f8, f9, f10, f11, f12⟩ := hsflat_at L i hi
  have c0 := hc _ _ f0
  have c1 := hc _ _ f1
  have c2 := hc _ _ f2
  have c3 := hc _ _ f3
  have c4 := hc _ _ f4
  have c5 := hc _ _ f5
  have c6 := hc _ _ f6
  have c7 := hc _ _ f7
  have c8 := hc _ _ f8
  have c9 := hc _ _ f9
  have c10 := hc _ _ f10
  have c11 := hc _ _ f11
  have c12 := hc _ _ f12
  try simp only [← Nat.add_assoc] at c0 c1 c2 c3 c4 c5 c6 c7 c8 c9 c10 c11 c12
  exact ⟨c0, c1, c2, c3, c4, c5, c6, c7, c8, c9, c10, c11, c12⟩
section
variable {H : Type} {enc : TypeId × Value → H} {w : World} {base : Nat} {spare : Nat → Bool} {held : Bool}
set_option maxRecDepth 100000 in
theorem open_roofs {fuel : Nat} {v : Value} {x : DataW H × List MemPlace} (h : DataW.trod enc Tryz.prog w base spare held fuel 23 [v] = some x) :
    ∃ (a : Option Addr) (cap : Nat) (L : List RoofR), v = .slice a L.length cap ∧ L.length ≤ cap ∧ cap ≤ maxLen ∧ (a = none → cap = 0) ∧ Roofs w.heap.size w a L := by
  obtain ⟨a, cap, L, h1, h2, h3, h4, _, h6⟩ := open_rows (P := Tryz.prog) (fun r : RoofR => [.string r.name, .int .i64 r.lo, .int .i64 r.hi, .int .i64 r.most]) 4 (fun _ => True) (by decide) (fun _ => rfl) Tryz.underlying23 (by kernel_rfl) (fun n cs' y hl ht => by
    obtain ⟨m, hf⟩ := elem_fields Tryz.underlying87 (by kernel_rfl) (by rw [hl]; rfl) ht
    obtain ⟨v0, z0, c0, t0⟩ := hf 0 _ rfl
    obtain ⟨v1, z1, c1, t1⟩ := hf 1 _ rfl
    obtain ⟨v2, z2, c2, t2⟩ := hf 2 _ rfl
    obtain ⟨v3, z3, c3, t3⟩ := hf 3 _ rfl
    obtain ⟨n0, e0, _, _⟩ := DataW.trod_string Tryz.underlying9 t0
    obtain ⟨n1, e1, _, w1⟩ := DataW.trod_int Tryz.underlying3 t1
    obtain ⟨n2, e2, _, w2⟩ := DataW.trod_int Tryz.underlying3 t2
    obtain ⟨n3, e3, _, w3⟩ := DataW.trod_int Tryz.underlying3 t3
    simp only [List.cons.injEq, and_true] at e0 e1 e2 e3
    subst e0 e1 e2 e3
    match cs', hl with
    | [x0, x1, x2, x3], _ =>
      simp only [List.getElem?_cons_zero, List.getElem?_cons_succ, Option.some.injEq] at c0 c1 c2 c3
      subst c0 c1 c2 c3
      exact ⟨⟨n0, n1, n2, n3⟩, rfl, trivial⟩) h
  exact ⟨a, cap, L, h1, h2, h3, h4, roof_of_flat h6⟩
set_option maxRecDepth 100000 in
theorem open_sets {fuel : Nat} {v : Value} {x : DataW H × List MemPlace} (h : DataW.trod enc Tryz.prog w base spare held fuel 22 [v] = some x) :
    ∃ (a : Option Addr) (cap : Nat) (L : List SetR), v = .slice a L.length cap ∧ L.length ≤ cap ∧ cap ≤ maxLen ∧ (a = none → cap = 0) ∧ (∀ r ∈ L, SetIn0 w r) ∧ SetRows w.heap.size w a L := by
  obtain ⟨a, cap, L, h1, h2, h3, h4, h5, h6⟩ := open_rows (P := Tryz.prog) (fun r : SetR => [.string r.name, .int .i64 r.depth, .int .i64 r.low, .int .i64 r.high, .int .i64 r.length, .slice r.la r.lines.length r.lc, .int .i64 r.pipe, .int .i64 r.arbor, .int .i64 r.purchase, .int .i64 r.most, .int .i64 r.brake, .slice r.ia r.items.length r.ic, .slice r.ba r.bricks.length r.bc]) 13 (fun r => SetIn0 w r) (by decide) (fun _ => rfl) Tryz.underlying22 (by kernel_rfl) (fun n cs' y hl ht => by
    obtain ⟨m, hf⟩ := elem_fields Tryz.underlying71 (by kernel_rfl) (by rw [hl]; rfl) ht
    obtain ⟨v0, z0, c0, t0⟩ := hf 0 _ rfl
    obtain ⟨v1, z1, c1, t1⟩ := hf 1 _ rfl
    obtain ⟨v2, z2, c2, t2⟩ := hf 2 _ rfl
    obtain ⟨v3, z3, c3, t3⟩ := hf 3 _ rfl
    obtain ⟨v4, z4, c4, t4⟩ := hf 4 _ rfl
    obtain ⟨v5, z5, c5, t5⟩ := hf 5 _ rfl
    obtain ⟨v6, z6, c6, t6⟩ := hf 6 _ rfl
    obtain ⟨v7, z7, c7, t7⟩ := hf 7 _ rfl
    obtain ⟨v8, z8, c8, t8⟩ := hf 8 _ rfl
    obtain ⟨v9, z9, c9, t9⟩ := hf 9 _ rfl
    obtain ⟨v10, z10, c10, t10⟩ := hf 10 _ rfl
    obtain ⟨v11, z11, c11, t11⟩ := hf 11 _ rfl
    obtain ⟨v12, z12, c12, t12⟩ := hf 12 _ rfl
    obtain ⟨n0, e0, _, _⟩ := DataW.trod_string Tryz.underlying9 t0
    obtain ⟨n1, e1, _, w1⟩ := DataW.trod_int Tryz.underlying3 t1
    obtain ⟨n2, e2, _, w2⟩ := DataW.trod_int Tryz.underlying3 t2
    obtain ⟨n3, e3, _, w3⟩ := DataW.trod_int Tryz.underlying3 t3
    obtain ⟨n4, e4, _, w4⟩ := DataW.trod_int Tryz.underlying3 t4
    obtain ⟨n6, e6, _, w6⟩ := DataW.trod_int Tryz.underlying3 t6
    obtain ⟨n7, e7, _, w7⟩ := DataW.trod_int Tryz.underlying3 t7
    obtain ⟨n8, e8, _, w8⟩ := DataW.trod_int Tryz.underlying3 t8
    obtain ⟨n9, e9, _, w9⟩ := DataW.trod_int Tryz.underlying3 t9
    obtain ⟨n10, e10, _, w10⟩ := DataW.trod_int Tryz.underlying3 t10
    obtain ⟨la, lc, L, rfl, l1, l2, l3, _, l4⟩ := open_nums t5
    obtain ⟨ia, ic, I, rfl, i1, i2, i3, i4⟩ := open_items t11
    obtain ⟨ba, bc, B, rfl, b1, b2, b3, b4⟩ := open_bricks t12
    simp only [List.cons.injEq, and_true] at e0 e1 e2 e3 e4 e6 e7 e8 e9 e10
    subst e0 e1 e2 e3 e4 e6 e7 e8 e9 e10
    match cs', hl with
    | [x0, x1, x2, x3, x4, x5, x6, x7, x8, x9, x10, x11, x12], _ =>
      simp only [List.getElem?_cons_zero, List.getElem?_cons_succ, Option.some.injEq] at c0 c1 c2 c3 c4 c5 c6 c7 c8 c9 c10 c11 c12
      subst c0 c1 c2 c3 c4 c5 c6 c7 c8 c9 c10 c11 c12
      exact ⟨⟨n0, n1, n2, n3, n4, la, L, lc, n6, n7, n8, n9, n10, ia, I, ic, ba, B, bc⟩, rfl, ⟨l4, i4, b4, l1, i1, b1, l3, i3, b3⟩⟩) h
  exact ⟨a, cap, L, h1, h2, h3, h4, h5, set_of_flat h6⟩
end
section
variable {H : Type} {enc : TypeId × Value → H} {W : World} {base : Nat}
set_option maxRecDepth 100000 in
theorem open_house {v : Value} {d : DataW H} {p : List MemPlace} (hv : Value.okWide Tryz.prog W .any base 25 v) (h : DataW.Trod enc Tryz.prog W 0 (fun _ => true) true 25 v d p) :
    ∃ r : HouseR, v = .agg #[.string r.name, .int .i64 r.height, .slice r.sa r.sets.length r.sc, .slice r.ra r.roofs.length r.rc] ∧ HouseIn0 W r := by
  obtain ⟨cs, rfl, hsz⟩ := okWide_struct Tryz.underlying25 hv
  obtain ⟨l⟩ := cs
  match l, hsz.trans (show Tryz.prog.cellsOf 25 = 4 by kernel_rfl) with
  | [x0, x1, x2, x3], _ =>
    obtain ⟨fuel, hf0⟩ := h
    obtain ⟨m, hf⟩ := elem_fields (cs' := [x0, x1, x2, x3]) Tryz.underlying25 (by kernel_rfl) rfl (by simpa [Value.cells] using hf0)
    obtain ⟨v0, z0, c0, t0⟩ := hf 0 _ rfl
    obtain ⟨v1, z1, c1, t1⟩ := hf 1 _ rfl
    obtain ⟨v2, z2, c2, t2⟩ := hf 2 _ rfl
    obtain ⟨v3, z3, c3, t3⟩ := hf 3 _ rfl
    simp only [List.getElem?_cons_zero, List.getElem?_cons_succ, Option.some.injEq] at c0 c1 c2 c3
    subst c0 c1 c2 c3
    obtain ⟨n0, e0, _, _⟩ := DataW.trod_string Tryz.underlying9 t0
    obtain ⟨n1, e1, _, w1⟩ := DataW.trod_int Tryz.underlying3 t1
    obtain ⟨sa, sc, S, rfl, s1, s2, s3, s4, s5⟩ := open_sets t2
    obtain ⟨ra, rc, R, rfl, r1, r2, r3, r4⟩ := open_roofs t3
    simp only [List.cons.injEq, and_true] at e0 e1
    subst e0 e1
    exact ⟨⟨n0, n1, sa, S, sc, ra, R, rc⟩, rfl, ⟨s5, r4, fun i hi => s4 _ (by rw [hsg_eq S i hi]; exact List.getElem_mem hi), s1, r1, s3, r3⟩⟩
end
end Go.Proofs.YthldfijlcoobgaaGreat
namespace Go.Proofs.YthldfijlcoobgaaGreat
open Go.ChangeShapes Go.WideShapes Go.ChangeAt Go.WideMaps Go.WideElems Go.RowKit Go.Deep Go.Joins
instance : Inhabited MovR := ⟨⟨⟨#[]⟩, 0, 0, 0, 0⟩⟩
instance : Inhabited CueR := ⟨⟨⟨#[]⟩, ⟨#[]⟩, 0, 0, none, [], 0, 0, 0⟩⟩
theorem mov_of_flat {n₀ : Nat} {w : World} {a : Option Addr} {L : List MovR} (h : 0 < L.length → ∃ b off, a = some ⟨b, off, none⟩ ∧ b < n₀ ∧ ∀ j u, (mflat L)[j]? = some u → w.cell? ⟨b, off + j, none⟩ = some u) : Movs n₀ w a L := fun hl => by
  obtain ⟨b, off, e, hb, hc⟩ := h hl
  refine ⟨b, off, e, hb, fun i hi => ?_⟩
  obtain ⟨f0, f1, f2, f3, f4⟩ := mflat_at L i hi
  have c0 := hc _ _ f0
  have c1 := hc _ _ f1
  have c2 := hc _ _ f2
  have c3 := hc _ _ f3
  have c4 := hc _ _ f4
  try simp only [← Nat.add_assoc] at c0 c1 c2 c3 c4
  exact ⟨c0, c1, c2, c3, c4⟩
theorem pair_of_flat {n₀ : Nat} {w : World} {a : Option Addr} {L : List (ByteArray × ByteArray)} (h : 0 < L.length → ∃ b off, a = some ⟨b, off, none⟩ ∧ b < n₀ ∧ ∀ j u, (pflat L)[j]? = some u → w.cell? ⟨b, off + j, none⟩ = some u) : Pairs n₀ w a L := fun hl => by
  obtain ⟨b, off, e, hb, hc⟩ := h hl
  refine ⟨b, off, e, hb, fun i hi => ?_⟩
  obtain ⟨f0, f1⟩ := pflat_at L i hi
  have c0 := hc _ _ f0
  have c1 := hc _ _ f1
  try simp only [← Nat.add_assoc] at c0 c1
  exact ⟨c0, c1⟩

theorem cue_of_flat {n₀ : Nat} {w : World} {a : Option Addr} {L : List (CueR)} (h : 0 < L.length → ∃ b off, a = some ⟨b, off, none⟩ ∧ b < n₀ ∧ ∀ j u, (cflat L)[j]? = some u → w.cell? ⟨b, off + j, none⟩ = some u) : Cues n₀ w a L := fun hl => by
  obtain ⟨b, off, e, hb, hc⟩ := h hl
  refine ⟨b, off, e, hb, fun i hi => ?_⟩
  obtain ⟨f0, f1, f2, f3, f4, f5, f6⟩ := cflat_at L i hi
  have c0 := hc _ _ f0
  have c1 := hc _ _ f1
  have c2 := hc _ _ f2
  have c3 := hc _ _ f3
  have c4 := hc _ _ f4
  have c5 := hc _ _ f5
  have c6 := hc _ _ f6
  try simp only [← Nat.add_assoc] at c0 c1 c2 c3 c4 c5 c6
  exact ⟨c0, c1, c2, c3, c4, c5, c6⟩

section
variable {H : Type} {enc : TypeId × Value → H} {w : World} {base : Nat} {spare : Nat → Bool} {held : Bool}
set_option maxRecDepth 100000 in
theorem open_movs {fuel : Nat} {v : Value} {x : DataW H × List MemPlace} (h : DataW.trod enc Tryz.prog w base spare held fuel 58 [v] = some x) :
    ∃ (a : Option Addr) (cap : Nat) (L : List MovR), v = .slice a L.length cap ∧ L.length ≤ cap ∧ cap ≤ maxLen ∧ (a = none → cap = 0) ∧ Movs w.heap.size w a L := by
  obtain ⟨a, cap, L, h1, h2, h3, h4, _, h6⟩ := open_rows (P := Tryz.prog) (fun r : MovR => [.string r.set, .int .i64 r.dest, .int .i64 r.speed, .int .i64 r.rise, .int .i64 r.fall]) 5 (fun _ => True) (by decide) (fun _ => rfl) Tryz.underlying58 (by kernel_rfl) (fun n cs' y hl ht => by
    obtain ⟨m, hf⟩ := elem_fields Tryz.underlying63 (by kernel_rfl) (by rw [hl]; rfl) ht
    obtain ⟨v0, z0, c0, t0⟩ := hf 0 _ rfl
    obtain ⟨v1, z1, c1, t1⟩ := hf 1 _ rfl
    obtain ⟨v2, z2, c2, t2⟩ := hf 2 _ rfl
    obtain ⟨v3, z3, c3, t3⟩ := hf 3 _ rfl
    obtain ⟨v4, z4, c4, t4⟩ := hf 4 _ rfl
    obtain ⟨n0, e0, _, _⟩ := DataW.trod_string Tryz.underlying9 t0
    obtain ⟨n1, e1, _, w1⟩ := DataW.trod_int Tryz.underlying3 t1
    obtain ⟨n2, e2, _, w2⟩ := DataW.trod_int Tryz.underlying3 t2
    obtain ⟨n3, e3, _, w3⟩ := DataW.trod_int Tryz.underlying3 t3
    obtain ⟨n4, e4, _, w4⟩ := DataW.trod_int Tryz.underlying3 t4
    simp only [List.cons.injEq, and_true] at e0 e1 e2 e3 e4
    subst e0 e1 e2 e3 e4
    match cs', hl with
    | [x0, x1, x2, x3, x4], _ =>
      simp only [List.getElem?_cons_zero, List.getElem?_cons_succ, Option.some.injEq] at c0 c1 c2 c3 c4
      subst c0 c1 c2 c3 c4
      exact ⟨⟨n0, n1, n2, n3, n4⟩, rfl, trivial⟩) h
  exact ⟨a, cap, L, h1, h2, h3, h4, mov_of_flat h6⟩
set_option maxRecDepth 100000 in
theorem open_pairs {fuel : Nat} {v : Value} {x : DataW H × List MemPlace} (h : DataW.trod enc Tryz.prog w base spare held fuel 27 [v] = some x) :
    ∃ (a : Option Addr) (cap : Nat) (L : List (ByteArray × ByteArray)), v = .slice a L.length cap ∧ L.length ≤ cap ∧ cap ≤ maxLen ∧ (a = none → cap = 0) ∧ Pairs w.heap.size w a L := by
  obtain ⟨a, cap, L, h1, h2, h3, h4, _, h6⟩ := open_rows (P := Tryz.prog) (fun r : ByteArray × ByteArray => [Value.string r.1, Value.string r.2]) 2 (fun _ => True) (by decide) (fun _ => rfl) Tryz.underlying27 (by kernel_rfl) (fun n cs' y hl ht => by
    obtain ⟨xs, m, _, _, _, hxl, hel⟩ := DataW.trod_array Tryz.underlying176 ht
    match cs', hl with
    | [c0, c1], _ =>
      have e0 := hel 0 (by decide)
      have e1 := hel 1 (by decide)
      have hC : Tryz.prog.cellsOf 9 = 1 := by kernel_rfl
      rw [hC] at e0 e1
      match xs, hxl with
      | [y0, y1], _ =>
        obtain ⟨s0, r0, _⟩ := DataW.trod_string Tryz.underlying9 (cs := [c0]) (x := y0) e0
        obtain ⟨s1, r1, _⟩ := DataW.trod_string Tryz.underlying9 (cs := [c1]) (x := y1) e1
        simp only [List.cons.injEq, and_true] at r0 r1
        subst r0 r1
        exact ⟨(s0, s1), rfl, trivial⟩) h
  exact ⟨a, cap, L, h1, h2, h3, h4, pair_of_flat h6⟩
/-- What lies behind one cue. -/
def CueIn0 (w : World) (r : CueR) : Prop := Movs w.heap.size w r.ma r.moves ∧ r.moves.length ≤ r.mc ∧ (r.ma = none → r.mc = 0)
set_option maxRecDepth 100000 in
theorem open_cues {fuel : Nat} {v : Value} {x : DataW H × List MemPlace} (h : DataW.trod enc Tryz.prog w base spare held fuel 26 [v] = some x) :
    ∃ (a : Option Addr) (cap : Nat) (L : List CueR), v = .slice a L.length cap ∧ L.length ≤ cap ∧ cap ≤ maxLen ∧ (a = none → cap = 0) ∧ (∀ r ∈ L, CueIn0 w r) ∧ Cues w.heap.size w a L := by
  obtain ⟨a, cap, L, h1, h2, h3, h4, h5, h6⟩ := open_rows (P := Tryz.prog) (fun r : CueR => [.string r.name, .string r.after, .int .i64 r.link, .int .i64 r.delay, .slice r.ma r.moves.length r.mc, .int .i64 r.crew, .int .i64 r.power]) 7 (fun r => CueIn0 w r) (by decide) (fun _ => rfl) Tryz.underlying26 (by kernel_rfl) (fun n cs' y hl ht => by
    obtain ⟨m, hf⟩ := elem_fields Tryz.underlying60 (by kernel_rfl) (by rw [hl]; rfl) ht
    obtain ⟨v0, z0, c0, t0⟩ := hf 0 _ rfl
    obtain ⟨v1, z1, c1, t1⟩ := hf 1 _ rfl
    obtain ⟨v2, z2, c2, t2⟩ := hf 2 _ rfl
    obtain ⟨v3, z3, c3, t3⟩ := hf 3 _ rfl
    obtain ⟨v4, z4, c4, t4⟩ := hf 4 _ rfl
    obtain ⟨v5, z5, c5, t5⟩ := hf 5 _ rfl
    obtain ⟨v6, z6, c6, t6⟩ := hf 6 _ rfl
    obtain ⟨n0, e0, _, w0⟩ := DataW.trod_string Tryz.underlying9 t0
    obtain ⟨n1, e1, _, w1⟩ := DataW.trod_string Tryz.underlying9 t1
    obtain ⟨n2, e2, _, w2⟩ := DataW.trod_int Tryz.underlying3 t2
    obtain ⟨n3, e3, _, w3⟩ := DataW.trod_int Tryz.underlying3 t3
    obtain ⟨n5, e5, _, w5⟩ := DataW.trod_int Tryz.underlying3 t5
    obtain ⟨n6, e6, _, w6⟩ := DataW.trod_int Tryz.underlying3 t6
    obtain ⟨a4, k4, M, rfl, m1, m2, m3, m4⟩ := open_movs t4
    simp only [List.cons.injEq, and_true] at e0 e1 e2 e3 e5 e6
    subst e0 e1 e2 e3 e5 e6
    match cs', hl with
    | [x0, x1, x2, x3, x4, x5, x6], _ =>
      simp only [List.getElem?_cons_zero, List.getElem?_cons_succ, Option.some.injEq] at c0 c1 c2 c3 c4 c5 c6
      subst c0 c1 c2 c3 c4 c5 c6
      exact ⟨⟨n0, n1, n2, n3, a4, M, k4, n5, n6⟩, rfl, ⟨m4, m1, m3⟩⟩) h
  exact ⟨a, cap, L, h1, h2, h3, h4, h5, cue_of_flat h6⟩
end
section
variable {H : Type} {enc : TypeId × Value → H} {W : World} {base : Nat}
set_option maxRecDepth 100000 in
theorem open_sheet {v : Value} {d : DataW H} {p : List MemPlace} (hv : Value.okWide Tryz.prog W .any base 29 v) (h : DataW.Trod enc Tryz.prog W 0 (fun _ => true) true 29 v d p) :
    ∃ s : SheetR, v = .agg #[.slice s.ca s.cues.length s.cc, .slice s.pa s.pairs.length s.pc] ∧ SheetIn0 W s := by
  obtain ⟨v0, v1, y0, y1, n, rfl, _, _, h0, h1⟩ := open_agg2 Tryz.underlying29 (by kernel_rfl) (by kernel_rfl) hv h
  obtain ⟨ca, cc, L, rfl, c1, c2, c3, c4, c5⟩ := open_cues h0
  obtain ⟨pa, pc, A, rfl, p1, p2, p3, p4⟩ := open_pairs h1
  have hm : ∀ i, i < L.length → CueIn0 W (cg L i) := fun i hi => c4 _ (by rw [cg_eq L i hi]; exact List.getElem_mem hi)
  exact ⟨⟨ca, L, cc, pa, A, pc⟩, rfl, ⟨c5, fun i hi => (hm i hi).1, p4, c1, c3, fun i hi => (hm i hi).2.1, fun i hi => (hm i hi).2.2, p1, p3⟩⟩
end
end Go.Proofs.YthldfijlcoobgaaGreat
