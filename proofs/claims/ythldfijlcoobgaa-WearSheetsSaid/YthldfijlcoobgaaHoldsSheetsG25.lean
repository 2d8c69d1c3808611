/-
  slices.Grow (of a nil slice), slices.Concat (of two slices) at cues.
  THE WALK of the laws' own helper example (layer 46).
  THE WALKS of losses.whole, lossy, and Along upwards.
  THE WALK of losses.Along, upwards.
  THE WALK of wear.Bends.
  THE WALKS of wear.places, Travel, Turns and of the reference's Places, Travel, Turns.
  THE WALKS of wear.Wear and wear.Left.
  THE WALK of wear.Left.
  PLAIN: the spots of spans on a rope: how often each place is covered.
  PLAIN: what the spots tell: each place is covered as often as its spot says; the lengths; the worst spot.
  PLAIN: a list of numbers, sorted.
  slices.Sort and slices.Compact at a row of numbers of the call's own.
  PLAIN: the sums of the changes are the covers.
-/
import Derived.Lib.SliceRun
import Derived.Lib.AppendZerosOnto
import Derived.Laws.AppendOwnNone
import Derived.OwnWalk
import Derived.LoopN
import Derived.IntWalk
import Derived.Outline
import Derived.BigQuiet
import Derived.Deep.RegionWith
import Derived.Deep.DeepCutAuto
import Derived.Deep.RegionHeld3
import Derived.Deep.CutRange
import Derived.Test.YthldfijlcoobgaaRows
import Derived.Sort.OwnSortedInts
import Derived.Lib.RowBridge
import Derived.Test.YthldfijlcoobgaaHoldsSheetsG24
import Derived.Test.YthldfijlcoobgaaOwn
import Derived.Test.YthldfijlcoobgaaApp
import Derived.Test.YthldfijlcoobgaaRat5
import Derived.Test.YthldfijlcoobgaaMem
import Derived.Test.YthldfijlcoobgaaShelf
namespace Go.Proofs.Ythldfijlcoobgaa
open Go.RowKit Go.Shelf
attribute [local go_sem] Oper.semAt_some

theorem cue_info : (Try.prog.info? 39).map (fun i => (i.zero, i.size, i.bytes)) = some (some (.agg #[.string ⟨#[]⟩, .string ⟨#[]⟩, .int .i64 0, .int .i64 0, .slice none 0 0, .int .i64 0, .int .i64 0]), 7, 88) := by kernel_rfl
theorem cue_appends {ops : Array Oper} {rest : List Oper} {o : Oper} {a : Act} {w : World} {Q : Exit → Act → World → Prop} (hgd : o.guard = none) (s x : Operand)
    (ho : o.op = .call { callee := .builtin .append, args := #[s, x], argTypes := #[26, 26] })
    (base : Nat) (v : Value) (L : List (CueR)) (hs : a.eval s = v) (hown : w.ownsRow base 39 7 v L.length (cflat L))
    (ax : Option Addr) (X : List (CueR)) (m cx n₀ : Nat) (hx : a.eval x = .slice ax m cx) (hm : X.length = m) (hnil : ax = none → cx = 0) (hX : Cues n₀ w ax X) (hl : L.length + X.length ≤ 1000000) (hbase : base ≤ w.heap.size)
    (h : ∀ v' w', w'.ownsRow base 39 7 v' (L ++ X).length (cflat (L ++ X)) → w.grownBy w' v.ownBlock → wpList Try.prog ops Q rest (a.put o.dst v') w') : wpList Try.prog ops Q (o :: rest) a w := by
  subst hm
  obtain ⟨i0, hi, hz0, hz1, hz2⟩ := info_parts cue_info
  cases ax with
  | none =>
    obtain rfl : X = [] := List.eq_nil_of_length_eq_zero (by
      rcases Nat.eq_zero_or_pos X.length with h | h
      · exact h
      · obtain ⟨b, off, e, _⟩ := hX h
        cases e)
    obtain rfl := hnil rfl
    refine wpList_append_own_none hgd s x 26 ho base 39 i0 7 Try.underlying26 hi v L.length (cflat L) hs hown hx ?_
    refine h v w (by rw [List.append_nil]; exact hown) ⟨rfl, rfl, rfl, Nat.le_refl _, fun _ _ _ => rfl⟩
  | some ad =>
    refine wpList_append_own _ hgd s x 26 ho base 39 i0 _ 7 88 Try.underlying26 hi hz0 hz1 hz2 rfl (by decide) v L.length (cflat L) hs hown ad X.length cx (cflat X) hx (cue_len X) (fun j u hj => ?_) (cue_one X) (by unfold maxLen; omega) (by omega) hbase ?_
    · have hlt : j < X.length * 7 := by
        rw [← cue_len]
        exact (List.getElem?_eq_some_iff.1 hj).1
      obtain ⟨b, off, e, _⟩ := hX (by omega)
      cases e
      exact cue_cells hX j u hj
    · intro v' w' h1 h2 _
      refine h v' w' ?_ h2
      rw [List.length_append, show cflat (L ++ X) = cflat L ++ cflat X by simp [cflat]]
      exact h1

set_option maxHeartbeats 2000000 in
theorem grow_cue (n : Nat) (w : World) (h1 : n ≤ 1000) :
    Calls Try.prog 22 #[.slice none 0 0, .int .i64 n] w fun e w' => Hid (∃ v, e = .returned v ∧ w'.ownsRow w.heap.size 39 7 v 0 []) ∧ Below w.heap.size w w' := by
  by_cases h0 : n = 0
  · subst h0
    go_enter Try.func22, Try.ntmps22
    go_wp2_with fail
    go_ret
    exact ⟨Lib.hid ⟨_, rfl, World.ownsRow_nil _ _ _ _⟩, Below.refl _ _⟩
  · obtain ⟨i0, hi, hz0, hz1, hz2⟩ := info_parts cue_info
    have hold : (Builtin.firstCells i0.size 0 (.slice none 0 0)).run Try.prog w.drew = .ok (([] : List Value).toArray) w.drew := run_firstCells_none w.drew i0.size 0 0 0
    have HR := Lib.hid fun (ty : TypeId) => Lib.run_append_grow_zeros w 26 3 ty 39 i0 _ .i64 .i64 Try.underlying26 Try.underlying3 hi hz0 none 0 0 [] hold n (by omega) (by omega) (by omega) (by omega) (by rw [hz2]; omega) (by rw [hz2]; exact growslice_fits (by omega) (by omega))
    have hg1 := grownCap_ge w (0 + n) 0 39
    have hg2 := grownCap_le_maxLen w (0 + n) 0 39 (by unfold maxLen; omega)
    have g1 : 0 < n := by omega
    obtain ⟨c, hc⟩ : ∃ c, grownCap w (0 + n) 0 39 = c := ⟨_, rfl⟩
    rw [hc] at HR hg1 hg2
    clear hc hold hi hz0 hz1 hz2 i0
    obtain ⟨C, hC⟩ : ∃ C, ((([] : List Value).toArray) ++ Builtin.zeroCells (Value.cells (.agg #[.string ⟨#[]⟩, .string ⟨#[]⟩, .int .i64 0, .int .i64 0, .slice none 0 0, .int .i64 0, .int .i64 0])) n ++ Builtin.zeroCells (Value.cells (.agg #[.string ⟨#[]⟩, .string ⟨#[]⟩, .int .i64 0, .int .i64 0, .slice none 0 0, .int .i64 0, .int .i64 0])) (c - (0 + n))) = C := ⟨_, rfl⟩
    have hsz : C.size = c * 7 := by
      rw [← hC, Array.size_append, Array.size_append, size_zeroCells, size_zeroCells]
      show 0 + n * 7 + (c - (0 + n)) * 7 = c * 7
      omega
    rw [hC] at HR
    have HC : Hid ((w.drew.alloc (.cells C 39)).ownsRow w.heap.size 39 7 (.slice (some ⟨w.heap.size, 0, none⟩) 0 c) 0 []) := Lib.hid ⟨rfl, .inr ⟨w.heap.size, c, C, rfl, Nat.le_refl _, heap_alloc_new w.drew _, Nat.zero_le _, hg2, hsz, by simp⟩⟩
    have hc63 : c ≤ 9223372036854775807 := by unfold maxLen at hg2; omega
    clear hC hsz h0
    go_enter Try.func22, Try.ntmps22
    go_wp2_with (at_builtin; refine Lib.wpList_append_run _ rfl _ _ _ _ rfl _ _ rfl rfl _ _ (HR.out _) ?_)
    go_ret
    exact ⟨Lib.hid ⟨_, rfl, HC.out⟩, (Below.refl _ _).drew.alloc (by simp) _⟩
set_option maxHeartbeats 4000000 in
theorem concat_cue (b : Nat) (ca da : Option Addr) (C D : List CueR) (cc dc : Nat) (w : World) (hC : Cues w.heap.size w ca C) (hD : Cues w.heap.size w da D) (hc : C.length ≤ 100) (hd : D.length ≤ 100) (hcn : ca = none → cc = 0) (hdn : da = none → dc = 0)
    (h0 : w.cell? ⟨b, 0, none⟩ = some (.slice ca C.length cc)) (h1 : w.cell? ⟨b, 1, none⟩ = some (.slice da D.length dc)) :
    Calls Try.prog 7 #[.slice (some ⟨b, 0, none⟩) 2 2] w fun e w' => Hid (∃ v, e = .returned v ∧ w'.ownsRow w.heap.size 39 7 v (C ++ D).length (cflat (C ++ D))) ∧ Below w.heap.size w w' := by
  have hlt := World.block_lt_of_cell? _ _ h0
  have HC := Lib.hid hC
  have HD := Lib.hid hD
  have HCN := Lib.hid hcn
  have HDN := Lib.hid hdn
  have m1 : IntKind.i64.wrap ((C.length : Int) + (D.length : Int)) = ((C.length + D.length : Nat) : Int) := by rw [IntWalk.i64_in _ (by omega)]; omega
  clear hC hD hcn hdn
  have HG : Hid (Calls Try.prog 22 #[.slice none 0 0, .int .i64 ((C.length : Int) + (D.length : Int))] w fun e w' => Hid (∃ v, e = .returned v ∧ w'.ownsRow w.heap.size 39 7 v 0 []) ∧ Below w.heap.size w w') := Lib.hid (by
    have := grow_cue (C.length + D.length) w (by omega)
    rw [Int.natCast_add] at this
    exact this)
  clear m1
  go_enter Try.func7, Try.ntmps7
  go_wp2_with fail
  refine wp_loop_rounds 3 ?_
  rw [rounds_succ]
  go_wp2_with fail
  rw [rounds_succ]
  go_wp2_with fail
  rw [rounds_succ]
  go_wp2_with (go_at_call 22; (with_reducible refine HG.out.mono ?_); rintro e w1 ⟨he, hb1⟩; obtain ⟨v1, rfl, hr1⟩ := he.out; have HR1 := Lib.hid hr1; have hb2 := hb1.size; clear he hr1)
  have k0 := (hb1.cell (p := ⟨b, 0, none⟩) hlt).trans h0
  have k1 := (hb1.cell (p := ⟨b, 1, none⟩) hlt).trans h1
  refine wp_loop_rounds 3 ?_
  rw [rounds_succ]
  go_wp2_with (at_builtin; refine cue_appends rfl _ _ rfl w.heap.size v1 [] rfl HR1.out ca C C.length cc w1.heap.size rfl rfl HCN.out (HC.out.grow hb1) (by simp; omega) (by omega) ?_; intro v2 w2 hr2 hg2)
  have HR2 := Lib.hid hr2
  have hB2 : Below w.heap.size w w2 := grown_own HR1.out hg2 hb1 (by omega) (Nat.le_refl _)
  have HC2 := Lib.hid hg2
  have q0 := (hB2.cell (p := ⟨b, 0, none⟩) hlt).trans h0
  have q1 := (hB2.cell (p := ⟨b, 1, none⟩) hlt).trans h1
  have hs2 := hB2.size
  clear hr2 hg2 k0 k1
  rw [rounds_succ]
  go_wp2_with (at_builtin; refine cue_appends rfl _ _ rfl w.heap.size v2 ([] ++ C) rfl HR2.out da D D.length dc w2.heap.size rfl rfl HDN.out (HD.out.grow hB2) (by simp; omega) (by omega) ?_; intro v3 w3 hr3 hg3)
  have HR3 := Lib.hid hr3
  have hB3 : Below w.heap.size w w3 := grown_own HR2.out hg3 hB2 (by omega) (Nat.le_refl _)
  have p0 := (hB3.cell (p := ⟨b, 0, none⟩) hlt).trans h0
  clear hr3 hg3 q0 q1
  rw [rounds_succ]
  go_wp2_with fail
  go_ret
  exact ⟨Lib.hid ⟨v3, rfl, HR3.out⟩, hB3⟩
end Go.Proofs.Ythldfijlcoobgaa
namespace Go.Proofs.Ythldfijlcoobgaa
open Go.RowKit Go.Shelf
attribute [local go_sem] Oper.semAt_some
def exH : HoldR := ⟨⟨#[]⟩, 0, 1, 1⟩
def exL (k : Nat) : List HoldR := List.replicate k exH
theorem exL_next (k : Nat) : hflat (exL k) ++ [.string ⟨#[]⟩, .int .i64 0, .int .i64 1, .int .i64 1] = hflat (exL (k + 1)) := by
  unfold exL
  rw [List.replicate_succ', hflat_snoc]
  rfl
theorem hold_info : (Try.prog.info? 79).map (fun i => (i.zero, i.size, i.bytes)) = some (some (.agg #[.string ⟨#[]⟩, .int .i64 0, .int .i64 0, .int .i64 0]), 4, 40) := by kernel_rfl
set_option maxHeartbeats 1000000 in
theorem one_any (w : World) : Calls Try.prog 25 #[] w fun e w' => e = .returned (.agg #[.int .i64 1, .int .i64 1]) ∧ Below w.heap.size w w' := by
  go_enter Try.func25, Try.ntmps25
  go_wp2_with fail
  refine bodyPost_ret (v := .agg #[.int .i64 1, .int .i64 1]) (by simp [results, Try.results25, go_sem]) rfl ⟨rfl, ?_⟩
  exact below_new _ _
theorem holdcells_new (W : World) (l : List Value) (t : TypeId) : ∀ j u, l[j]? = some u → (W.alloc (.cells l.toArray t)).cell? ((⟨W.heap.size, 0, none⟩ : Addr).add j) = some u := fun j u h => by
  rw [Go.WideShapes.add_plain, Nat.zero_add]
  rw [cell_of_row _ W.heap.size j l.toArray t (0, 0) (heap_alloc_new _ _)]
  simpa using h
/-- The two blocks of the walk: the result's, and the local rope's with its slice. -/
def ExSt (B : Nat) (wr : World) (v : Value) : Prop :=
  (wr.cell? ⟨B, 0, none⟩ = some (.string ⟨#[]⟩) ∧ wr.cell? ⟨B, 1, none⟩ = some (.slice none 0 0) ∧ wr.cell? ⟨B, 2, none⟩ = some (.bool false)) ∧ (wr.cell? ⟨B + 1, 0, none⟩ = some (.string ⟨#[114]⟩) ∧ wr.cell? ⟨B + 1, 1, none⟩ = some v ∧ wr.cell? ⟨B + 1, 2, none⟩ = some (.bool false)) ∧ (∀ o, wr.frozen? ⟨B, o, none⟩ = false) ∧ (∀ o, wr.frozen? ⟨B + 1, o, none⟩ = false)
theorem ExSt.keep {B n₀ : Nat} {wr w' : World} {v : Value} (h : ExSt B wr v) (hb : Below n₀ wr w') (hn : B + 2 ≤ n₀) : ExSt B w' v := by
  obtain ⟨⟨a0, a1, a2⟩, ⟨b0, b1, b2⟩, f0, f1⟩ := h
  exact ⟨⟨(hb.cell (p := ⟨B, _, none⟩) (by show B < n₀; omega)).trans a0, (hb.cell (p := ⟨B, _, none⟩) (by show B < n₀; omega)).trans a1, (hb.cell (p := ⟨B, _, none⟩) (by show B < n₀; omega)).trans a2⟩,
    ⟨(hb.cell (p := ⟨B + 1, _, none⟩) (by show B + 1 < n₀; omega)).trans b0, (hb.cell (p := ⟨B + 1, _, none⟩) (by show B + 1 < n₀; omega)).trans b1, (hb.cell (p := ⟨B + 1, _, none⟩) (by show B + 1 < n₀; omega)).trans b2⟩,
    fun o => (hb.frozen (p := ⟨B, o, none⟩) (by show B < n₀; omega)).trans (f0 o), fun o => (hb.frozen (p := ⟨B + 1, o, none⟩) (by show B + 1 < n₀; omega)).trans (f1 o)⟩
theorem ExSt.set {B : Nat} {wr : World} {v : Value} (h : ExSt B wr v) (u : Value) : ExSt B (wr.setCell ⟨B + 1, 1, none⟩ u) u := by
  obtain ⟨⟨a0, a1, a2⟩, ⟨b0, b1, b2⟩, f0, f1⟩ := h
  refine ⟨⟨?_, ?_, ?_⟩, ⟨?_, ?_, ?_⟩, fun o => (World.frozen?_setCell _ _ _ _).trans (f0 o), fun o => (World.frozen?_setCell _ _ _ _).trans (f1 o)⟩
  all_goals simp [go_sem, *]
theorem ExSt.start (w : World) : ExSt w.heap.size ((w.alloc (.cells #[.string ⟨#[]⟩, .slice none 0 0, .bool false] 45)).alloc (.cells #[.string ⟨#[114]⟩, .slice none 0 0, .bool false] 45)) (.slice none 0 0) := by
  refine ⟨⟨?_, ?_, ?_⟩, ⟨?_, ?_, ?_⟩, fun o => ?_, fun o => ?_⟩
  all_goals simp [go_sem]
set_option maxRecDepth 100000 in
set_option maxHeartbeats 8000000 in
theorem example_any (w : World) : Calls Try.prog 9 #[] w fun e w' => Hid (∃ a cap, e = .returned (.agg #[.string ⟨#[114]⟩, .slice a 5 cap, .bool false]) ∧ Holds w'.heap.size w' a (exL 5)) ∧ Below w.heap.size w w' := by
  obtain ⟨i0, hi, hz0, hz1, hz2⟩ := info_parts hold_info
  go_enter Try.func9, Try.ntmps9
  go_upto_region 2 with (fail)
  have HS := Lib.hid (ExSt.start w)
  have hb := (below_new w (.cells #[.string ⟨#[]⟩, .slice none 0 0, .bool false] 45)).alloc (by simp) (.cells #[.string ⟨#[114]⟩, .slice none 0 0, .bool false] 45)
  have hsz : ((w.alloc (.cells #[.string ⟨#[]⟩, .slice none 0 0, .bool false] 45)).alloc (.cells #[.string ⟨#[114]⟩, .slice none 0 0, .bool false] 45)).heap.size = w.heap.size + 2 := by simp
  generalize (w.alloc (.cells #[.string ⟨#[]⟩, .slice none 0 0, .bool false] 45)).alloc (.cells #[.string ⟨#[114]⟩, .slice none 0 0, .bool false] 45) = W0 at *
  obtain ⟨B, hB⟩ : ∃ B, w.heap.size = B := ⟨_, rfl⟩
  rw [hB] at HS hb hsz
  simp only [hB]
  go_wp2_with fail
  go_loopw [3] (fun i wr => ∃ k : Nat, k ≤ 5 ∧ i = .int .i64 k ∧ Below B w wr ∧ B + 2 ≤ wr.heap.size ∧ Hid (∃ v, ExSt B wr v ∧ wr.ownsRow (B + 2) 79 4 v k (hflat (exL k)))) (fun i _ => 5 - (intOf i).toNat)
  case atStart => exact ⟨0, by omega, rfl, hb, by omega, Lib.hid ⟨_, HS.out, ⟨rfl, .inl ⟨rfl, rfl⟩⟩⟩⟩
  case round =>
    obtain ⟨k, hk, rfl, hBw, hz, hH⟩ := hrel
    obtain ⟨v, hE, hO⟩ := hH.out
    clear hH HS hb
    by_cases hlt : k < 5
    · have HE := Lib.hid hE
      have HO := Lib.hid hO
      clear hE hO
      go_upto_region 4 with (fail)
      have x0 : wr.cell? ⟨B + 1, 1, none⟩ = some v := HE.out.2.1.2.1
      go_region_law (first
        | (go_simp; go_at_call 25; (with_reducible refine (one_any _).mono ?_); rintro e yy ⟨rfl, hyy⟩; have hY : Below wr.heap.size wr yy := (Below.refl _ _).drew.trans hyy; have x1 : yy.cell? ⟨B + 1, 1, none⟩ = some v := (HE.out.keep hY hz).2.1.2.1; have x2 : ∀ o, (yy.alloc o).cell? ⟨B + 1, 1, none⟩ = some v := fun o => (HE.out.keep (hY.alloc hY.size o) hz).2.1.2.1; have ho := ownsRow_below HO.out hY; clear hyy)
        | (refine step_append_lies _ rfl (.tmp 6) (.tmp 9) 43 rfl (B + 2) 79 i0 (.agg #[.string ⟨#[]⟩, .int .i64 0, .int .i64 0, .int .i64 0]) 4 40 Try.underlying43 hi hz0 hz1 hz2 rfl (by decide) v k (hflat (exL k)) ?_ ?_ ⟨yy.heap.size, 0, none⟩ 1 1 [.string ⟨#[]⟩, .int .i64 0, .int .i64 1, .int .i64 1] ?_ rfl ?_ ?_ ?_ ?_ ?_ ?_ _ rfl ?_; (next => simp [Act.eval]); (next => exact ho.alloc _); (next => simp [Act.eval]); (next => exact holdcells_new _ _ _); (next => simp [Value.oneCell']); (next => omega); (next => unfold maxLen; omega); (next => omega); (next => have := hY.size; simp <;> omega); intro g5 cap5 w5 hown5 hgrow5 hin5 hg5; have hG : Below (B + 2) wr w5 := ((hY.mono hz).alloc (by have := hY.size; omega) _).grown hgrow5 (by have := hY.size; simp; omega) (fun j e => (ho.lt j e).1); have hz5 : B + 2 ≤ w5.heap.size := Nat.le_trans hz hG.size; have x3 := (HE.out.keep hG (Nat.le_refl _)).2.1.2.1; have x4 := (HE.out.keep hG (Nat.le_refl _)).2.2.2 1; have HG := Lib.hid hG; clear hG))
      all_goals
        go_wp2_with fail
        go_roundw
      all_goals first
        | exact ⟨k + 1, by omega, by go_num, (hBw.trans (HG.out.mono (by omega))).setCell (by show B ≤ B + 1; omega) _, by simpa [World.setCell] using hz5, Lib.hid ⟨_, (HE.out.keep HG.out (Nat.le_refl _)).set _, by rw [← exL_next]; exact ownsRow_setCell_below hown5 (by show B + 1 < B + 2; omega) _⟩⟩
        | (simp [intOf]; omega)
    · obtain rfl : k = 5 := by omega
      have y0 := hE.1.1
      have y1 := hE.1.2.1
      have y2 := hE.1.2.2
      have y3 := hE.2.1.1
      have y4 := hE.2.1.2.1
      have y5 := hE.2.1.2.2
      have y6 := hE.2.2.1 0
      have y7 := hE.2.2.1 1
      have y8 := hE.2.2.1 2
      obtain ⟨a, cap, rfl, _, _, _, hL⟩ := hold_of_row hO
      rw [show (exL 5).length = 5 from rfl] at y4 hO
      have HO := Lib.hid hO
      clear hE hO hL
      go_wp2_with fail
      have e1 := ownsRow_setCell_below (ownsRow_setCell_below (ownsRow_setCell_below HO.out (a := ⟨B, 0, none⟩) (by show B < B + 2; omega) (.string ⟨#[114]⟩)) (a := ⟨B, 1, none⟩) (by show B < B + 2; omega) (.slice a 5 cap)) (a := ⟨B, 2, none⟩) (by show B < B + 2; omega) (.bool false)
      have hf := ((hBw.setCell (p := ⟨B, 0, none⟩) (Nat.le_refl _) (.string ⟨#[114]⟩)).setCell (p := ⟨B, 1, none⟩) (Nat.le_refl _) (.slice a 5 cap)).setCell (p := ⟨B, 2, none⟩) (Nat.le_refl _) (.bool false)
      obtain ⟨a', cap', e2, _, _, _, hL'⟩ := hold_of_row (L := exL 5) e1
      cases e2
      refine bodyPost_ret (v := .agg #[.string ⟨#[114]⟩, .slice a 5 cap, .bool false]) (by simp [results, Try.results9, go_sem, y0, y1, y2]) rfl ⟨Lib.hid ⟨a, cap, rfl, hL'⟩, ?_⟩
      rw [hB]
      exact hf
end Go.Proofs.Ythldfijlcoobgaa
namespace Go.Proofs.Ythldfijlcoobgaa
open Go.RowKit Go.Shelf

set_option maxHeartbeats 1000000 in
theorem wholeL_any (n : Int) (w : World) : Calls Try.prog 54 #[.int .i64 n] w fun e w' => e = .returned (.agg #[.int .i64 n, .int .i64 1]) ∧ Below w.heap.size w w' := by
  go_enter Try.func54, Try.ntmps54
  go_wp2_with fail
  refine bodyPost_ret (v := .agg #[.int .i64 n, .int .i64 1]) (by simp [results, Try.results54, go_sem]) rfl ⟨rfl, ?_⟩
  exact below_new _ _
def lossyF (n d : Int) : Bool := validF n d && (decide (d ≤ n) && decide (n ≤ 100))
set_option maxHeartbeats 2000000 in
theorem lossy_any (n d : Int) (w : World) : Calls Try.prog 55 #[.agg #[.int .i64 n, .int .i64 d]] w fun e w' => e = .returned (.bool (lossyF n d)) ∧ Below w.heap.size w w' := by
  have key : ∀ b1 b2 b3 : Bool, validF n d = b1 → decide (d ≤ n) = b2 → decide (n ≤ 100) = b3 → Hid (lossyF n d = (b1 && (b2 && b3))) := fun b1 b2 b3 h1 h2 h3 => Lib.hid (by unfold lossyF; rw [h1, h2, h3])
  obtain ⟨b1, h1⟩ : ∃ b, validF n d = b := ⟨_, rfl⟩
  have HV := Lib.hid h1
  cases b1
  all_goals cases h2 : decide (d ≤ n)
  all_goals cases h3 : decide (n ≤ 100)
  all_goals
    have H := key _ _ _ h1 h2 h3
    rw [H.out]
    clear key h1
    go_enter Try.func55, Try.ntmps55
    go_wp2_with (go_at_call 81; (with_reducible refine (valid_any n d _).mono ?_); rintro e w1 ⟨rfl, hb1⟩; rw [HV.out]; have c0 := (hb1.cell (p := ⟨w.heap.size, 0, none⟩) (by simp)).trans (show (w.alloc (.cells #[.int .i64 n, .int .i64 d] 76)).cell? ⟨w.heap.size, 0, none⟩ = some (.int .i64 n) by simp); have c1 := (hb1.cell (p := ⟨w.heap.size, 1, none⟩) (by simp)).trans (show (w.alloc (.cells #[.int .i64 n, .int .i64 d] 76)).cell? ⟨w.heap.size, 1, none⟩ = some (.int .i64 d) by simp))
    go_ret
    exact ⟨by simp, (below_new _ _).trans (hb1.mono (by simp))⟩
theorem lossy_ok {n d : Int} (h : lossyF n d = true) : 1 ≤ d ∧ d ≤ n ∧ n ≤ 100 ∧ validF n d = true := by
  unfold lossyF at h
  simp only [Bool.and_eq_true, decide_eq_true_eq] at h
  exact ⟨((validF_iff n d).1 h.1).1, h.2.1, h.2.2, h.1⟩
/-- One factor more. -/
theorem factor_step {fn fd ln ld : Int} {m : Nat} (h1 : 1 ≤ fd) (h2 : fd ≤ fn) (h3 : fn ≤ 100 ^ m) (hm : m ≤ 7) (hl : lossyF ln ld = true) :
    ∃ p q, mulP fn fd ln ld = (p, q, 0) ∧ validF p q = true ∧ 1 ≤ q ∧ q ≤ p ∧ p ≤ 100 ^ (m + 1) := by
  obtain ⟨l1, l2, l3, lv⟩ := lossy_ok hl
  have hp : (100 : Int) ^ m ≤ 100 ^ 7 := by
    have := Nat.pow_le_pow_right (n := 100) (by decide) hm
    have e1 : ((100 ^ m : Nat) : Int) = (100 : Int) ^ m := by simp
    have e2 : ((100 ^ 7 : Nat) : Int) = (100 : Int) ^ 7 := by simp
    omega
  have n1 : fn * ln ≤ 100 ^ m * 100 := Int.mul_le_mul h3 l3 (by omega) (by omega)
  have n2 : fd * ld ≤ fn * ln := Int.mul_le_mul h2 l2 (by omega) (by omega)
  have d0 : 0 < fd * ld := Int.mul_pos (by omega) (by omega)
  have a := lowN_mul (fn * ln) (fd * ld)
  have b := lowD_mul (fn * ln) (fd * ld)
  have g := gcd_posR (n := fn * ln) d0
  have c := lowD_pos (n := fn * ln) d0
  have hle : lowD (fn * ln) (fd * ld) ≤ lowN (fn * ln) (fd * ld) := by
    refine Int.le_of_mul_le_mul_right ?_ g
    rw [a, b]
    exact n2
  have hN := lowN_le (fn * ln) (fd * ld)
  have hD := lowD_le (n := fn * ln) d0
  have e7 : (100 : Int) ^ 7 = 100000000000000 := by decide
  have es : (100 : Int) ^ (m + 1) = 100 ^ m * 100 := Int.pow_succ ..
  refine ⟨lowN (fn * ln) (fd * ld), lowD (fn * ln) (fd * ld), ?_, ?_, by omega, hle, by omega⟩
  · unfold mulP fitP
    rw [if_neg (by omega)]
  · rw [validF_iff]
    exact ⟨by omega, by omega, by omega, by omega, low_cop d0⟩

/-- A rope: its holds' losses. -/
def oneB (h : HoldR) : Bool := h.ln == 1 && h.ld == 1
def holdB (n i : Nat) (h : HoldR) : Bool := lossyF h.ln h.ld && (!(i == 0 || i + 1 == n) || oneB h)
def ropeTo (L : List HoldR) : Nat → Bool
  | 0 => true
  | k + 1 => ropeTo L k && holdB L.length k (hg L k)
def ropeB (L : List HoldR) : Bool := decide (2 ≤ L.length) && (decide (L.length ≤ 10) && ropeTo L L.length)
end Go.Proofs.Ythldfijlcoobgaa
namespace Go.Proofs.Ythldfijlcoobgaa
open Go.RowKit Go.Shelf

theorem rope_no {L : List HoldR} {k : Nat} (hk : k < L.length) (h : holdB L.length k (hg L k) = false) : ropeB L = false := by
  have key : ∀ n, k + 1 ≤ n → ropeTo L n = false := by
    intro n hn
    induction n with
    | zero => omega
    | succ n ih =>
      simp only [ropeTo]
      rcases (show k + 1 ≤ n ∨ n = k by omega) with l | l
      · rw [ih l]; rfl
      · subst l; rw [h]; simp
  unfold ropeB
  rw [key L.length (by omega)]
  simp
def NewI (w : World) (b : Nat) : Prop := w.cell? ⟨b, 0, none⟩ = some (.int .i64 0) ∧ w.cell? ⟨b, 1, none⟩ = some (.int .i64 0) ∧ w.frozen? ⟨b, 0, none⟩ = false ∧ w.frozen? ⟨b, 1, none⟩ = false ∧ b < w.heap.size
theorem newI_D {W w : World} {ty : TypeId} (h : Below (W.alloc (.cells #[.int .i64 0, .int .i64 0] ty)).heap.size (W.alloc (.cells #[.int .i64 0, .int .i64 0] ty)) w) : NewI w W.heap.size := by
  have f : NewI (W.alloc (.cells #[.int .i64 0, .int .i64 0] ty)) W.heap.size := ⟨by simp, by simp, by simp, by simp, by simp⟩
  exact ⟨(h.cell (p := ⟨W.heap.size, 0, none⟩) f.2.2.2.2).trans f.1, (h.cell (p := ⟨W.heap.size, 1, none⟩) f.2.2.2.2).trans f.2.1, (h.frozen (p := ⟨W.heap.size, 0, none⟩) f.2.2.2.2).trans f.2.2.1, (h.frozen (p := ⟨W.heap.size, 1, none⟩) f.2.2.2.2).trans f.2.2.2.1, Nat.lt_of_lt_of_le f.2.2.2.2 h.size⟩
theorem newI_DD {W w : World} {ty : TypeId} (h : Below (W.alloc (.cells #[.int .i64 0, .int .i64 0] ty)).drew.heap.size (W.alloc (.cells #[.int .i64 0, .int .i64 0] ty)).drew w) : NewI w W.heap.size := newI_D (ty := ty) ⟨h.os, h.tape, h.output, h.size, h.block⟩
/-- What the list of factors keeps. -/
def FInv (L : List HoldR) (k : Nat) (F : List (Int × Int)) : Prop :=
  (k < L.length → F.length = if k = 0 then 1 else k) ∧ 1 ≤ F.length ∧ F.length ≤ 9 ∧ validF (frg F (F.length - 1)).1 (frg F (F.length - 1)).2 = true ∧ 1 ≤ (frg F (F.length - 1)).2 ∧ (frg F (F.length - 1)).2 ≤ (frg F (F.length - 1)).1 ∧ (frg F (F.length - 1)).1 ≤ 100 ^ (F.length - 1)

set_option maxRecDepth 100000 in
set_option maxHeartbeats 16000000 in
theorem along_any (nm : ByteArray) (a : Option Addr) (L : List HoldR) (cap : Nat) (hd : Bool) (w : World) (hl : L.length ≤ 1000000) (h : Holds w.heap.size w a L) :
    Calls Try.prog 37 #[.agg #[.string nm, .slice a L.length cap, .bool hd], .bool true] w fun e w' => Hid (∃ v, e = .returned (.tuple #[v, .int .i64 (if ropeB L then 0 else 1)])) ∧ Below w.heap.size w w' := by
  by_cases hn : 2 ≤ L.length ∧ L.length ≤ 10
  · obtain ⟨n1, n2⟩ := hn
    have HS := Lib.hid h
    have g1 : decide ((L.length : Int) < 2) = false := decide_eq_false (by omega)
    have g2 : decide ((10 : Int) < L.length) = false := decide_eq_false (by omega)
    obtain ⟨R, hR⟩ : ∃ R : Int, (if ropeB L then 0 else 1) = R := ⟨_, rfl⟩
    rw [hR]
    have HR := Lib.hid hR
    clear hR h
    have hW0 := below_new w (.cells #[.string nm, .slice a L.length cap, .bool hd] 45)
    go_enter Try.func37, Try.ntmps37
    go_upto_region 4 with (fail)
    have hcS : (w.alloc (.cells #[.string nm, .slice a L.length cap, .bool hd] 45)).cell? ⟨w.heap.size, 1, none⟩ = some (.slice a L.length cap) := by simp
    obtain ⟨Br, hBr⟩ : ∃ b, w.heap.size = b := ⟨_, rfl⟩
    rw [hBr] at hcS
    simp only [hBr]
    generalize w.alloc (.cells #[.string nm, .slice a L.length cap, .bool hd] 45) = W0 at *
    go_upto_region 5 with (go_at_call 54; (with_reducible refine (wholeL_any 1 _).mono ?_); rintro e w1 ⟨rfl, hb1⟩; have hc1 := (hb1.cell (p := ⟨Br, 1, none⟩) (World.block_lt_of_cell? _ _ hcS)).trans hcS)
    have hrow0 := World.ownsRow_lit (base := w1.heap.size) (e := 76) (size := 2) w1 #[.int .i64 1, .int .i64 1] 1 (Nat.le_refl _) (by unfold maxLen; omega) rfl
    have b1 : Below W0.heap.size W0 (w1.alloc (.cells #[.int .i64 1, .int .i64 1] 76)) := below_a _ hb1
    have hW1 := hW0.trans (b1.mono hW0.size)
    have hzB : W0.heap.size ≤ w1.heap.size := hb1.size
    have hS1 := ((HS.out.grow hW0).below b1).mono hzB
    have hzr : Br < w1.heap.size := Nat.lt_of_lt_of_le (World.block_lt_of_cell? _ _ hcS) hzB
    have hzw : w.heap.size ≤ w1.heap.size := Nat.le_trans hW0.size hzB
    have hc2 := (b1.cell (p := ⟨Br, 1, none⟩) (World.block_lt_of_cell? _ _ hcS)).trans hcS
    have hB1 : Below w1.heap.size (w1.alloc (.cells #[.int .i64 1, .int .i64 1] 76)) (w1.alloc (.cells #[.int .i64 1, .int .i64 1] 76)) := Below.refl _ _
    have hz1 : w1.heap.size ≤ (w1.alloc (.cells #[.int .i64 1, .int .i64 1] 76)).heap.size := by simp
    clear hb1 b1 hW0 hcS hc1 HS
    generalize w1.alloc (.cells #[.int .i64 1, .int .i64 1] 76) = Wa at *
    generalize w1.heap.size = B0 at *
    have HS := Lib.hid hS1
    have HF0 : Hid (FInv L 0 [(1, 1)]) := Lib.hid ⟨fun _ => rfl, by decide, by decide, by decide, by decide, by decide, by decide⟩
    clear hS1
    go_wp2_with fail
    go_loopw [7, 27] (fun v i wr => ∃ (k : Nat) (F : List (Int × Int)), k ≤ L.length ∧ i = .int .i64 k ∧ Hid (ropeTo L k = true) ∧ Hid (FInv L k F) ∧ wr.ownsRow B0 76 2 v F.length (frflat F) ∧ Below B0 Wa wr) (fun _ i _ => L.length - (intOf i).toNat)
    case atStart => exact ⟨0, [(1, 1)], Nat.zero_le _, rfl, Lib.hid rfl, HF0, hrow0, hB1⟩
    case round =>
      obtain ⟨k, F, hk, rfl, HT0, HFI0, hrow, hC⟩ := hrel
      clear hrow0 hB1 HF0
      by_cases hlt : k < L.length
      · obtain ⟨b, off, rfl, hb, hcx⟩ := HS.out (by omega)
        obtain ⟨e0, e1, e2, e3⟩ := hcx k hlt
        have d0 := (hC.cell (p := ⟨b, off + k * 4, none⟩) hb).trans e0
        have d1 := (hC.cell (p := ⟨b, off + k * 4 + 1, none⟩) hb).trans e1
        have d2 := (hC.cell (p := ⟨b, off + k * 4 + 2, none⟩) hb).trans e2
        have d3 := (hC.cell (p := ⟨b, off + k * 4 + 3, none⟩) hb).trans e3
        obtain ⟨h, hh⟩ : ∃ h, hg L k = h := ⟨_, rfl⟩
        rw [hh] at d0 d1 d2 d3
        have HH := Lib.hid hh
        clear hcx e0 e1 e2 e3 hh
        go_upto_region 8 with (fail)
        have hC1 : Below B0 Wa (wr.alloc (.cells #[.string h.block, .int .i64 h.pulls, .int .i64 h.ln, .int .i64 h.ld] 79)) := hC.alloc (Nat.le_trans hz1 hC.size) _
        have hrow2 := hrow.alloc (.cells #[.string h.block, .int .i64 h.pulls, .int .i64 h.ln, .int .i64 h.ld] 79)
        have HX0 : Hid (∀ w', Below (wr.alloc (.cells #[.string h.block, .int .i64 h.pulls, .int .i64 h.ln, .int .i64 h.ld] 79)).heap.size (wr.alloc (.cells #[.string h.block, .int .i64 h.pulls, .int .i64 h.ln, .int .i64 h.ld] 79)) w' → w'.cell? ⟨wr.heap.size, 0, none⟩ = some (.string h.block) ∧ w'.cell? ⟨wr.heap.size, 1, none⟩ = some (.int .i64 h.pulls) ∧ w'.cell? ⟨wr.heap.size, 2, none⟩ = some (.int .i64 h.ln) ∧ w'.cell? ⟨wr.heap.size, 3, none⟩ = some (.int .i64 h.ld)) := Lib.hid fun w' q =>
          ⟨(q.cell (p := ⟨wr.heap.size, 0, none⟩) (by simp)).trans (by simp), (q.cell (p := ⟨wr.heap.size, 1, none⟩) (by simp)).trans (by simp), (q.cell (p := ⟨wr.heap.size, 2, none⟩) (by simp)).trans (by simp), (q.cell (p := ⟨wr.heap.size, 3, none⟩) (by simp)).trans (by simp)⟩
        clear hrow hC d0 d1 d2 d3
        generalize wr.alloc (.cells #[.string h.block, .int .i64 h.pulls, .int .i64 h.ln, .int .i64 h.ld] 79) = W2 at *
        generalize wr.heap.size = B9 at *
        have HX := HX0
        clear HX0
        have hbr := Below.refl W2.heap.size W2
        obtain ⟨x0, x1, x2, x3⟩ := HX.out _ hbr
        obtain ⟨lo, hlo⟩ : ∃ b, lossyF h.ln h.ld = b := ⟨_, rfl⟩
        have HLo := Lib.hid hlo
        have HNo : Hid (holdB L.length k h = false → R = 1) := Lib.hid fun q => by rw [← HR.out, rope_no hlt (by rw [HH.out]; exact q)]; rfl
        have HYes : Hid (holdB L.length k h = true → ropeTo L (k + 1) = true) := Lib.hid fun q => by simp only [ropeTo]; rw [HT0.out, HH.out, q]; rfl
        have HDef : Hid (holdB L.length k h = (lossyF h.ln h.ld && (!(k == 0 || k + 1 == L.length) || oneB h))) := Lib.hid rfl
        clear hlo
        have hz2 : B0 ≤ W2.heap.size := Nat.le_trans hz1 hC1.size
        have hend2 : (k = 0 ∨ k + 1 = L.length) ∨ ¬ (k = 0 ∨ k + 1 = L.length) := Classical.em _
        have keyF : ∀ y, Below W2.heap.size W2 y → Hid (Below w.heap.size w y) := fun y q => Lib.hid (hW1.trans ((hC1.trans (q.mono hz2)).mono hzw))
        have keyB : ∀ y, Below W2.heap.size W2 y → Hid (Below B0 Wa y) := fun y q => Lib.hid (hC1.trans (q.mono hz2))
        have HKF := Lib.hid keyF
        have HKG := Lib.hid keyF
        have HKB := Lib.hid keyB
        rw [hBr] at HKF
        clear keyF keyB hend2
        by_cases hend : k = 0 ∨ k + 1 = L.length
        · have HE : Hid ((k == 0 || k + 1 == L.length) = true) := Lib.hid (by simpa using hend)
          have key : ∀ (o : Bool), oneB h = o → Hid (holdB L.length k h = (lo && o)) := fun o ho => Lib.hid (by rw [HDef.out, HE.out, HLo.out, ho]; simp)
          by_cases hone : h.ln = 1 ∧ h.ld = 1
          · have ho1 : (h.ln == 1) = true := by simpa using hone.1
            have ho2 : (h.ld == 1) = true := by simpa using hone.2
            have ho3 : (h.ln != 1) = false := by simpa using hone.1
            have ho4 : (h.ld != 1) = false := by simpa using hone.2
            have HO := key true (by unfold oneB; rw [ho1, ho2]; rfl)
            rw [Bool.and_true] at HO
            clear key hone
            cases lo
            · have HR1 : R = 1 := HNo.out HO.out
              subst HR1
              rcases hend with e | e
              · have f1 : ((k : Int) == 0) = true := by simpa using e
                clear e
                go_upto_region 9 with (fail)
                first
                  | go_region_with (first
                    | (go_at_call 54; (with_reducible refine (wholeL_any 1 _).mono ?_); rintro e y1 ⟨rfl, hy1⟩; have hx1 : Below W2.heap.size W2 y1 := hbr.drew.trans hy1; obtain ⟨x0, x1, x2, x3⟩ := HX.out _ hx1)
                    | (go_at_call 55; (with_reducible refine (lossy_any h.ln h.ld _).mono ?_); rintro e y2 ⟨rfl, hy2⟩; rw [HLo.out]; have hx2 : Below W2.heap.size W2 y2 := (by first | exact held_next hx1 hy2 | exact hbr.drew.trans hy2); obtain ⟨x0, x1, x2, x3⟩ := HX.out _ hx2))
                  | fail
                all_goals simp only [Act.put, List.setIfInBounds_toArray, List.set_cons_zero, List.set_cons_succ, List.getElem_toArray, List.getElem_cons_succ, List.getElem_cons_zero]
                all_goals go_wp2_with fail
                all_goals go_ret2
                all_goals exact ⟨Lib.hid ⟨_, rfl⟩, by first | exact (HKF.out _ hx2).out | exact (HKG.out _ hx2).out⟩
              · have f1 : ((k : Int) == 0) = false := by simp; omega
                have f2 : ((k : Int) == (L.length : Int) - 1) = true := by simp; omega
                clear e
                go_upto_region 9 with (fail)
                first
                  | go_region_with (first
                    | (go_at_call 54; (with_reducible refine (wholeL_any 1 _).mono ?_); rintro e y1 ⟨rfl, hy1⟩; have hx1 : Below W2.heap.size W2 y1 := hbr.drew.trans hy1; obtain ⟨x0, x1, x2, x3⟩ := HX.out _ hx1)
                    | (go_at_call 55; (with_reducible refine (lossy_any h.ln h.ld _).mono ?_); rintro e y2 ⟨rfl, hy2⟩; rw [HLo.out]; have hx2 : Below W2.heap.size W2 y2 := (by first | exact held_next hx1 hy2 | exact hbr.drew.trans hy2); obtain ⟨x0, x1, x2, x3⟩ := HX.out _ hx2))
                  | fail
                all_goals simp only [Act.put, List.setIfInBounds_toArray, List.set_cons_zero, List.set_cons_succ, List.getElem_toArray, List.getElem_cons_succ, List.getElem_cons_zero]
                all_goals go_wp2_with fail
                all_goals go_ret2
                all_goals exact ⟨Lib.hid ⟨_, rfl⟩, by first | exact (HKF.out _ hx2).out | exact (HKG.out _ hx2).out⟩
            · have HT1 : Hid (ropeTo L (k + 1) = true) := Lib.hid (HYes.out HO.out)
              have HF1 : Hid (FInv L (k + 1) F) := Lib.hid ⟨fun q => by have := HFI0.out.1 hlt; rcases hend with e | e; (rw [if_neg (by omega)]; rw [if_pos e] at this; omega); omega, HFI0.out.2⟩
              rcases hend with e | e
              · have f1 : ((k : Int) == 0) = true := by simpa using e
                clear e
                go_upto_region 9 with (fail)
                first
                  | go_region_with (first
                    | (go_at_call 54; (with_reducible refine (wholeL_any 1 _).mono ?_); rintro e y1 ⟨rfl, hy1⟩; have hx1 : Below W2.heap.size W2 y1 := hbr.drew.trans hy1; obtain ⟨x0, x1, x2, x3⟩ := HX.out _ hx1)
                    | (go_at_call 55; (with_reducible refine (lossy_any h.ln h.ld _).mono ?_); rintro e y2 ⟨rfl, hy2⟩; rw [HLo.out]; have hx2 : Below W2.heap.size W2 y2 := (by first | exact held_next hx1 hy2 | exact hbr.drew.trans hy2); obtain ⟨x0, x1, x2, x3⟩ := HX.out _ hx2))
                  | fail
                all_goals simp only [Act.put, List.setIfInBounds_toArray, List.set_cons_zero, List.set_cons_succ, List.getElem_toArray, List.getElem_cons_succ, List.getElem_cons_zero]
                all_goals go_wp2_with fail
                all_goals exact ⟨⟨k + 1, F, by omega, by go_num, HT1, HF1, ownsRow_below hrow2 hx2, (HKB.out _ hx2).out⟩, by simp [intOf]; omega⟩
              · have f1 : ((k : Int) == 0) = false := by simp; omega
                have f2 : ((k : Int) == (L.length : Int) - 1) = true := by simp; omega
                clear e
                go_upto_region 9 with (fail)
                first
                  | go_region_with (first
                    | (go_at_call 54; (with_reducible refine (wholeL_any 1 _).mono ?_); rintro e y1 ⟨rfl, hy1⟩; have hx1 : Below W2.heap.size W2 y1 := hbr.drew.trans hy1; obtain ⟨x0, x1, x2, x3⟩ := HX.out _ hx1)
                    | (go_at_call 55; (with_reducible refine (lossy_any h.ln h.ld _).mono ?_); rintro e y2 ⟨rfl, hy2⟩; rw [HLo.out]; have hx2 : Below W2.heap.size W2 y2 := (by first | exact held_next hx1 hy2 | exact hbr.drew.trans hy2); obtain ⟨x0, x1, x2, x3⟩ := HX.out _ hx2))
                  | fail
                all_goals simp only [Act.put, List.setIfInBounds_toArray, List.set_cons_zero, List.set_cons_succ, List.getElem_toArray, List.getElem_cons_succ, List.getElem_cons_zero]
                all_goals go_wp2_with fail
                all_goals exact ⟨⟨k + 1, F, by omega, by go_num, HT1, HF1, ownsRow_below hrow2 hx2, (HKB.out _ hx2).out⟩, by simp [intOf]; omega⟩
          · have HO := key false (by unfold oneB; rw [Bool.eq_false_iff]; simpa using hone)
            rw [Bool.and_false] at HO
            have HR1 : R = 1 := HNo.out HO.out
            subst HR1
            clear key
            by_cases hq : h.ln = 1
            · have ho1 : (h.ln == 1) = true := by simpa using hq
              have ho3 : (h.ln != 1) = false := by simpa using hq
              have ho2 : (h.ld == 1) = false := by simpa using fun e => hone ⟨hq, e⟩
              have ho4 : (h.ld != 1) = true := by simpa using fun e => hone ⟨hq, e⟩
              clear hone hq
              rcases hend with e | e
              · have f1 : ((k : Int) == 0) = true := by simpa using e
                clear e
                go_upto_region 9 with (fail)
                first
                  | go_region_with (first
                    | (go_at_call 54; (with_reducible refine (wholeL_any 1 _).mono ?_); rintro e y1 ⟨rfl, hy1⟩; have hx1 : Below W2.heap.size W2 y1 := hbr.drew.trans hy1; obtain ⟨x0, x1, x2, x3⟩ := HX.out _ hx1))
                  | fail
                all_goals simp only [Act.put, List.setIfInBounds_toArray, List.set_cons_zero, List.set_cons_succ, List.getElem_toArray, List.getElem_cons_succ, List.getElem_cons_zero]
                all_goals go_wp2_with fail
                all_goals go_ret2
                all_goals exact ⟨Lib.hid ⟨_, rfl⟩, by first | exact (HKF.out _ hx1).out | exact (HKG.out _ hx1).out⟩
              · have f1 : ((k : Int) == 0) = false := by simp; omega
                have f2 : ((k : Int) == (L.length : Int) - 1) = true := by simp; omega
                clear e
                go_upto_region 9 with (fail)
                first
                  | go_region_with (first
                    | (go_at_call 54; (with_reducible refine (wholeL_any 1 _).mono ?_); rintro e y1 ⟨rfl, hy1⟩; have hx1 : Below W2.heap.size W2 y1 := hbr.drew.trans hy1; obtain ⟨x0, x1, x2, x3⟩ := HX.out _ hx1))
                  | fail
                all_goals simp only [Act.put, List.setIfInBounds_toArray, List.set_cons_zero, List.set_cons_succ, List.getElem_toArray, List.getElem_cons_succ, List.getElem_cons_zero]
                all_goals go_wp2_with fail
                all_goals go_ret2
                all_goals exact ⟨Lib.hid ⟨_, rfl⟩, by first | exact (HKF.out _ hx1).out | exact (HKG.out _ hx1).out⟩
            · have ho1 : (h.ln == 1) = false := by simpa using hq
              have ho3 : (h.ln != 1) = true := by simpa using hq
              clear hone hq
              rcases hend with e | e
              · have f1 : ((k : Int) == 0) = true := by simpa using e
                clear e
                go_upto_region 9 with (fail)
                first
                  | go_region_with (first
                    | (go_at_call 54; (with_reducible refine (wholeL_any 1 _).mono ?_); rintro e y1 ⟨rfl, hy1⟩; have hx1 : Below W2.heap.size W2 y1 := hbr.drew.trans hy1; obtain ⟨x0, x1, x2, x3⟩ := HX.out _ hx1))
                  | fail
                all_goals simp only [Act.put, List.setIfInBounds_toArray, List.set_cons_zero, List.set_cons_succ, List.getElem_toArray, List.getElem_cons_succ, List.getElem_cons_zero]
                all_goals go_wp2_with fail
                all_goals go_ret2
                all_goals exact ⟨Lib.hid ⟨_, rfl⟩, by first | exact (HKF.out _ hx1).out | exact (HKG.out _ hx1).out⟩
              · have f1 : ((k : Int) == 0) = false := by simp; omega
                have f2 : ((k : Int) == (L.length : Int) - 1) = true := by simp; omega
                clear e
                go_upto_region 9 with (fail)
                first
                  | go_region_with (first
                    | (go_at_call 54; (with_reducible refine (wholeL_any 1 _).mono ?_); rintro e y1 ⟨rfl, hy1⟩; have hx1 : Below W2.heap.size W2 y1 := hbr.drew.trans hy1; obtain ⟨x0, x1, x2, x3⟩ := HX.out _ hx1))
                  | fail
                all_goals simp only [Act.put, List.setIfInBounds_toArray, List.set_cons_zero, List.set_cons_succ, List.getElem_toArray, List.getElem_cons_succ, List.getElem_cons_zero]
                all_goals go_wp2_with fail
                all_goals go_ret2
                all_goals exact ⟨Lib.hid ⟨_, rfl⟩, by first | exact (HKF.out _ hx1).out | exact (HKG.out _ hx1).out⟩
        · have f1 : ((k : Int) == 0) = false := by simp; omega
          have f2 : ((k : Int) == (L.length : Int) - 1) = false := by simp; omega
          have HE : Hid ((k == 0 || k + 1 == L.length) = false) := Lib.hid (by simpa using hend)
          have HO : Hid (holdB L.length k h = lo) := Lib.hid (by rw [HDef.out, HE.out, HLo.out]; simp)
          have hk0 : 0 < k := by omega
          have hkn : k + 1 < L.length := by omega
          clear hend
          cases lo
          · have HR1 : R = 1 := HNo.out HO.out
            subst HR1
            go_upto_region 9 with (fail)
            first
              | go_region_with (first
                | (go_at_call 55; (with_reducible refine (lossy_any h.ln h.ld _).mono ?_); rintro e y2 ⟨rfl, hy2⟩; rw [HLo.out]; have hx2 : Below W2.heap.size W2 y2 := (by first | exact held_next hx1 hy2 | exact hbr.drew.trans hy2); obtain ⟨x0, x1, x2, x3⟩ := HX.out _ hx2))
              | fail
            all_goals simp only [Act.put, List.setIfInBounds_toArray, List.set_cons_zero, List.set_cons_succ, List.getElem_toArray, List.getElem_cons_succ, List.getElem_cons_zero]
            all_goals go_wp2_with fail
            all_goals go_ret2
            all_goals exact ⟨Lib.hid ⟨_, rfl⟩, by first | exact (HKF.out _ hx2).out | exact (HKG.out _ hx2).out⟩
          · have HT1 : Hid (ropeTo L (k + 1) = true) := Lib.hid (HYes.out HO.out)
            obtain ⟨i1, i2, i3, i4, i5, i6, i7⟩ := HFI0.out
            have i8 := i1 hlt
            rw [if_neg (by omega)] at i8
            have HIF := Lib.hid (⟨i4, i5, i6, i7⟩ : validF (frg F (F.length - 1)).1 (frg F (F.length - 1)).2 = true ∧ 1 ≤ (frg F (F.length - 1)).2 ∧ (frg F (F.length - 1)).2 ≤ (frg F (F.length - 1)).1 ∧ (frg F (F.length - 1)).1 ≤ 100 ^ (F.length - 1))
            obtain ⟨p, q, hpq, hv, hq1, hq2, hq3⟩ := factor_step (m := F.length - 1) i5 i6 i7 (by omega) HLo.out
            have HMul : Hid (∀ w : World, Calls Try.prog 56 #[.agg #[.int .i64 (frg F (F.length - 1)).1, .int .i64 (frg F (F.length - 1)).2], .agg #[.int .i64 h.ln, .int .i64 h.ld]] w fun e w' => e = .returned (.tuple #[.agg #[.int .i64 p, .int .i64 q], .int .i64 0]) ∧ Below w.heap.size w w') := Lib.hid fun w => by
              have hm := mul_any (frg F (F.length - 1)).1 (frg F (F.length - 1)).2 h.ln h.ld i4 (lossy_ok HLo.out).2.2.2 w
              rw [hpq] at hm
              exact hm
            have HF1 : Hid (FInv L (k + 1) (F ++ [(p, q)])) := Lib.hid (by
              have hlen : (F ++ [(p, q)]).length = F.length + 1 := by simp
              have hlast : frg (F ++ [(p, q)]) F.length = (p, q) := frg_new F (p, q)
              refine ⟨fun _ => by rw [hlen, if_neg (by omega)]; omega, by omega, by omega, ?_⟩
              rw [hlen, Nat.add_sub_cancel, hlast]
              refine ⟨hv, hq1, hq2, ?_⟩
              rw [show F.length = F.length - 1 + 1 by omega]
              exact hq3)
            clear i1 i2 i4 i5 i6 i7 hpq hv hq1 hq2 hq3
            obtain ⟨ao, co, rfl, hco, _, _, hFr⟩ := fr_of_row hrow2
            obtain ⟨bo, oo, rfl, hbo, hFc⟩ := hFr (by omega)
            obtain ⟨z0, z1⟩ := hFc (F.length - 1) (by omega)
            obtain ⟨m, hm⟩ : ∃ m, F.length - 1 = m := ⟨_, rfl⟩
            have hFl : F.length = m + 1 := by omega
            have hkm : k = m + 1 := by omega
            rw [hm] at z0 z1
            have s1 : IntKind.i64.wrap ((k : Int) - 1) = (m : Int) := by rw [IntWalk.i64_in _ (by omega)]; omega
            obtain ⟨fx, fy, hfx⟩ : ∃ fx fy, frg F m = (fx, fy) := ⟨_, _, rfl⟩
            rw [hm, hfx] at HMul
            rw [hfx] at z0 z1
            simp only at z0 z1 HMul
            have hle : F.length ≤ 1000000 := by omega
            have hmF : m < F.length := by omega
            have hmF2 : (m : Int) < (F.length : Int) := by omega
            have hm0 : (0 : Int) ≤ (m : Int) := by omega
            clear hFr hFc HIF i8 hm hFl hkm
            go_upto_region 9 with (fail)
            first
              | go_region_with (go_at_call 55; (with_reducible refine (lossy_any h.ln h.ld _).mono ?_); rintro e y2 ⟨rfl, hy2⟩; rw [HLo.out]; have hx2 : Below W2.heap.size W2 y2 := (by first | exact held_next hx1 hy2 | exact hbr.drew.trans hy2); obtain ⟨x0, x1, x2, x3⟩ := HX.out _ hx2)
              | fail
            all_goals simp only [Act.put, List.setIfInBounds_toArray, List.set_cons_zero, List.set_cons_succ, List.getElem_toArray, List.getElem_cons_succ, List.getElem_cons_zero]
            all_goals go_upto_region 12 with (fail)
            all_goals (have hx2d := hx2.drew; have hzx := hx2.size; have k0 := (hx2.cell (p := ⟨bo, oo + m * 2, none⟩) hbo).trans z0; have k1 := (hx2.cell (p := ⟨bo, oo + m * 2 + 1, none⟩) hbo).trans z1; have hB9 : B9 < y2.heap.size := World.block_lt_of_cell? _ _ x2; have hbx : bo < y2.heap.size := Nat.lt_of_lt_of_le hbo hzx; have hr3 := ownsRow_below hrow2 hx2)
            all_goals
              go_cut [11, 12] (fun v11 v12 wx => ∃ B : Nat, v11 = .pointer (some ⟨B, 0, none⟩) ∧ v12 = .int .i64 0 ∧ W2.heap.size ≤ B ∧ Below W2.heap.size W2 wx ∧ wx.cell? ⟨B, 0, none⟩ = some (.int .i64 p) ∧ wx.cell? ⟨B, 1, none⟩ = some (.int .i64 q))
              case first =>
                go_region_with (go_at_call 56; (with_reducible refine (HMul.out _).mono ?_); rintro e y3 ⟨rfl, hy3⟩; first | (have hx3 : Below W2.heap.size W2 y3 := held_next hx2d hy3) | (have hx3 : Below W2.heap.size W2 y3 := held_next ((below_a _ hx2).drew) hy3; have hq : NewI y3 y2.heap.size := newI_DD hy3; obtain ⟨t0, t1, t2, t3, t4⟩ := hq))
                all_goals go_wp2_with fail
                all_goals go_meet
                all_goals first
                  | exact ⟨_, rfl, rfl, hzx, below_s ⟨y2.heap.size, 1, none⟩ _ (below_s ⟨y2.heap.size, 0, none⟩ _ hx3 hzx) hzx, two_cells t0 t1⟩
                  | exact ⟨_, rfl, rfl, hx3.size, below_a _ hx3, new_cells _ _ _ _⟩
              case rest =>
                obtain ⟨B, rfl, rfl, hB, hcx, p0, p1⟩ := hcut
                have hr4 := ownsRow_below hrow2 hcx
                have hBs := hcx.size
                have hBk := (HKB.out _ hcx).out
                clear hr3 k0 k1
                go_wp2_with (at_builtin; refine fr_append rfl _ _ rfl B0 _ F rfl (hr4.alloc (.cells #[.int .i64 p, .int .i64 q] 76)) _ (p, q) rfl (by simp) hle (by first | omega | (simp; omega)) ?_; intro v5 w5 hown5 hg5; have hBn : Below B0 Wa w5 := grown_own (hr4.alloc (.cells #[.int .i64 p, .int .i64 q] 76)) hg5 (hBk.alloc (by first | omega | (simp; omega)) _) (by simp; omega) (Nat.le_refl _))
                first
                  | exact ⟨⟨k + 1, F ++ [(p, q)], by omega, by go_num, HT1, HF1, hown5, hBn⟩, by simp [intOf]; omega⟩
      · obtain rfl : k = L.length := by omega
        have HR0 : R = 0 := (by rw [← HR.out]; unfold ropeB; rw [HT0.out, decide_eq_true n1, decide_eq_true n2]; rfl)
        subst HR0
        go_wp2_with fail
        go_ret2
        have hfin := hW1.trans (hC.mono hzw)
        exact ⟨Lib.hid ⟨_, rfl⟩, by first | exact hfin | (rw [← hBr]; exact hfin)⟩
  · have HR : Hid (ropeB L = false) := Lib.hid (by
      unfold ropeB
      rw [Bool.eq_false_iff]
      simp
      omega)
    rw [HR.out]
    have g3 : decide ((L.length : Int) < 2) = decide (L.length < 2) := by rw [Bool.eq_iff_iff]; simp; omega
    have hW0 := below_new w (.cells #[.string nm, .slice a L.length cap, .bool hd] 45)
    clear g3
    by_cases hq : L.length < 2
    · have g1 : decide ((L.length : Int) < 2) = true := decide_eq_true (by omega)
      have q1 : (L.length : Int) < 2 := by omega
      clear hn
      go_enter Try.func37, Try.ntmps37
      go_wp2_with fail
      go_ret2
      exact ⟨Lib.hid ⟨_, rfl⟩, hW0⟩
    · have g1 : decide ((L.length : Int) < 2) = false := decide_eq_false (by omega)
      have g2 : decide ((10 : Int) < L.length) = true := decide_eq_true (by omega)
      have q1 : (10 : Int) < L.length := by omega
      clear hn
      go_enter Try.func37, Try.ntmps37
      go_wp2_with fail
      go_ret2
      exact ⟨Lib.hid ⟨_, rfl⟩, hW0⟩
end Go.Proofs.Ythldfijlcoobgaa
namespace Go.Proofs.Ythldfijlcoobgaa
open Go.RowKit Go.Shelf
theorem bends_any (nm : ByteArray) (a : Option Addr) (L : List HoldR) (cap : Nat) (hd : Bool) (w : World) (hl : L.length ≤ 1000000) (h : Holds w.heap.size w a L) :
    Calls Try.prog 23 #[.agg #[.string nm, .slice a L.length cap, .bool hd]] w fun e w' => e = .returned (.tuple #[.int .i64 (if ropeB L then (L.length : Int) - 2 else 0), .int .i64 (if ropeB L then 0 else 1)]) ∧ Below w.heap.size w w' := by
  have HS := Lib.hid h
  have s1 : IntKind.i64.wrap ((L.length : Int) - 2) = (L.length : Int) - 2 := IntWalk.i64_in _ (by omega)
  clear h
  have hW0 := below_new w (.cells #[.string nm, .slice a L.length cap, .bool hd] 45)
  obtain ⟨b, hb⟩ : ∃ b, ropeB L = b := ⟨_, rfl⟩
  have HB := Lib.hid hb
  rw [hb]
  clear hb
  have HC : Hid (Calls Try.prog 37 #[.agg #[.string nm, .slice a L.length cap, .bool hd], .bool true] (w.alloc (.cells #[.string nm, .slice a L.length cap, .bool hd] 45)) fun e w' => Hid (∃ v, e = .returned (.tuple #[v, .int .i64 (if b then 0 else 1)])) ∧ Below w.heap.size w w' ∧ w'.cell? ⟨w.heap.size, 1, none⟩ = some (.slice a L.length cap)) := Lib.hid (by
    refine (along_any nm a L cap hd _ hl ((HS.out.below hW0).mono hW0.size)).mono ?_
    rintro e w1 ⟨hv, hb1⟩
    rw [HB.out] at hv
    exact ⟨hv, hW0.trans (hb1.mono hW0.size), (hb1.cell (p := ⟨w.heap.size, 1, none⟩) (by simp)).trans (by simp)⟩)
  clear hW0 HB HS
  cases b
  · simp only [Bool.false_eq_true, if_false] at HC ⊢
    go_enter Try.func23, Try.ntmps23
    go_wp2_with (go_at_call 37; (with_reducible refine (HC.out).mono ?_); rintro e w1 ⟨hv, hb1, c1⟩; obtain ⟨v, rfl⟩ := hv.out)
    go_ret2
    exact ⟨rfl, hb1⟩
  · simp only [if_true] at HC ⊢
    go_enter Try.func23, Try.ntmps23
    go_wp2_with (go_at_call 37; (with_reducible refine (HC.out).mono ?_); rintro e w1 ⟨hv, hb1, c1⟩; obtain ⟨v, rfl⟩ := hv.out)
    go_ret2
    exact ⟨rfl, hb1⟩
end Go.Proofs.Ythldfijlcoobgaa
namespace Go.Proofs.Ythldfijlcoobgaa
open Go.RowKit Go.Shelf

def placeBad (n : Int) : Bool := decide (n < 0) || decide (1048576 < n)
set_option maxHeartbeats 1000000 in
theorem asks_placeBad (n₀ : Nat) (w : World) : AsksN 39 #[] n₀ w placeBad := by
  intro W r hB
  show Calls _ _ #[numV r] _ _
  unfold numV
  have key : ∀ b1 b2 : Bool, decide (r < 0) = b1 → decide (1048576 < r) = b2 → Hid (placeBad r = (b1 || b2)) := fun b1 b2 h1 h2 => Lib.hid (by unfold placeBad; rw [h1, h2])
  by_cases a1 : r < 0
  · have H := key _ _ (decide_eq_true a1) rfl
    clear key
    go_enter Try.func39, Try.ntmps39
    go_wp2
    go_ret
    exact ⟨ret_bool (by rw [H.out]; simp), Below.refl _ _⟩
  · have H := key _ _ (decide_eq_false a1) rfl
    clear key
    go_enter Try.func39, Try.ntmps39
    go_wp2
    go_ret
    exact ⟨ret_bool (by rw [H.out]; simp), Below.refl _ _⟩
theorem ent_placeBad (args : Array Value) (w : World) : (callFunc 39 args).run Try.prog w = .ok (.enter 39 args) w := enters_of Try.func39 (by kernel_rfl) rfl args w

/-- What is wrong with places. -/
def placesE (L : List Int) : Int := if 1000 < L.length then 4 else if L.any placeBad then 2 else 0
theorem places_ok {L : List Int} (h : placesE L = 0) : L.length ≤ 1000 ∧ ∀ k, k < L.length → 0 ≤ ig L k ∧ ig L k ≤ 1048576 := by
  unfold placesE at h
  split at h
  · cases h
  · split at h
    · cases h
    · rename_i h1 h2
      refine ⟨by omega, fun k hk => ?_⟩
      have := List.any_eq_false.1 (Bool.eq_false_iff.2 h2) (ig L k) (by rw [ig_eq L k hk]; exact List.getElem_mem hk)
      unfold placeBad at this
      simp at this
      omega
set_option maxHeartbeats 4000000 in
theorem places_any (a : Option Addr) (L : List Int) (cap : Nat) (w : World) (hl : L.length ≤ 1000000) (h : Nums w.heap.size w a L) :
    Calls Try.prog 26 #[.slice a L.length cap] w fun e w' => e = .returned (.int .i64 (placesE L)) ∧ Below w.heap.size w w' := by
  have HS := Lib.hid h
  clear h
  by_cases hn : 1000 < L.length
  · have HR : Hid (placesE L = 4) := Lib.hid (by unfold placesE; rw [if_pos hn])
    rw [HR.out]
    have hn' : (1000 : Int) < L.length := by omega
    go_enter Try.func26, Try.ntmps26
    go_wp2_with fail
    go_ret
    exact ⟨rfl, Below.refl _ _⟩
  · cases hs : L.any placeBad
    · have HR : Hid (placesE L = 0) := Lib.hid (by unfold placesE; rw [if_neg hn, hs]; rfl)
      have HAN : Hid (num_any L placeBad = false) := Lib.hid (by rw [num_any_eq]; exact hs)
      rw [HR.out]
      clear hs
      go_enter Try.func26, Try.ntmps26
      go_wp2_with (go_at_call 38; (with_reducible refine (num_containsFunc _ L _ _ _ _ placeBad _ ent_placeBad (by omega) (Nat.le_refl _) HS.out (asks_placeBad _ _)).mono ?_); rintro e w2 ⟨rfl, hb2⟩; rw [HAN.out])
      go_ret
      exact ⟨rfl, hb2⟩
    · have HR : Hid (placesE L = 2) := Lib.hid (by unfold placesE; rw [if_neg hn, hs]; rfl)
      have HAN : Hid (num_any L placeBad = true) := Lib.hid (by rw [num_any_eq]; exact hs)
      rw [HR.out]
      clear hs
      go_enter Try.func26, Try.ntmps26
      go_wp2_with (go_at_call 38; (with_reducible refine (num_containsFunc _ L _ _ _ _ placeBad _ ent_placeBad (by omega) (Nat.le_refl _) HS.out (asks_placeBad _ _)).mono ?_); rintro e w2 ⟨rfl, hb2⟩; rw [HAN.out])
      go_ret
      exact ⟨rfl, hb2⟩

theorem max_if (a b : Int) : max a b = if a < b then b else a := by rw [Int.max_def]; split <;> split <;> omega
/-- The travel of the first places; how they turn: the last direction, and the count. -/
def travelTo (L : List Int) : Nat → Int
  | 0 => 0
  | k + 1 => travelTo L k + max (ig L (k + 1) - ig L k) (ig L k - ig L (k + 1))
def turnStep (s : Int × Int) (a b : Int) : Int × Int :=
  if a < b then (1, if s.1 ≠ 0 ∧ s.1 ≠ 1 then s.2 + 1 else s.2) else if b < a then (-1, if s.1 ≠ 0 ∧ s.1 ≠ -1 then s.2 + 1 else s.2) else s
def turnsTo (L : List Int) : Nat → Int × Int
  | 0 => (0, 0)
  | k + 1 => turnStep (turnsTo L k) (ig L k) (ig L (k + 1))
def travelP (L : List Int) : Int := travelTo L (L.length - 1)
def turnsP (L : List Int) : Int := (turnsTo L (L.length - 1)).2
theorem travel_bd {L : List Int} (h : ∀ k, k < L.length → 0 ≤ ig L k ∧ ig L k ≤ 1048576) (k : Nat) (hk : k < L.length ∨ k = 0) : 0 ≤ travelTo L k ∧ travelTo L k ≤ k * 1048576 := by
  induction k with
  | zero => simp [travelTo]
  | succ k ih =>
    have := ih (by omega)
    have a := h (k + 1) (by omega)
    have b := h k (by omega)
    simp only [travelTo]
    omega
theorem turns_bd (L : List Int) (k : Nat) : 0 ≤ (turnsTo L k).2 ∧ (turnsTo L k).2 ≤ k ∧ ((turnsTo L k).1 = 0 ∨ (turnsTo L k).1 = 1 ∨ (turnsTo L k).1 = -1) := by
  induction k with
  | zero => simp [turnsTo]
  | succ k ih =>
    simp only [turnsTo, turnStep]
    split
    · split <;> simp <;> omega
    · split
      · split <;> simp <;> omega
      · omega
set_option maxRecDepth 100000 in
set_option maxHeartbeats 8000000 in
theorem travel_any (a : Option Addr) (L : List Int) (cap : Nat) (w : World) (hl : L.length ≤ 1000000) (h : Nums w.heap.size w a L) :
    Calls Try.prog 24 #[.slice a L.length cap] w fun e w' => e = .returned (.tuple #[.int .i64 (if placesE L = 0 then travelP L else 0), .int .i64 (placesE L)]) ∧ Below w.heap.size w w' := by
  have HS := Lib.hid h
  have HPl := Lib.hid (places_any a L cap w hl h)
  clear h
  obtain ⟨g, hg⟩ : ∃ g, placesE L = g := ⟨_, rfl⟩
  rw [hg]
  rw [hg] at HPl
  by_cases h0 : g = 0
  · subst h0
    obtain ⟨hL, hB⟩ := places_ok hg
    have HB := Lib.hid hB
    rw [if_pos rfl]
    clear hg hB
    go_enter Try.func24, Try.ntmps24
    go_wp2_with (go_at_call 26; (with_reducible refine HPl.out.mono ?_); rintro e w1 ⟨rfl, hb1⟩)
    go_loopw [5, 6] (fun s i wr => ∃ k : Nat, (k + 1 ≤ L.length ∨ k = 0) ∧ i = .int .i64 (↑k + 1) ∧ s = .int .i64 (travelTo L k) ∧ Below w.heap.size w wr) (fun _ i _ => L.length - (intOf i).toNat)
    case atStart => exact ⟨0, .inr rfl, rfl, rfl, hb1⟩
    case round =>
      obtain ⟨k, hk, rfl, rfl, hC⟩ := hrel
      by_cases hlt : k + 1 < L.length
      · obtain ⟨b, off, rfl, hb, hc⟩ := HS.out (by omega)
        have d0 := (hC.cell (p := ⟨b, off + k, none⟩) hb).trans (hc k (by omega))
        have d1 := (hC.cell (p := ⟨b, off + (k + 1), none⟩) hb).trans (hc (k + 1) hlt)
        have t0 := travel_bd HB.out k (by omega)
        have x0 := HB.out k (by omega)
        have x1 := HB.out (k + 1) hlt
        obtain ⟨x, hx⟩ : ∃ x, ig L k = x := ⟨_, rfl⟩
        obtain ⟨y, hy⟩ : ∃ y, ig L (k + 1) = y := ⟨_, rfl⟩
        have HT : Hid (travelTo L (k + 1) = travelTo L k + max (y - x) (x - y)) := Lib.hid (by simp only [travelTo, hx, hy])
        rw [hx] at d0 x0
        rw [hy] at d1 x1
        obtain ⟨T, hT⟩ : ∃ T, travelTo L k = T := ⟨_, rfl⟩
        rw [hT] at t0 HT ⊢
        clear hc hx hy hT
        have s1 : IntKind.i64.wrap ((k : Int) + 1 - 1) = (k : Int) := by rw [IntWalk.i64_in _ (by omega)]; omega
        have s2 : IntKind.i64.wrap (y - x) = y - x := IntWalk.i64_in _ (by omega)
        have s3 : IntKind.i64.wrap (x - y) = x - y := IntWalk.i64_in _ (by omega)
        have s4 : IntKind.i64.wrap (T + max (y - x) (x - y)) = T + max (y - x) (x - y) := IntWalk.i64_in _ (by omega)
        have s5 : ((k : Int) + 1).toNat = k + 1 := by omega
        go_wp2_with fail
        go_quiet (fail)
        clear s1 s2 s3 s4 s5
        go_wp2
        go_roundw
        case rel => exact ⟨k + 1, .inl (by omega), by go_num, by rw [HT.out, max_if], below_drewN hC _⟩
        case measure => simp [intOf]; omega
      · have hT : travelTo L k = travelP L := by
          unfold travelP
          rcases hk with h | h
          · rw [show L.length - 1 = k by omega]
          · rw [show L.length - 1 = k by omega]
        rw [hT]
        clear hT
        go_wp2_with fail
        go_ret2
        exact ⟨rfl, hC⟩
  · rw [if_neg h0]
    have h1 : (g == 0) = false := by simpa using h0
    have h2 : (g != 0) = true := by simpa using h0
    clear hg h0
    go_enter Try.func24, Try.ntmps24
    go_wp2_with (go_at_call 26; (with_reducible refine HPl.out.mono ?_); rintro e w1 ⟨rfl, hb1⟩)
    go_ret2
    exact ⟨rfl, hb1⟩

set_option maxRecDepth 100000 in
set_option maxHeartbeats 8000000 in
theorem turns_any (a : Option Addr) (L : List Int) (cap : Nat) (w : World) (hl : L.length ≤ 1000000) (h : Nums w.heap.size w a L) :
    Calls Try.prog 10 #[.slice a L.length cap] w fun e w' => e = .returned (.tuple #[.int .i64 (if placesE L = 0 then turnsP L else 0), .int .i64 (placesE L)]) ∧ Below w.heap.size w w' := by
  have HS := Lib.hid h
  have HPl := Lib.hid (places_any a L cap w hl h)
  clear h
  obtain ⟨g, hg⟩ : ∃ g, placesE L = g := ⟨_, rfl⟩
  rw [hg]
  rw [hg] at HPl
  by_cases h0 : g = 0
  · subst h0
    obtain ⟨hL, hB⟩ := places_ok hg
    have HB := Lib.hid hB
    rw [if_pos rfl]
    clear hg hB
    go_enter Try.func10, Try.ntmps10
    go_wp2_with (go_at_call 26; (with_reducible refine HPl.out.mono ?_); rintro e w1 ⟨rfl, hb1⟩)
    go_loopw [5, 6, 7] (fun la c i wr => ∃ k : Nat, (k + 1 ≤ L.length ∨ k = 0) ∧ i = .int .i64 (↑k + 1) ∧ la = .int .i64 (turnsTo L k).1 ∧ c = .int .i64 (turnsTo L k).2 ∧ Below w.heap.size w wr) (fun _ _ i _ => L.length - (intOf i).toNat)
    case atStart => exact ⟨0, .inr rfl, rfl, rfl, rfl, hb1⟩
    case round =>
      obtain ⟨k, hk, rfl, rfl, rfl, hC⟩ := hrel
      by_cases hlt : k + 1 < L.length
      · obtain ⟨b, off, rfl, hb, hc⟩ := HS.out (by omega)
        have d0 := (hC.cell (p := ⟨b, off + k, none⟩) hb).trans (hc k (by omega))
        have d1 := (hC.cell (p := ⟨b, off + (k + 1), none⟩) hb).trans (hc (k + 1) hlt)
        have t0 := turns_bd L k
        obtain ⟨x, hx⟩ : ∃ x, ig L k = x := ⟨_, rfl⟩
        obtain ⟨y, hy⟩ : ∃ y, ig L (k + 1) = y := ⟨_, rfl⟩
        have HT : Hid (turnsTo L (k + 1) = turnStep (turnsTo L k) x y) := Lib.hid (by simp only [turnsTo, hx, hy])
        rw [hx] at d0
        rw [hy] at d1
        obtain ⟨⟨la, c⟩, hT⟩ : ∃ T, turnsTo L k = T := ⟨_, rfl⟩
        rw [hT] at t0 HT ⊢
        simp only at t0 ⊢
        obtain ⟨t1, t2, t3⟩ := t0
        clear hc hx hy hT
        have s1 : IntKind.i64.wrap ((k : Int) + 1 - 1) = (k : Int) := by rw [IntWalk.i64_in _ (by omega)]; omega
        have s2 : IntKind.i64.wrap (c + 1) = c + 1 := IntWalk.i64_in _ (by omega)
        have s5 : ((k : Int) + 1).toNat = k + 1 := by omega
        rcases (show y < x ∨ y = x ∨ x < y by omega) with q | q | q
        · have g1 : decide (x < y) = false := decide_eq_false (by omega)
          have g2 : decide (y < x) = true := decide_eq_true q
          rcases t3 with rfl | rfl | rfl
          · have HV : Hid (turnStep (0, c) x y = (-1, c)) := Lib.hid (by unfold turnStep; rw [if_neg (by omega), if_pos q]; simp)
            clear q
            go_wp2_with fail
            go_quiet (fail)
            go_wp2_with fail
            go_quiet (fail)
            go_wp2_with fail
            go_roundw
            case rel => exact ⟨k + 1, .inl (by omega), by go_num, by rw [HT.out, HV.out], by rw [HT.out, HV.out], by first | exact below_drewN hC _ | exact below_drewN (below_drewN hC _) _⟩
            case measure => simp [intOf]; omega
          · have HV : Hid (turnStep (1, c) x y = (-1, c + 1)) := Lib.hid (by unfold turnStep; rw [if_neg (by omega), if_pos q]; simp)
            clear q
            go_wp2_with fail
            go_quiet (fail)
            go_wp2_with fail
            go_quiet (fail)
            go_wp2_with fail
            go_roundw
            case rel => exact ⟨k + 1, .inl (by omega), by go_num, by rw [HT.out, HV.out], by rw [HT.out, HV.out], by first | exact below_drewN hC _ | exact below_drewN (below_drewN hC _) _⟩
            case measure => simp [intOf]; omega
          · have HV : Hid (turnStep (-1, c) x y = (-1, c)) := Lib.hid (by unfold turnStep; rw [if_neg (by omega), if_pos q]; simp)
            clear q
            go_wp2_with fail
            go_quiet (fail)
            go_wp2_with fail
            go_quiet (fail)
            go_wp2_with fail
            go_roundw
            case rel => exact ⟨k + 1, .inl (by omega), by go_num, by rw [HT.out, HV.out], by rw [HT.out, HV.out], by first | exact below_drewN hC _ | exact below_drewN (below_drewN hC _) _⟩
            case measure => simp [intOf]; omega
        · subst q
          rcases t3 with rfl | rfl | rfl
          · have HV : Hid (turnStep (0, c) y y = (0, c)) := Lib.hid (by unfold turnStep; rw [if_neg (by omega), if_neg (by omega)])
            go_wp2_with fail
            go_quiet (fail)
            go_wp2_with fail
            go_quiet (fail)
            go_wp2_with fail
            go_roundw
            case rel => exact ⟨k + 1, .inl (by omega), by go_num, by rw [HT.out, HV.out], by rw [HT.out, HV.out], by first | exact below_drewN hC _ | exact below_drewN (below_drewN hC _) _⟩
            case measure => simp [intOf]; omega
          · have HV : Hid (turnStep (1, c) y y = (1, c)) := Lib.hid (by unfold turnStep; rw [if_neg (by omega), if_neg (by omega)])
            go_wp2_with fail
            go_quiet (fail)
            go_wp2_with fail
            go_quiet (fail)
            go_wp2_with fail
            go_roundw
            case rel => exact ⟨k + 1, .inl (by omega), by go_num, by rw [HT.out, HV.out], by rw [HT.out, HV.out], by first | exact below_drewN hC _ | exact below_drewN (below_drewN hC _) _⟩
            case measure => simp [intOf]; omega
          · have HV : Hid (turnStep (-1, c) y y = (-1, c)) := Lib.hid (by unfold turnStep; rw [if_neg (by omega), if_neg (by omega)])
            go_wp2_with fail
            go_quiet (fail)
            go_wp2_with fail
            go_quiet (fail)
            go_wp2_with fail
            go_roundw
            case rel => exact ⟨k + 1, .inl (by omega), by go_num, by rw [HT.out, HV.out], by rw [HT.out, HV.out], by first | exact below_drewN hC _ | exact below_drewN (below_drewN hC _) _⟩
            case measure => simp [intOf]; omega
        · have g1 : decide (x < y) = true := decide_eq_true q
          rcases t3 with rfl | rfl | rfl
          · have HV : Hid (turnStep (0, c) x y = (1, c)) := Lib.hid (by unfold turnStep; rw [if_pos q]; simp)
            clear q
            go_wp2_with fail
            go_quiet (fail)
            go_wp2_with fail
            go_roundw
            case rel => exact ⟨k + 1, .inl (by omega), by go_num, by rw [HT.out, HV.out], by rw [HT.out, HV.out], by first | exact below_drewN hC _ | exact below_drewN (below_drewN hC _) _⟩
            case measure => simp [intOf]; omega
          · have HV : Hid (turnStep (1, c) x y = (1, c)) := Lib.hid (by unfold turnStep; rw [if_pos q]; simp)
            clear q
            go_wp2_with fail
            go_quiet (fail)
            go_wp2_with fail
            go_roundw
            case rel => exact ⟨k + 1, .inl (by omega), by go_num, by rw [HT.out, HV.out], by rw [HT.out, HV.out], by first | exact below_drewN hC _ | exact below_drewN (below_drewN hC _) _⟩
            case measure => simp [intOf]; omega
          · have HV : Hid (turnStep (-1, c) x y = (1, c + 1)) := Lib.hid (by unfold turnStep; rw [if_pos q]; simp)
            clear q
            go_wp2_with fail
            go_quiet (fail)
            go_wp2_with fail
            go_roundw
            case rel => exact ⟨k + 1, .inl (by omega), by go_num, by rw [HT.out, HV.out], by rw [HT.out, HV.out], by first | exact below_drewN hC _ | exact below_drewN (below_drewN hC _) _⟩
            case measure => simp [intOf]; omega
      · have hT : turnsTo L k = turnsTo L (L.length - 1) := by
          rcases hk with h | h
          · rw [show L.length - 1 = k by omega]
          · rw [show L.length - 1 = k by omega]
        rw [hT]
        clear hT
        go_wp2_with fail
        go_ret2
        exact ⟨rfl, hC⟩
  · rw [if_neg h0]
    have h1 : (g == 0) = false := by simpa using h0
    have h2 : (g != 0) = true := by simpa using h0
    clear hg h0
    go_enter Try.func10, Try.ntmps10
    go_wp2_with (go_at_call 26; (with_reducible refine HPl.out.mono ?_); rintro e w1 ⟨rfl, hb1⟩)
    go_ret2
    exact ⟨rfl, hb1⟩
end Go.Proofs.Ythldfijlcoobgaa
namespace Go.Proofs.Ythldfijlcoobgaa
open Go.RowKit Go.Shelf
def wearP (L : List HoldR) (M : List Int) : Int × Int := if ropeB L then (if placesE M = 0 then (wrap64 (((L.length : Int) - 2) * travelP M), 0) else (0, placesE M)) else (0, 1)
set_option maxHeartbeats 4000000 in
theorem wear_any (nm : ByteArray) (a : Option Addr) (L : List HoldR) (cap : Nat) (hd : Bool) (a2 : Option Addr) (M : List Int) (cap2 : Nat) (w : World) (hl : L.length ≤ 1000000) (hm : M.length ≤ 1000000) (h : Holds w.heap.size w a L) (h2 : Nums w.heap.size w a2 M) :
    Calls Try.prog 8 #[.agg #[.string nm, .slice a L.length cap, .bool hd], .slice a2 M.length cap2] w fun e w' => e = .returned (.tuple #[.int .i64 (wearP L M).1, .int .i64 (wearP L M).2]) ∧ Below w.heap.size w w' := by
  have hW0 := below_new w (.cells #[.string nm, .slice a L.length cap, .bool hd] 45)
  have HS := Lib.hid h
  have HN := Lib.hid h2
  clear h h2
  obtain ⟨P, hP⟩ : ∃ P, wearP L M = P := ⟨_, rfl⟩
  have HP := Lib.hid hP
  rw [hP]
  clear hP
  cases hb : ropeB L
  · have HB := Lib.hid hb
    obtain rfl : P = (0, 1) := by rw [← HP.out]; unfold wearP; rw [hb]; rfl
    clear hb HP
    go_enter Try.func8, Try.ntmps8
    go_wp2_with (go_at_call 23; (with_reducible refine (bends_any nm a L cap hd _ hl (HS.out.grow hW0)).mono ?_); rintro e w1 ⟨rfl, hb1⟩; rw [HB.out, if_neg Bool.false_ne_true, if_neg Bool.false_ne_true])
    go_ret2
    exact ⟨rfl, hW0.trans (hb1.mono hW0.size)⟩
  · have HB := Lib.hid hb
    by_cases hp : placesE M = 0
    · have HPl := Lib.hid hp
      obtain rfl : P = (wrap64 (((L.length : Int) - 2) * travelP M), 0) := by rw [← HP.out]; unfold wearP; rw [hb, if_pos rfl, if_pos hp]
      clear hb HP hp
      go_enter Try.func8, Try.ntmps8
      go_wp2_with (first
        | (go_at_call 23; (with_reducible refine (bends_any nm a L cap hd _ hl (HS.out.grow hW0)).mono ?_); rintro e w1 ⟨rfl, hb1⟩; rw [HB.out, if_pos rfl, if_pos rfl]; have hx := hW0.trans (hb1.mono hW0.size))
        | (go_at_call 24; (with_reducible refine (travel_any a2 M cap2 _ hm (HN.out.grow hx)).mono ?_); rintro e w2 ⟨rfl, hb2⟩; rw [HPl.out, if_pos rfl]))
      go_ret2
      exact ⟨rfl, hx.trans (hb2.mono hx.size)⟩
    · have HPl := Lib.hid hp
      obtain ⟨E, hE⟩ : ∃ E, placesE M = E := ⟨_, rfl⟩
      obtain rfl : P = (0, E) := by rw [← HP.out]; unfold wearP; rw [hb, if_pos rfl, if_neg hp, hE]
      have hne : (E != 0) = true := by rw [← hE]; simpa using hp
      have HE := Lib.hid hE
      clear hb HP hp hE
      go_enter Try.func8, Try.ntmps8
      go_wp2_with (first
        | (go_at_call 23; (with_reducible refine (bends_any nm a L cap hd _ hl (HS.out.grow hW0)).mono ?_); rintro e w1 ⟨rfl, hb1⟩; rw [HB.out, if_pos rfl, if_pos rfl]; have hx := hW0.trans (hb1.mono hW0.size))
        | (go_at_call 24; (with_reducible refine (travel_any a2 M cap2 _ hm (HN.out.grow hx)).mono ?_); rintro e w2 ⟨rfl, hb2⟩; rw [if_neg HPl.out, HE.out]))
      go_ret2
      exact ⟨rfl, hx.trans (hb2.mono hx.size)⟩
end Go.Proofs.Ythldfijlcoobgaa
namespace Go.Proofs.Ythldfijlcoobgaa
open Go.RowKit Go.Shelf
abbrev leftOK (x y : Int) : Prop := 0 ≤ x ∧ 0 ≤ y ∧ x ≤ 1152921504606846976 ∧ y ≤ 1152921504606846976
set_option maxHeartbeats 4000000 in
theorem left_any (x y : Int) (w : World) :
    Calls Try.prog 12 #[.int .i64 x, .int .i64 y] w fun e w' => e = .returned (.tuple #[.int .i64 (if leftOK x y then max 0 (y - x) else 0), .int .i64 (if leftOK x y then 0 else 2)]) ∧ Below w.heap.size w w' := by
  obtain ⟨A, hA⟩ : ∃ A, (if leftOK x y then max 0 (y - x) else 0) = A := ⟨_, rfl⟩
  obtain ⟨B, hB⟩ : ∃ B : Int, (if leftOK x y then 0 else 2) = B := ⟨_, rfl⟩
  rw [hA, hB]
  have HA := Lib.hid hA
  have HB := Lib.hid hB
  clear hA hB
  go_enter Try.func12, Try.ntmps12
  go_wp2_with fail
  all_goals go_ret2
  all_goals refine ⟨congrArg (fun p : Int × Int => Ending.returned (.tuple #[.int .i64 p.1, .int .i64 p.2])) (Prod.ext ?_ ?_ : ((_, _) : Int × Int) = (A, B)), Below.refl _ _⟩
  all_goals simp only
  all_goals (first | rw [← HA.out] | rw [← HB.out])
  all_goals unfold leftOK
  all_goals clear HA HB
  all_goals repeat' split at *
  all_goals omega
end Go.Proofs.Ythldfijlcoobgaa
namespace Go.Proofs.Ythldfijlcoobgaa

/-- How many spans cover a place. -/
def covB (x : Int) (s : Int × Int) : Bool := decide (s.1 ≤ x) && decide (x < s.2)
def cov (L : List (Int × Int)) (x : Int) : Int := ((L.filter (covB x)).length : Int)
/-- How many spans begin, and end, at a place. -/
def chg (L : List (Int × Int)) (x : Int) : Int := ((L.filter fun s => s.1 == x).length : Int) - ((L.filter fun s => s.2 == x).length : Int)
/-- Spans on a rope. -/
def SpansOK (len : Int) (L : List (Int × Int)) : Prop := ∀ s ∈ L, 0 ≤ s.1 ∧ s.1 < s.2 ∧ s.2 ≤ len
theorem cov_nil (x : Int) : cov [] x = 0 := rfl
theorem cov_snoc (L : List (Int × Int)) (s : Int × Int) (x : Int) : cov (L ++ [s]) x = cov L x + if covB x s then 1 else 0 := by
  unfold cov
  rw [List.filter_append]
  by_cases h : covB x s = true <;> simp [h]
theorem cov_cons (L : List (Int × Int)) (s : Int × Int) (x : Int) : cov (s :: L) x = cov L x + if covB x s then 1 else 0 := by
  unfold cov
  by_cases h : covB x s = true <;> simp [h]
theorem cov_nonneg (L : List (Int × Int)) (x : Int) : 0 ≤ cov L x := Int.natCast_nonneg _
theorem chg_snoc (L : List (Int × Int)) (s : Int × Int) (x : Int) : chg (L ++ [s]) x = chg L x + (if s.1 = x then 1 else 0) - (if s.2 = x then 1 else 0) := by
  unfold chg
  rw [List.filter_append, List.filter_append, List.length_append, List.length_append]
  by_cases h : s.1 = x <;> by_cases h' : s.2 = x <;> simp [h, h'] <;> omega

/-- The sorted list of all ends, and 0. -/
def insK (x : Int) : List Int → List Int
  | [] => [x]
  | y :: t => if x < y then x :: y :: t else if x = y then y :: t else y :: insK x t
theorem insK_mem (x z : Int) (K : List Int) : z ∈ insK x K ↔ z = x ∨ z ∈ K := by
  induction K with
  | nil => simp [insK]
  | cons y t ih =>
    unfold insK
    split
    · simp
    · split
      · rename_i h1 h2
        subst h2
        simp
      · simp only [List.mem_cons, ih]
        constructor
        · rintro (h | h | h)
          · exact .inr (.inl h)
          · exact .inl h
          · exact .inr (.inr h)
        · rintro (h | h | h)
          · exact .inr (.inl h)
          · exact .inl h
          · exact .inr (.inr h)
theorem insK_incr (x : Int) (K : List Int) (h : K.Pairwise (· < ·)) : (insK x K).Pairwise (· < ·) := by
  induction K with
  | nil => simp [insK]
  | cons y t ih =>
    unfold insK
    rw [List.pairwise_cons] at h
    split
    · rename_i h1
      rw [List.pairwise_cons]
      refine ⟨fun z hz => ?_, List.pairwise_cons.2 h⟩
      rcases List.mem_cons.1 hz with e | e
      · omega
      · have := h.1 z e; omega
    · split
      · exact List.pairwise_cons.2 h
      · rw [List.pairwise_cons]
        refine ⟨fun z hz => ?_, ih h.2⟩
        rcases (insK_mem x z t).1 hz with e | e
        · omega
        · exact h.1 z e
theorem insK_len (x : Int) (K : List Int) : (insK x K).length ≤ K.length + 1 := by
  induction K with
  | nil => simp [insK]
  | cons y t ih =>
    unfold insK
    split
    · simp
    · split
      · simp
      · simp only [List.length_cons]; omega
def keysF : List (Int × Int) → List Int
  | [] => [0]
  | s :: t => insK s.2 (insK s.1 (keysF t))
theorem keysF_mem (L : List (Int × Int)) (z : Int) : z ∈ keysF L ↔ z = 0 ∨ ∃ s ∈ L, s.1 = z ∨ s.2 = z := by
  induction L with
  | nil => simp [keysF]
  | cons s t ih =>
    simp only [keysF, insK_mem, ih, List.mem_cons]
    constructor
    · rintro (h | h | h | ⟨r, hr, h⟩)
      · exact .inr ⟨s, .inl rfl, .inr h.symm⟩
      · exact .inr ⟨s, .inl rfl, .inl h.symm⟩
      · exact .inl h
      · exact .inr ⟨r, .inr hr, h⟩
    · rintro (h | ⟨r, rfl | hr, h | h⟩)
      · exact .inr (.inr (.inl h))
      · exact .inr (.inl h.symm)
      · exact .inl h.symm
      · exact .inr (.inr (.inr ⟨r, hr, .inl h⟩))
      · exact .inr (.inr (.inr ⟨r, hr, .inr h⟩))
theorem keysF_incr (L : List (Int × Int)) : (keysF L).Pairwise (· < ·) := by
  induction L with
  | nil => simp [keysF]
  | cons s t ih => exact insK_incr _ _ (insK_incr _ _ ih)
theorem keysF_len (L : List (Int × Int)) : (keysF L).length ≤ 2 * L.length + 1 := by
  induction L with
  | nil => simp [keysF]
  | cons s t ih =>
    have a := insK_len s.2 (insK s.1 (keysF t))
    have b := insK_len s.1 (keysF t)
    simp only [keysF, List.length_cons]
    omega
/-- The places at which the cover may change, on the rope. -/
def keysP (len : Int) (L : List (Int × Int)) : List Int := (keysF L).filter fun x => decide (x < len)
theorem keysP_mem {len : Int} {L : List (Int × Int)} {z : Int} : z ∈ keysP len L ↔ (z = 0 ∨ ∃ s ∈ L, s.1 = z ∨ s.2 = z) ∧ z < len := by
  unfold keysP
  rw [List.mem_filter, keysF_mem]
  simp
theorem keysP_incr (len : Int) (L : List (Int × Int)) : (keysP len L).Pairwise (· < ·) := (keysF_incr L).filter _
theorem keysP_len (len : Int) (L : List (Int × Int)) : (keysP len L).length ≤ 2 * L.length + 1 := Nat.le_trans (List.length_filter_le _ _) (keysF_len L)

/-- Two strictly ascending lists with the same members are the same. -/
theorem incr_ext : ∀ {A B : List Int}, A.Pairwise (· < ·) → B.Pairwise (· < ·) → (∀ z, z ∈ A ↔ z ∈ B) → A = B
  | [], [], _, _, _ => rfl
  | [], b :: B, _, _, h => by have := (h b).2 (List.mem_cons_self ..); cases this
  | a :: A, [], _, _, h => by have := (h a).1 (List.mem_cons_self ..); cases this
  | a :: A, b :: B, hA, hB, h => by
    rw [List.pairwise_cons] at hA hB
    have e : a = b := by
      have h1 := (h a).1 (List.mem_cons_self ..)
      have h2 := (h b).2 (List.mem_cons_self ..)
      rcases List.mem_cons.1 h1 with e | e
      · exact e
      · rcases List.mem_cons.1 h2 with e' | e'
        · exact e'.symm
        · have := hB.1 a e; have := hA.1 b e'; omega
    subst e
    rw [incr_ext hA.2 hB.2]
    intro z
    constructor
    · intro hz
      rcases List.mem_cons.1 ((h z).1 (List.mem_cons_of_mem _ hz)) with e | e
      · have := hA.1 z hz; omega
      · exact e
    · intro hz
      rcases List.mem_cons.1 ((h z).2 (List.mem_cons_of_mem _ hz)) with e | e
      · have := hB.1 z hz; omega
      · exact e

/-- One more key: the spots so far. -/
def spotS (L : List (Int × Int)) (out : List (Int × Int)) (t : Int) : List (Int × Int) :=
  match out.getLast? with
  | none => [(t, cov L t)]
  | some p => if p.2 = cov L t then out else out ++ [(t, cov L t)]
def spotK (L : List (Int × Int)) (K : List Int) : List (Int × Int) := K.foldl (spotS L) []
theorem spotK_snoc (L : List (Int × Int)) (K : List Int) (t : Int) : spotK L (K ++ [t]) = spotS L (spotK L K) t := by simp [spotK]
def spotsP (len : Int) (L : List (Int × Int)) : List (Int × Int) := spotK L (keysP len L)
theorem spotS_len (L out : List (Int × Int)) (t : Int) : (spotS L out t).length ≤ out.length + 1 := by
  unfold spotS
  split
  · simp
  · split <;> simp
theorem spotK_len (L : List (Int × Int)) (K : List Int) : (spotK L K).length ≤ K.length := by
  unfold spotK
  suffices h : ∀ (K : List Int) (o : List (Int × Int)), (K.foldl (spotS L) o).length ≤ o.length + K.length by simpa using h K []
  intro K
  induction K with
  | nil => simp
  | cons t K ih =>
    intro o
    have a := ih (spotS L o t)
    have b := spotS_len L o t
    simp only [List.foldl_cons, List.length_cons]
    omega
end Go.Proofs.Ythldfijlcoobgaa
namespace Go.Proofs.Ythldfijlcoobgaa

/-- What holds of the spots of some ascending places. -/
def SpotInv (L : List (Int × Int)) (K : List Int) (S : List (Int × Int)) : Prop :=
  (∀ i, i < S.length → (og S i).2 = cov L (og S i).1 ∧ (og S i).1 ∈ K) ∧
  (∀ i j, i < j → j < S.length → (og S i).1 < (og S j).1) ∧
  (∀ i, i + 1 < S.length → (og S i).2 ≠ (og S (i + 1)).2) ∧
  (∀ t ∈ K, ∀ i, i < S.length → (og S i).1 ≤ t → (i + 1 < S.length → t < (og S (i + 1)).1) → cov L t = (og S i).2) ∧
  (∀ k0 K', K = k0 :: K' → 0 < S.length ∧ (og S 0).1 = k0)
theorem last_og {S : List (Int × Int)} {p : Int × Int} (h : S.getLast? = some p) : 0 < S.length ∧ p = og S (S.length - 1) := by
  have hn : S ≠ [] := by intro e; rw [e] at h; cases h
  have hl : 0 < S.length := List.length_pos_iff.2 hn
  refine ⟨hl, ?_⟩
  rw [List.getLast?_eq_getElem?] at h
  unfold og
  rw [h]
  rfl
theorem inv_snoc {L : List (Int × Int)} {K : List Int} {S : List (Int × Int)} {t : Int} (h : SpotInv L K S) (hS : K = [] → S = []) (ht : ∀ z ∈ K, z < t) : SpotInv L (K ++ [t]) (spotS L S t) := by
  obtain ⟨a, b, c, d, e⟩ := h
  unfold spotS
  split
  · rename_i hn
    have hS0 : S = [] := by simpa using hn
    have hK : K = [] := by
      cases K with
      | nil => rfl
      | cons k0 K' => have := (e k0 K' rfl).1; rw [hS0] at this; simp at this
    subst hS0 hK
    refine ⟨fun i hi => ?_, fun i j hij hj => ?_, fun i hi => ?_, fun z hz i hi h1 h2 => ?_, fun k0 K' hk => ?_⟩
    · obtain rfl : i = 0 := by simpa using hi
      exact ⟨rfl, by simp [og]⟩
    · simp at hj; omega
    · simp at hi
    · obtain rfl : i = 0 := by simpa using hi
      simp at hz
      subst hz
      rfl
    · simp at hk
      exact ⟨by simp, hk.1⟩
  · rename_i p hp
    obtain ⟨hl, hpe⟩ := last_og hp
    split
    · rename_i hc
      refine ⟨fun i hi => ⟨(a i hi).1, List.mem_append_left _ (a i hi).2⟩, b, c, fun z hz i hi h1 h2 => ?_, fun k0 K' hk => ?_⟩
      · rcases List.mem_append.1 hz with hz | hz
        · exact d z hz i hi h1 h2
        · obtain rfl : z = t := by simpa using hz
          have hi2 : i = S.length - 1 := by
            rcases Nat.lt_or_ge (i + 1) S.length with l | l
            · have := h2 l; have := ht _ (a (i + 1) l).2; omega
            · omega
          rw [hi2, ← hpe]
          exact hc.symm
      · cases K with
        | nil => rw [hS rfl] at hl; simp at hl
        | cons k1 K1 =>
          simp at hk
          obtain ⟨rfl, _⟩ := hk
          exact e k1 K1 rfl
    · rename_i hc
      have old : ∀ i, i < S.length → og (S ++ [(t, cov L t)]) i = og S i := fun i hi => og_old S _ i hi
      have new : og (S ++ [(t, cov L t)]) S.length = (t, cov L t) := og_new S _
      refine ⟨fun i hi => ?_, fun i j hij hj => ?_, fun i hi => ?_, fun z hz i hi h1 h2 => ?_, fun k0 K' hk => ?_⟩
      · rcases (show i < S.length ∨ i = S.length by simp at hi; omega) with l | l
        · rw [old i l]; exact ⟨(a i l).1, List.mem_append_left _ (a i l).2⟩
        · rw [l, new]; exact ⟨rfl, by simp⟩
      · rcases (show j < S.length ∨ j = S.length by simp at hj; omega) with l | l
        · rw [old i (by omega), old j l]; exact b i j hij l
        · rw [old i (by omega), l, new]; exact ht _ (a i (by omega)).2
      · rcases (show i + 1 < S.length ∨ i + 1 = S.length by simp at hi; omega) with l | l
        · rw [old i (by omega), old (i + 1) l]; exact c i l
        · rw [old i (by omega), l, new]
          have hi2 : i = S.length - 1 := by omega
          rw [hi2, ← hpe]
          exact hc
      · rcases (show i < S.length ∨ i = S.length by simp at hi; omega) with l | l
        · rw [old i l] at h1 ⊢
          rcases List.mem_append.1 hz with hz | hz
          · refine d z hz i l h1 fun hi1 => ?_
            have := h2 (by simp; omega)
            rwa [old (i + 1) hi1] at this
          · obtain rfl : z = t := by simpa using hz
            exfalso
            have h3 := h2 (by simp; omega)
            rcases (show i + 1 < S.length ∨ i + 1 = S.length by omega) with l2 | l2
            · rw [old (i + 1) l2] at h3
              have := ht _ (a (i + 1) l2).2
              omega
            · rw [l2, new] at h3
              simp at h3
        · rw [l, new] at h1 ⊢
          rcases List.mem_append.1 hz with hz | hz
          · have := ht z hz; simp at h1; omega
          · obtain rfl : z = t := by simpa using hz
            rfl
      · cases K with
        | nil => rw [hS rfl] at hl; simp at hl
        | cons k1 K1 =>
          simp at hk
          obtain ⟨rfl, _⟩ := hk
          obtain ⟨q1, q2⟩ := e k1 K1 rfl
          exact ⟨by simp, by rw [old 0 q1]; exact q2⟩
theorem inv_take (L : List (Int × Int)) (K : List Int) (hK : K.Pairwise (· < ·)) : ∀ k, k ≤ K.length → SpotInv L (K.take k) (spotK L (K.take k)) ∧ (K.take k = [] → spotK L (K.take k) = [])
  | 0, _ => by
    refine ⟨⟨fun i hi => ?_, fun i j _ hj => ?_, fun i hi => ?_, fun z hz => ?_, fun k0 K' h => ?_⟩, fun _ => rfl⟩
    · simp [spotK] at hi
    · simp [spotK] at hj
    · simp [spotK] at hi
    · simp at hz
    · simp at h
  | k + 1, hk => by
    have ih := inv_take L K hK k (by omega)
    have e : K.take (k + 1) = K.take k ++ [K[k]] := List.take_succ_eq_append_getElem (by omega)
    rw [e, spotK_snoc]
    refine ⟨inv_snoc ih.1 ih.2 fun z hz => ?_, fun h => absurd h (List.append_ne_nil_of_right_ne_nil _ (List.cons_ne_nil _ _))⟩
    obtain ⟨j, hj, rfl⟩ := List.mem_iff_getElem.1 hz
    rw [List.getElem_take]
    have hj' : j < k := by rw [List.length_take] at hj; omega
    exact List.pairwise_iff_getElem.1 hK j k (by omega) (by omega) hj'
theorem spots_inv (len : Int) (L : List (Int × Int)) : SpotInv L (keysP len L) (spotsP len L) := by
  have h := (inv_take L (keysP len L) (keysP_incr len L) (keysP len L).length (Nat.le_refl _)).1
  rwa [List.take_length] at h

theorem covB_const {s : Int × Int} {k x : Int} (hk : k ≤ x) (h1 : ¬ (k < s.1 ∧ s.1 ≤ x)) (h2 : ¬ (k < s.2 ∧ s.2 ≤ x)) : covB x s = covB k s := by
  unfold covB
  rw [Bool.eq_iff_iff]
  simp
  omega
theorem cov_const {L : List (Int × Int)} {k x : Int} (hk : k ≤ x) (h : ∀ s ∈ L, ¬ (k < s.1 ∧ s.1 ≤ x) ∧ ¬ (k < s.2 ∧ s.2 ≤ x)) : cov L x = cov L k := by
  unfold cov
  rw [List.filter_congr fun s hs => covB_const hk (h s hs).1 (h s hs).2]
theorem max_le {x : Int} : ∀ (K : List Int), (∃ z ∈ K, z ≤ x) → ∃ k ∈ K, k ≤ x ∧ ∀ z ∈ K, z ≤ x → z ≤ k
  | [], h => by obtain ⟨z, hz, _⟩ := h; cases hz
  | y :: K, h => by
    by_cases c : ∃ z ∈ K, z ≤ x
    · obtain ⟨k, hk, kx, hm⟩ := max_le K c
      by_cases hy : y ≤ x ∧ k < y
      · refine ⟨y, List.mem_cons_self .., hy.1, fun z hz zx => ?_⟩
        rcases List.mem_cons.1 hz with e | e
        · omega
        · have := hm z e zx; omega
      · refine ⟨k, List.mem_cons_of_mem _ hk, kx, fun z hz zx => ?_⟩
        rcases List.mem_cons.1 hz with e | e
        · omega
        · exact hm z e zx
    · obtain ⟨z, hz, zx⟩ := h
      have hy : y ≤ x := by
        rcases List.mem_cons.1 hz with e | e
        · omega
        · exact absurd ⟨z, e, zx⟩ c
      refine ⟨y, List.mem_cons_self .., hy, fun z' hz' zx' => ?_⟩
      rcases List.mem_cons.1 hz' with e | e
      · omega
      · exact absurd ⟨z', e, zx'⟩ c
/-- Where the i-th spot ends. -/
def spotEnd (len : Int) (S : List (Int × Int)) (i : Nat) : Int := if i + 1 < S.length then (og S (i + 1)).1 else len
/-- EACH PLACE is covered as often as its spot says. -/
theorem spot_at {len : Int} {L : List (Int × Int)} {i : Nat} {x : Int} (hi : i < (spotsP len L).length) (h1 : (og (spotsP len L) i).1 ≤ x) (h2 : x < spotEnd len (spotsP len L) i) (hx : x < len) : cov L x = (og (spotsP len L) i).2 := by
  obtain ⟨a, b, c, d, e⟩ := spots_inv len L
  obtain ⟨k, hk, kx, hm⟩ := max_le (x := x) (keysP len L) ⟨_, (a i hi).2, h1⟩
  have hki : (og (spotsP len L) i).1 ≤ k := hm _ (a i hi).2 h1
  rw [← d k hk i hi hki fun hi1 => by unfold spotEnd at h2; rw [if_pos hi1] at h2; omega]
  refine cov_const kx fun s hs => ⟨fun ⟨p, q⟩ => ?_, fun ⟨p, q⟩ => ?_⟩
  · have := hm s.1 (keysP_mem.2 ⟨.inr ⟨s, hs, .inl rfl⟩, by omega⟩) q
    omega
  · have := hm s.2 (keysP_mem.2 ⟨.inr ⟨s, hs, .inr rfl⟩, by omega⟩) q
    omega
theorem keys_head {len : Int} {L : List (Int × Int)} (hl : 0 < len) (ok : ∀ s ∈ L, 0 ≤ s.1 ∧ 0 ≤ s.2) : ∃ K', keysP len L = 0 :: K' := by
  have h0 : (0 : Int) ∈ keysP len L := keysP_mem.2 ⟨.inl rfl, hl⟩
  have hi := keysP_incr len L
  cases hK : keysP len L with
  | nil => rw [hK] at h0; cases h0
  | cons k0 K' =>
    rw [hK] at h0 hi
    have hk0 : k0 ∈ keysP len L := by rw [hK]; exact List.mem_cons_self ..
    have hk : 0 ≤ k0 := by
      rcases (keysP_mem.1 hk0).1 with e | ⟨s, hs, e | e⟩
      · omega
      · have := (ok s hs).1; omega
      · have := (ok s hs).2; omega
    rw [List.pairwise_cons] at hi
    rcases List.mem_cons.1 h0 with e | e
    · exact ⟨K', by rw [e]⟩
    · have := hi.1 0 e; omega
theorem spot_bd {len : Int} {L : List (Int × Int)} {i : Nat} (ok : ∀ s ∈ L, 0 ≤ s.1 ∧ 0 ≤ s.2) (hi : i < (spotsP len L).length) : 0 ≤ (og (spotsP len L) i).1 ∧ (og (spotsP len L) i).1 < len ∧ 0 ≤ (og (spotsP len L) i).2 := by
  obtain ⟨a, _⟩ := spots_inv len L
  obtain ⟨h1, h2⟩ := a i hi
  have h3 := keysP_mem.1 h2
  refine ⟨?_, h3.2, by rw [h1]; exact cov_nonneg _ _⟩
  rcases h3.1 with e | ⟨s, hs, e | e⟩
  · omega
  · have := (ok s hs).1; omega
  · have := (ok s hs).2; omega
theorem spotEnd_gt {len : Int} {L : List (Int × Int)} {i : Nat} (ok : ∀ s ∈ L, 0 ≤ s.1 ∧ 0 ≤ s.2) (hi : i < (spotsP len L).length) : (og (spotsP len L) i).1 < spotEnd len (spotsP len L) i ∧ spotEnd len (spotsP len L) i ≤ len := by
  unfold spotEnd
  split
  · rename_i h
    exact ⟨(spots_inv len L).2.1 i (i + 1) (by omega) h, by have := (spot_bd ok h).2.1; omega⟩
  · have := (spot_bd ok hi).2.1; omega

/-- The lengths that are covered, up to a place. -/
def areaTo (L : List (Int × Int)) : Nat → Int
  | 0 => 0
  | n + 1 => areaTo L n + cov L n
theorem area_cons (s : Int × Int) (L : List (Int × Int)) (n : Nat) : areaTo (s :: L) n = areaTo L n + areaTo [s] n := by
  induction n with
  | zero => rfl
  | succ n ih =>
    simp only [areaTo, ih]
    rw [cov_cons L s, cov_cons [] s]
    simp only [cov_nil]
    omega
theorem area_one (s : Int × Int) (h0 : 0 ≤ s.1) (h1 : s.1 < s.2) (n : Nat) : areaTo [s] n = (if s.2 ≤ n then s.2 else n) - (if s.1 ≤ n then s.1 else n) := by
  induction n with
  | zero =>
    simp only [areaTo]
    split <;> split <;> omega
  | succ n ih =>
    simp only [areaTo, ih, cov_cons [] s, cov_nil, covB]
    by_cases a : s.1 ≤ (n : Int) <;> by_cases b : (n : Int) < s.2 <;> simp [a, b] <;> (repeat' split) <;> omega
def lensSum (L : List (Int × Int)) : Int := (L.map fun s => s.2 - s.1).sum
theorem area_all (L : List (Int × Int)) (n : Nat) (ok : SpansOK n L) : areaTo L n = lensSum L := by
  induction L with
  | nil =>
    induction n with
    | zero => rfl
    | succ n ih => simp only [areaTo]; rw [ih (fun s hs => by cases hs)]; rfl
  | cons s L ih =>
    have h := ok s (List.mem_cons_self ..)
    rw [area_cons, ih fun r hr => ok r (List.mem_cons_of_mem _ hr), area_one s h.1 h.2.1]
    rw [if_pos h.2.2, if_pos (by omega)]
    simp only [lensSum, List.map_cons, List.sum_cons]
    omega
theorem area_step (L : List (Int × Int)) (a n : Nat) (c : Int) (h : ∀ x : Int, a ≤ x → x < a + n → cov L x = c) : areaTo L (a + n) = areaTo L a + n * c := by
  induction n with
  | zero => simp
  | succ n ih =>
    have e : areaTo L (a + (n + 1)) = areaTo L (a + n) + cov L ((a + n : Nat) : Int) := rfl
    rw [e, ih fun x h1 h2 => h x h1 (by omega), h ((a + n : Nat) : Int) (by omega) (by omega)]
    have : ((n + 1 : Nat) : Int) * c = n * c + c := by rw [Int.natCast_succ, Int.add_mul, Int.one_mul]
    omega
/-- One spot further. -/
theorem area_spot {len : Int} {L : List (Int × Int)} {i : Nat} (ok : ∀ s ∈ L, 0 ≤ s.1 ∧ 0 ≤ s.2) (hi : i < (spotsP len L).length) :
    areaTo L (spotEnd len (spotsP len L) i).toNat = areaTo L (og (spotsP len L) i).1.toNat + (spotEnd len (spotsP len L) i - (og (spotsP len L) i).1) * (og (spotsP len L) i).2 := by
  obtain ⟨b1, b2, _⟩ := spot_bd ok hi
  obtain ⟨e1, e2⟩ := spotEnd_gt ok hi
  have h := area_step L (og (spotsP len L) i).1.toNat (spotEnd len (spotsP len L) i - (og (spotsP len L) i).1).toNat (og (spotsP len L) i).2 fun x h1 h2 => spot_at hi (by omega) (by omega) (by omega)
  rw [show (og (spotsP len L) i).1.toNat + (spotEnd len (spotsP len L) i - (og (spotsP len L) i).1).toNat = (spotEnd len (spotsP len L) i).toNat by omega] at h
  rw [h, Int.toNat_of_nonneg (by omega)]

/-- The worst of the first spots. -/
def worstTo (S : List (Int × Int)) : Nat → Nat
  | 0 => 0
  | k + 1 => if (og S (worstTo S k)).2 < (og S k).2 then k else worstTo S k
theorem worst_lt (S : List (Int × Int)) (k : Nat) : worstTo S k = 0 ∨ worstTo S k < k := by
  induction k with
  | zero => exact .inl rfl
  | succ k ih =>
    simp only [worstTo]
    split
    · exact .inr (by omega)
    · rcases ih with e | e
      · exact .inl e
      · exact .inr (by omega)
theorem worst_max (S : List (Int × Int)) (k : Nat) : ∀ j, j < k → (og S j).2 ≤ (og S (worstTo S k)).2 := by
  induction k with
  | zero => intro j h; omega
  | succ k ih =>
    intro j hj
    simp only [worstTo]
    rcases (show j < k ∨ j = k by omega) with l | l
    · have := ih j l
      split <;> omega
    · subst l
      split <;> omega
end Go.Proofs.Ythldfijlcoobgaa
namespace Go.Proofs.Ythldfijlcoobgaa
def sortI (l : List Int) : List Int := l.mergeSort fun x y => decide (x ≤ y)
theorem sortI_sorted (l : List Int) : (sortI l).Pairwise (· ≤ ·) := by
  have h := List.pairwise_mergeSort (le := fun x y : Int => decide (x ≤ y)) (fun a b c h1 h2 => by simp at *; omega) (fun a b => by simp; omega) l
  exact h.imp fun h => by simpa using h
theorem sortI_len (l : List Int) : (sortI l).length = l.length := List.length_mergeSort _
theorem sortI_mem (l : List Int) (x : Int) : x ∈ sortI l ↔ x ∈ l := List.mem_mergeSort
theorem sortI_incr {l : List Int} (h : l.Nodup) : (sortI l).Pairwise (· < ·) := by
  have h1 := sortI_sorted l
  have h2 : (sortI l).Nodup := (List.mergeSort_perm l _).nodup_iff.2 h
  exact (h1.and h2).imp fun ⟨a, b⟩ => by omega
end Go.Proofs.Ythldfijlcoobgaa
namespace Go.Proofs.Ythldfijlcoobgaa
open Go.RowKit Go.Shelf Go.Sort Go.Lib

theorem nflat_map (L : List Int) : nflat L = L.map (Value.int .i64) := by
  induction L with
  | nil => rfl
  | cons x r ih => rw [List.map_cons, ← ih]; rfl
theorem row_block {w : World} {base g n cap : Nat} {e : TypeId} {xs : List Value} (h : w.ownsRow base e 1 (.slice (some ⟨g, 0, none⟩) n cap) n xs) :
    ∃ cur, base ≤ g ∧ w.heap[g]? = some (.cells cur e (0, 0)) ∧ n ≤ cap ∧ cap ≤ maxLen ∧ cur.size = cap * 1 ∧ cur.toList.take (n * 1) = xs := by
  rcases h.2 with ⟨e0, _⟩ | ⟨g', cap', cur, e0, hb, hg, h1, h2, h3, h4⟩
  · cases e0
  · cases e0; exact ⟨cur, hb, hg, h1, h2, h3, h4⟩
theorem sort_own {w : World} {base g cap : Nat} {L : List Int} (h : w.ownsRow base 3 1 (.slice (some ⟨g, 0, none⟩) L.length cap) L.length (nflat L)) (hl : L.length ≤ 1000000) :
    Calls Try.prog 29 #[.slice (some ⟨g, 0, none⟩) L.length cap] w fun e w' => e = .returned (.tuple #[]) ∧ w'.ownsRow base 3 1 (.slice (some ⟨g, 0, none⟩) L.length cap) L.length (nflat (sortI L)) ∧ w.grownBy w' (some g) := by
  obtain ⟨cur, hb, hg, h1, h2, h3, h4⟩ := row_block h
  rw [Nat.mul_one, nflat_map] at h4
  refine (Try.slices_Sort_int g 0 cap L w (holds_of_blockI hg h4) (Array.getElem?_eq_some_iff.1 hg).1 (by omega)).mono fun e w' ⟨he, n, os, hw⟩ => ⟨he, ?_, ?_⟩
  · rw [hw, nflat_map]
    exact ownsRow_sortedI (sortI_len L) hb hg h1 h2 h3
  · rw [hw]; exact grownBy_sortedI _
end Go.Proofs.Ythldfijlcoobgaa
namespace Go.Proofs.Ythldfijlcoobgaa

theorem chg_cons (L : List (Int × Int)) (s : Int × Int) (x : Int) : chg (s :: L) x = chg L x + (if s.1 = x then 1 else 0) - (if s.2 = x then 1 else 0) := by
  unfold chg
  by_cases h : s.1 = x <;> by_cases h' : s.2 = x <;> simp [h, h'] <;> omega
theorem chg_bd (L : List (Int × Int)) (x : Int) : -(L.length : Int) ≤ chg L x ∧ chg L x ≤ L.length := by
  unfold chg
  have a := List.length_filter_le (fun s : Int × Int => s.1 == x) L
  have b := List.length_filter_le (fun s : Int × Int => s.2 == x) L
  omega
/-- The sum of the changes at the first places. -/
def nTo (L : List (Int × Int)) (K : List Int) : Nat → Int
  | 0 => 0
  | k + 1 => nTo L K k + chg L (ig K k)
def hits (e : Int) (K : List Int) : Nat → Int
  | 0 => 0
  | k + 1 => hits e K k + if e = ig K k then 1 else 0
theorem nTo_nil (K : List Int) (k : Nat) : nTo [] K k = 0 := by
  induction k with
  | zero => rfl
  | succ k ih => simp only [nTo, ih]; rfl
theorem nTo_cons (L : List (Int × Int)) (s : Int × Int) (K : List Int) (k : Nat) : nTo (s :: L) K k = nTo L K k + hits s.1 K k - hits s.2 K k := by
  induction k with
  | zero => rfl
  | succ k ih => simp only [nTo, hits, ih, chg_cons]; omega
theorem ig_lt {K : List Int} (h : K.Pairwise (· < ·)) {i j : Nat} (hij : i < j) (hj : j < K.length) : ig K i < ig K j := by
  rw [ig_eq K i (by omega), ig_eq K j hj]
  exact List.pairwise_iff_getElem.1 h i j (by omega) hj hij
theorem hits_none {e : Int} {K : List Int} (k : Nat) (h : ∀ j, j < k → ig K j ≠ e) : hits e K k = 0 := by
  induction k with
  | zero => rfl
  | succ k ih => simp only [hits]; rw [ih fun j hj => h j (by omega), if_neg fun x => h k (by omega) x.symm]; rfl
theorem hits_one {e : Int} {K : List Int} (hK : K.Pairwise (· < ·)) (i : Nat) (hi : i < K.length) (he : ig K i = e) (k : Nat) (hk : k ≤ K.length) : hits e K k = if i < k then 1 else 0 := by
  induction k with
  | zero => rfl
  | succ k ih =>
    simp only [hits]
    rw [ih (by omega)]
    rcases Nat.lt_trichotomy i k with l | l | l
    · have := ig_lt hK l (by omega)
      rw [if_pos l, if_neg (by omega), if_pos (by omega)]
      rfl
    · subst l
      rw [if_neg (by omega), if_pos he.symm, if_pos (by omega)]
      rfl
    · have := ig_lt hK l hi
      rw [if_neg (by omega), if_neg (by omega), if_neg (by omega)]
      rfl
theorem hits_le {e : Int} {K : List Int} (hK : K.Pairwise (· < ·)) (he : e ∈ K) (k : Nat) (hk : k < K.length) : hits e K (k + 1) = if e ≤ ig K k then 1 else 0 := by
  obtain ⟨i, hi, h⟩ := List.mem_iff_getElem.1 he
  have hig : ig K i = e := by rw [ig_eq K i hi]; exact h
  rw [hits_one hK i hi hig (k + 1) (by omega)]
  rcases Nat.lt_trichotomy i k with l | l | l
  · have := ig_lt hK l hk
    rw [if_pos (by omega), if_pos (by omega)]
  · subst l
    rw [if_pos (by omega), if_pos (by omega)]
  · have := ig_lt hK l hi
    rw [if_neg (by omega), if_neg (by omega)]
theorem nTo_cov (K : List Int) (hK : K.Pairwise (· < ·)) (k : Nat) (hk : k < K.length) : ∀ (L : List (Int × Int)), (∀ s ∈ L, s.1 < s.2 ∧ s.1 ∈ K ∧ s.2 ∈ K) → nTo L K (k + 1) = cov L (ig K k)
  | [], _ => nTo_nil K (k + 1)
  | s :: L, h => by
    obtain ⟨h1, h2, h3⟩ := h s (List.mem_cons_self ..)
    rw [nTo_cons, cov_cons, nTo_cov K hK k hk L fun r hr => h r (List.mem_cons_of_mem _ hr), hits_le hK h2 k hk, hits_le hK h3 k hk]
    unfold covB
    by_cases a : s.1 ≤ ig K k <;> by_cases b : s.2 ≤ ig K k
    · rw [if_pos a, if_pos b, if_neg (by simp; omega)]; omega
    · rw [if_pos a, if_neg b, if_pos (by simp; omega)]; omega
    · omega
    · rw [if_neg a, if_neg b, if_neg (by simp; omega)]; omega
theorem nTo_keys {len : Int} {L : List (Int × Int)} (ok : SpansOK len L) (k : Nat) (hk : k < (keysF L).length) : nTo L (keysF L) (k + 1) = cov L (ig (keysF L) k) :=
  nTo_cov (keysF L) (keysF_incr L) k hk L fun s hs => ⟨(ok s hs).2.1, (keysF_mem L _).2 (.inr ⟨s, hs, .inl rfl⟩), (keysF_mem L _).2 (.inr ⟨s, hs, .inr rfl⟩)⟩
theorem nTo_bd (L : List (Int × Int)) (K : List Int) (k : Nat) : -((k * L.length : Nat) : Int) ≤ nTo L K k ∧ nTo L K k ≤ (k * L.length : Nat) := by
  induction k with
  | zero => simp [nTo]
  | succ k ih =>
    have := chg_bd L (ig K k)
    simp only [nTo]
    rw [Nat.succ_mul]
    omega
/-- The keys below the length are the first ones. -/
theorem keys_take {len : Int} {L : List (Int × Int)} (k : Nat) (h : ∀ j, j < k → ig (keysF L) j < len) (hk : k ≤ (keysF L).length) (h2 : k = (keysF L).length ∨ ig (keysF L) k = len) : keysP len L = (keysF L).take k := by
  refine incr_ext (keysP_incr len L) ((keysF_incr L).take) fun z => ?_
  rw [keysP, List.mem_filter]
  have hlt := @ig_lt _ (keysF_incr L)
  constructor
  · rintro ⟨hz, hl⟩
    obtain ⟨i, hi, e⟩ := List.mem_iff_getElem.1 hz
    have hig : ig (keysF L) i = z := by rw [ig_eq _ i hi]; exact e
    have hik : i < k := by
      rcases Nat.lt_or_ge i k with l | l
      · exact l
      · exfalso
        simp at hl
        rcases h2 with h2 | h2
        · omega
        · rcases Nat.lt_or_ge k i with q | q
          · have := hlt q hi; omega
          · have : i = k := by omega
            subst this
            omega
    exact List.mem_iff_getElem.2 ⟨i, by rw [List.length_take]; omega, by rw [List.getElem_take]; exact e⟩
  · intro hz
    obtain ⟨i, hi, e⟩ := List.mem_iff_getElem.1 hz
    rw [List.length_take] at hi
    rw [List.getElem_take] at e
    have hig : ig (keysF L) i = z := by rw [ig_eq _ i (by omega)]; exact e
    refine ⟨List.mem_iff_getElem.2 ⟨i, by omega, e⟩, ?_⟩
    have := h i (by omega)
    simp
    omega
end Go.Proofs.Ythldfijlcoobgaa
