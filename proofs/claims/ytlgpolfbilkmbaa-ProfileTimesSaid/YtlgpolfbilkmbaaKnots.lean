/-
  THE WALKS of profile.Curve (whole), Knots and Time.
-/
import Derived.Test.YtlgpolfbilkmbaaCurve3
import Derived.Test.YtlgpolfbilkmbaaApp
namespace Go.Proofs.Ytlgpolfbilkmbaa
open Go.RowKit Go.Shelf

/-- What Curve hands over: an error and nothing, or the row of the curve. -/
def CurveV (w w' : World) (d : Int) (m : Mv) (t : Int) (v : Value) : Prop := (givenP d m = 0 → w'.ownsRow w.heap.size 70 8 v (curveL d m.rise m.fall t).length (pcflat (curveL d m.rise m.fall t))) ∧ (¬ givenP d m = 0 → v = .slice none 0 0)

set_option maxRecDepth 100000 in
set_option maxHeartbeats 8000000 in
theorem Curve_any (d : Int) (m : Mv) (t : Int) (ht : givenP d m = 0 → IsTop d m.spd m.rise m.fall t) (w : World) :
    Calls Try.prog 16 #[.int .i64 d, .agg #[.string m.name, .int .i64 m.to, .int .i64 m.spd, .int .i64 m.rise, .int .i64 m.fall]] w fun e w' => Hid (∃ v, e = .returned (.tuple #[v, .int .i64 (givenP d m)]) ∧ CurveV w w' d m t v) ∧ Below w.heap.size w w' := by
  by_cases hg : givenP d m = 0
  · by_cases hd : d = 0
    · have HG := Lib.hid hg
      have HL : Hid (curveL d m.rise m.fall t = [⟨0, 1, 0, 1, 0, 1, 0, 1⟩]) := Lib.hid (by unfold curveL; rw [if_pos hd])
      have hd' : (d == 0) = true := by simpa using hd
      clear hg ht hd
      go_enter Try.func16, Try.ntmps16
      go_wp2_with (go_at_call 39; (with_reducible refine (given_any d m _).mono ?_); rintro e w1 ⟨rfl, hb1⟩; rw [HG.out]; have hB1 := (below_new w (.cells #[.string m.name, .int .i64 m.to, .int .i64 m.spd, .int .i64 m.rise, .int .i64 m.fall] 23)).trans (hb1.mono (by simp)))
      go_ret2
      refine ⟨Lib.hid ⟨_, congrArg (fun x => Ending.returned (.tuple #[_, .int .i64 x])) HG.out.symm, fun _ => ?_, fun h => absurd HG.out h⟩, ?_⟩
      · rw [HL.out]
        have h := World.ownsRow_lit (base := w.heap.size) (e := 70) (size := 8) (w1.alloc (.cells #[.int .i64 0, .int .i64 1] 39)) #[.int .i64 0, .int .i64 1, .int .i64 0, .int .i64 1, .int .i64 0, .int .i64 1, .int .i64 0, .int .i64 1] 1 (by have := hB1.size; simp <;> omega) (by unfold maxLen; omega) rfl
        rw [World.size_alloc] at h
        exact h
      · exact (hB1.alloc hB1.size _).alloc (by have := hB1.size; simp <;> omega) _
    · refine (curve_any d m t hg hd (ht hg) w).mono fun e w' h => ⟨Lib.hid ?_, h.2⟩
      obtain ⟨v, he, hr⟩ := h.1.out
      exact ⟨v, by rw [he, hg], fun _ => hr, fun h => absurd hg h⟩
  · obtain ⟨g, hgg⟩ : ∃ g, givenP d m = g := ⟨_, rfl⟩
    have HG := Lib.hid hgg
    have hg' : (g == 0) = false := by rw [← hgg]; simpa using hg
    have hg'' : (g != 0) = true := by rw [← hgg]; simpa using hg
    have HN := Lib.hid hg
    clear hgg ht hg
    go_enter Try.func16, Try.ntmps16
    go_wp2_with (go_at_call 39; (with_reducible refine (given_any d m _).mono ?_); rintro e w1 ⟨rfl, hb1⟩; rw [HG.out]; have hB1 := (below_new w (.cells #[.string m.name, .int .i64 m.to, .int .i64 m.spd, .int .i64 m.rise, .int .i64 m.fall] 23)).trans (hb1.mono (by simp)))
    go_ret2
    exact ⟨Lib.hid ⟨_, congrArg (fun x => Ending.returned (.tuple #[_, .int .i64 x])) HG.out.symm, fun h => absurd h HN.out, fun _ => rfl⟩, hB1⟩

def knTo (L : List Pc) : Nat → List (Int × Int)
  | 0 => []
  | k + 1 => knTo L k ++ [((pcg L k).f0, (pcg L k).f1)]
theorem knTo_len (L : List Pc) (k : Nat) : (knTo L k).length = k := by
  induction k with
  | zero => rfl
  | succ k ih => simp [knTo, ih]
def knotsL (d R F t : Int) : List (Int × Int) := knTo (curveL d R F t) (curveL d R F t).length
theorem curveL_len (d R F t : Int) : 1 ≤ (curveL d R F t).length ∧ (curveL d R F t).length ≤ 4 := by
  unfold curveL
  split
  · simp
  · split <;> simp
def KnotsV (w w' : World) (d : Int) (m : Mv) (t : Int) (v : Value) : Prop := (givenP d m = 0 → w'.ownsRow w.heap.size 39 2 v (knotsL d m.rise m.fall t).length (frflat (knotsL d m.rise m.fall t))) ∧ (¬ givenP d m = 0 → v = .slice none 0 0)

set_option maxRecDepth 100000 in
set_option maxHeartbeats 8000000 in
theorem Knots_any (d : Int) (m : Mv) (t : Int) (ht : givenP d m = 0 → IsTop d m.spd m.rise m.fall t) (w : World) :
    Calls Try.prog 22 #[.int .i64 d, .agg #[.string m.name, .int .i64 m.to, .int .i64 m.spd, .int .i64 m.rise, .int .i64 m.fall]] w fun e w' => Hid (∃ v, e = .returned (.tuple #[v, .int .i64 (givenP d m)]) ∧ KnotsV w w' d m t v) ∧ Below w.heap.size w w' := by
  have HC := Lib.hid (Curve_any d m t ht)
  obtain ⟨g, hgg⟩ : ∃ g, givenP d m = g := ⟨_, rfl⟩
  have HGG := Lib.hid hgg
  by_cases hg : g = 0
  · have HG0 : Hid (givenP d m = 0) := Lib.hid (hgg.trans hg)
    subst hg
    obtain ⟨L, hL⟩ : ∃ L, curveL d m.rise m.fall t = L := ⟨_, rfl⟩
    have hl := curveL_len d m.rise m.fall t
    rw [hL] at hl
    have HL := Lib.hid hL
    clear hgg ht hL
    go_enter Try.func22, Try.ntmps22
    go_wp2_with (go_at_call 16; (with_reducible refine (HC.out _).mono ?_); rintro e w1 ⟨hv, hb1⟩; obtain ⟨v, rfl, hrow⟩ := hv.out; rw [HG0.out]; have hr1 := hrow.1 HG0.out; rw [HL.out] at hr1; obtain ⟨pa, pcap, rfl, hpc1, hpc2, _, hP⟩ := pc_of_row hr1; have HP := Lib.hid hP; have hB1 := (below_new w (.cells #[.string m.name, .int .i64 m.to, .int .i64 m.spd, .int .i64 m.rise, .int .i64 m.fall] 23)).trans (hb1.mono (by simp)); clear hrow hr1 hP hv)
    go_loopw [8, 22] (fun v i wr => ∃ k : Nat, k ≤ L.length ∧ i = .int .i64 k ∧ Below w1.heap.size w1 wr ∧ Hid (wr.ownsRow w1.heap.size 39 2 v (knTo L k).length (frflat (knTo L k)))) (fun _ i _ => L.length - (intOf i).toNat)
    case atStart => exact ⟨0, Nat.zero_le _, rfl, Below.refl _ _, Lib.hid (World.ownsRow_nil _ _ _ _)⟩
    case round =>
      obtain ⟨k, hk, rfl, hC, HR⟩ := hrel
      have hcs := hC.size
      by_cases hlt : k < L.length
      · obtain ⟨b, off, rfl, hb, hc⟩ := HP.out (by omega)
        obtain ⟨c0, c1, c2, c3, c4, c5, c6, c7⟩ := hc k hlt
        have d0 := (hC.cell (p := ⟨b, off + k * 8, none⟩) hb).trans c0
        have d1 := (hC.cell (p := ⟨b, off + k * 8 + 1, none⟩) hb).trans c1
        have d2 := (hC.cell (p := ⟨b, off + k * 8 + 2, none⟩) hb).trans c2
        have d3 := (hC.cell (p := ⟨b, off + k * 8 + 3, none⟩) hb).trans c3
        have d4 := (hC.cell (p := ⟨b, off + k * 8 + 4, none⟩) hb).trans c4
        have d5 := (hC.cell (p := ⟨b, off + k * 8 + 5, none⟩) hb).trans c5
        have d6 := (hC.cell (p := ⟨b, off + k * 8 + 6, none⟩) hb).trans c6
        have d7 := (hC.cell (p := ⟨b, off + k * 8 + 7, none⟩) hb).trans c7
        have hkl : (knTo L k).length ≤ 1000000 := by rw [knTo_len]; omega
        clear hc c0 c1 c2 c3 c4 c5 c6 c7
        go_wp2_with (at_builtin; refine fr_append rfl _ _ rfl w1.heap.size _ (knTo L k) rfl ((HR.out.alloc (.cells #[.int .i64 (pcg L k).f0, .int .i64 (pcg L k).f1, .int .i64 (pcg L k).a0, .int .i64 (pcg L k).a1, .int .i64 (pcg L k).b0, .int .i64 (pcg L k).b1, .int .i64 (pcg L k).c0, .int .i64 (pcg L k).c1] 70)).alloc (.cells #[.int .i64 (pcg L k).f0, .int .i64 (pcg L k).f1] 39)) _ ((pcg L k).f0, (pcg L k).f1) rfl (by simp) hkl (by first | omega | (simp; omega)) ?_; intro v5 w5 hown5 hg5; have hBn : Below w1.heap.size w1 w5 := grown_own ((HR.out.alloc (.cells #[.int .i64 (pcg L k).f0, .int .i64 (pcg L k).f1, .int .i64 (pcg L k).a0, .int .i64 (pcg L k).a1, .int .i64 (pcg L k).b0, .int .i64 (pcg L k).b1, .int .i64 (pcg L k).c0, .int .i64 (pcg L k).c1] 70)).alloc (.cells #[.int .i64 (pcg L k).f0, .int .i64 (pcg L k).f1] 39)) hg5 ((hC.alloc hcs (.cells #[.int .i64 (pcg L k).f0, .int .i64 (pcg L k).f1, .int .i64 (pcg L k).a0, .int .i64 (pcg L k).a1, .int .i64 (pcg L k).b0, .int .i64 (pcg L k).b1, .int .i64 (pcg L k).c0, .int .i64 (pcg L k).c1] 70)).alloc (by first | omega | (simp; omega)) (.cells #[.int .i64 (pcg L k).f0, .int .i64 (pcg L k).f1] 39)) (by first | omega | (simp; omega)) (Nat.le_refl _))
        go_roundw
        case rel => exact ⟨k + 1, by omega, by go_num, hBn, Lib.hid hown5⟩
        case measure => simp [intOf]; omega
      · obtain rfl : k = L.length := by omega
        go_wp2_with fail
        go_ret2
        refine ⟨Lib.hid ⟨_, congrArg (fun x => Ending.returned (.tuple #[_, .int .i64 x])) HG0.out.symm, fun _ => ?_, fun h => absurd HG0.out h⟩, hB1.trans (hC.mono hB1.size)⟩
        have hr := HR.out
        unfold knotsL
        rw [HL.out]
        exact own_base hr hB1.size
  · have HN : Hid (¬ givenP d m = 0) := Lib.hid (by rw [hgg]; exact hg)
    have hg' : (g == 0) = false := by simpa using hg
    have hg'' : (g != 0) = true := by simpa using hg
    clear hgg ht hg
    go_enter Try.func22, Try.ntmps22
    go_wp2_with (go_at_call 16; (with_reducible refine (HC.out _).mono ?_); rintro e w1 ⟨hv, hb1⟩; obtain ⟨v, rfl, hrow⟩ := hv.out; rw [HGG.out]; have hB1 := (below_new w (.cells #[.string m.name, .int .i64 m.to, .int .i64 m.spd, .int .i64 m.rise, .int .i64 m.fall] 23)).trans (hb1.mono (by simp)))
    go_ret2
    exact ⟨Lib.hid ⟨_, congrArg (fun x => Ending.returned (.tuple #[_, .int .i64 x])) HGG.out.symm, fun h => absurd h HN.out, fun _ => rfl⟩, hB1⟩

theorem knTo_at (L : List Pc) (n k : Nat) (h : k < n) : frg (knTo L n) k = ((pcg L k).f0, (pcg L k).f1) := by
  induction n with
  | zero => omega
  | succ n ih =>
    unfold knTo
    rcases Nat.lt_or_ge k n with l | l
    · rw [frg_old _ _ _ (by rw [knTo_len]; exact l)]; exact ih l
    · obtain rfl : k = n := by omega
      have := frg_new (knTo L k) ((pcg L k).f0, (pcg L k).f1)
      rwa [knTo_len] at this
/-- The time of a move: the last knot. -/
def timeP (d : Int) (m : Mv) (t : Int) : Int × Int := if givenP d m = 0 then frg (knotsL d m.rise m.fall t) ((knotsL d m.rise m.fall t).length - 1) else (0, 0)

set_option maxRecDepth 100000 in
set_option maxHeartbeats 8000000 in
theorem Time_any (d : Int) (m : Mv) (t : Int) (ht : givenP d m = 0 → IsTop d m.spd m.rise m.fall t) (w : World) :
    Calls Try.prog 20 #[.int .i64 d, .agg #[.string m.name, .int .i64 m.to, .int .i64 m.spd, .int .i64 m.rise, .int .i64 m.fall]] w fun e w' => e = .returned (.tuple #[.agg #[.int .i64 (timeP d m t).1, .int .i64 (timeP d m t).2], .int .i64 (givenP d m)]) ∧ Below w.heap.size w w' := by
  have HC := Lib.hid (Knots_any d m t ht)
  obtain ⟨g, hgg⟩ : ∃ g, givenP d m = g := ⟨_, rfl⟩
  have HGG := Lib.hid hgg
  obtain ⟨P, hP⟩ : ∃ P, timeP d m t = P := ⟨_, rfl⟩
  by_cases hg : g = 0
  · have HG0 : Hid (givenP d m = 0) := Lib.hid (hgg.trans hg)
    subst hg
    rw [HG0.out, hP]
    obtain ⟨L, hL⟩ : ∃ L, knotsL d m.rise m.fall t = L := ⟨_, rfl⟩
    have hl := curveL_len d m.rise m.fall t
    have hl2 : L.length = (curveL d m.rise m.fall t).length := by rw [← hL]; exact knTo_len _ _
    have HPP : Hid (frg L (L.length - 1) = P) := Lib.hid (by rw [← hP, ← hL]; unfold timeP; rw [if_pos HG0.out])
    rw [← hl2] at hl
    have HL := Lib.hid hL
    have s1 : IntKind.i64.wrap ((L.length : Int) - 1) = (L.length : Int) - 1 := IntWalk.i64_in _ (by omega)
    clear hgg ht hL hP hl2
    go_enter Try.func20, Try.ntmps20
    go_wp2_with (go_at_call 22; (with_reducible refine (HC.out _).mono ?_); rintro e w1 ⟨hv, hb1⟩; obtain ⟨v, rfl, hrow⟩ := hv.out; rw [HG0.out]; have hr1 := hrow.1 HG0.out; rw [HL.out] at hr1; obtain ⟨pa, pcap, rfl, hpc1, hpc2, _, hP⟩ := fr_of_row hr1; obtain ⟨b, off, rfl, hb, hc⟩ := hP (by omega); obtain ⟨c0, c1⟩ := hc (L.length - 1) (by omega); rw [HPP.out] at c0 c1; have hB1 := ((below_new w (.cells #[.string m.name, .int .i64 m.to, .int .i64 m.spd, .int .i64 m.rise, .int .i64 m.fall] 23)).alloc (by simp) (.cells #[.int .i64 0, .int .i64 0] 39)).trans (hb1.mono (by simp <;> omega)); clear hrow hr1 hc hv; have l4 : w1.cell? ⟨w.heap.size + 1, 0, none⟩ = some (.int .i64 0) := (hb1.cell (p := ⟨w.heap.size + 1, 0, none⟩) (by simp)).trans (by simp); have l5 : w1.cell? ⟨w.heap.size + 1, 1, none⟩ = some (.int .i64 0) := (hb1.cell (p := ⟨w.heap.size + 1, 1, none⟩) (by simp)).trans (by simp); have l6 : w1.frozen? ⟨w.heap.size + 1, 0, none⟩ = false := (hb1.frozen (p := ⟨w.heap.size + 1, 0, none⟩) (by simp)).trans (by simp); have l7 : w1.frozen? ⟨w.heap.size + 1, 1, none⟩ = false := (hb1.frozen (p := ⟨w.heap.size + 1, 1, none⟩) (by simp)).trans (by simp))
    have s2 := (two_cells (v0 := .int .i64 P.1) (v1 := .int .i64 P.2) l4 l5).1
    have s3 := (two_cells (v0 := .int .i64 P.1) (v1 := .int .i64 P.2) l4 l5).2
    refine bodyPost_ret (v := .tuple #[.agg #[.int .i64 P.1, .int .i64 P.2], .int .i64 0]) (by simp [results, Try.results20, go_sem, s2, s3]) rfl ⟨rfl, ?_⟩
    exact (hB1.setCell (p := ⟨w.heap.size + 1, 0, none⟩) (by simp) _).setCell (p := ⟨w.heap.size + 1, 1, none⟩) (by simp) _
  · have HN : Hid (¬ givenP d m = 0) := Lib.hid (by rw [hgg]; exact hg)
    have e : P = (0, 0) := by rw [← hP]; unfold timeP; rw [if_neg HN.out]
    rw [hgg, hP, e]
    have hg' : (g == 0) = false := by simpa using hg
    have hg'' : (g != 0) = true := by simpa using hg
    clear hgg ht hg hP e
    go_enter Try.func20, Try.ntmps20
    go_wp2_with (go_at_call 22; (with_reducible refine (HC.out _).mono ?_); rintro e w1 ⟨hv, hb1⟩; obtain ⟨v, rfl, hrow⟩ := hv.out; rw [HGG.out]; have hB1 := ((below_new w (.cells #[.string m.name, .int .i64 m.to, .int .i64 m.spd, .int .i64 m.rise, .int .i64 m.fall] 23)).alloc (by simp) (.cells #[.int .i64 0, .int .i64 0] 39)).trans (hb1.mono (by simp <;> omega)); have l4 : w1.cell? ⟨w.heap.size + 1, 0, none⟩ = some (.int .i64 0) := (hb1.cell (p := ⟨w.heap.size + 1, 0, none⟩) (by simp)).trans (by simp); have l5 : w1.cell? ⟨w.heap.size + 1, 1, none⟩ = some (.int .i64 0) := (hb1.cell (p := ⟨w.heap.size + 1, 1, none⟩) (by simp)).trans (by simp); have l6 : w1.frozen? ⟨w.heap.size + 1, 0, none⟩ = false := (hb1.frozen (p := ⟨w.heap.size + 1, 0, none⟩) (by simp)).trans (by simp); have l7 : w1.frozen? ⟨w.heap.size + 1, 1, none⟩ = false := (hb1.frozen (p := ⟨w.heap.size + 1, 1, none⟩) (by simp)).trans (by simp))
    have s2 := (two_cells (v0 := .int .i64 0) (v1 := .int .i64 0) l4 l5).1
    have s3 := (two_cells (v0 := .int .i64 0) (v1 := .int .i64 0) l4 l5).2
    refine bodyPost_ret (v := .tuple #[.agg #[.int .i64 0, .int .i64 0], .int .i64 g]) (by simp [results, Try.results20, go_sem, s2, s3]) rfl ⟨rfl, ?_⟩
    exact (hB1.setCell (p := ⟨w.heap.size + 1, 0, none⟩) (by simp) _).setCell (p := ⟨w.heap.size + 1, 1, none⟩) (by simp) _
end Go.Proofs.Ytlgpolfbilkmbaa
