/-
  THE WALKS of the laws' own helpers: example, awake (the chapter's example holds), ready.
-/
import Derived.Test.YtlgpolfbilkmbaaKnots
import Derived.Test.YtlgpolfbilkmbaaEq
namespace Go.Proofs.Ytlgpolfbilkmbaa
open Go.RowKit Go.Shelf

def exM : Mv := ⟨⟨#[115]⟩, 0, 200, 100, 100⟩
theorem ex_given : givenP 1000 exM = 0 := by decide +kernel
theorem ex_given2 : givenP 100 exM = 0 := by decide +kernel
theorem ex_top : IsTop 1000 exM.spd exM.rise exM.fall 200 := ⟨by decide, by decide, by unfold Room; decide, .inl rfl⟩
theorem ex_top2 : IsTop 100 exM.spd exM.rise exM.fall 100 := ⟨by decide, by decide, by unfold Room; decide, .inr (by unfold Room; decide)⟩
theorem ex_knots : knotsL 1000 exM.rise exM.fall 200 = [(0, 1), (2, 1), (5, 1), (7, 1)] := by decide +kernel

theorem top_ex1 (w : World) : Calls Try.prog 11 #[.int .i64 1000, .agg #[.string ⟨#[115]⟩, .int .i64 0, .int .i64 200, .int .i64 100, .int .i64 100]] w fun e w' => e = .returned (.tuple #[.int .i64 200, .int .i64 0]) ∧ Below w.heap.size w w' := by
  have h := Top_any 1000 exM 200 (fun _ => ex_top) w
  rw [show topR 1000 exM 200 = 200 by unfold topR; rw [if_pos ex_given], ex_given] at h
  exact h
theorem top_ex2 (w : World) : Calls Try.prog 11 #[.int .i64 100, .agg #[.string ⟨#[115]⟩, .int .i64 0, .int .i64 200, .int .i64 100, .int .i64 100]] w fun e w' => e = .returned (.tuple #[.int .i64 100, .int .i64 0]) ∧ Below w.heap.size w w' := by
  have h := Top_any 100 exM 100 (fun _ => ex_top2) w
  rw [show topR 100 exM 100 = 100 by unfold topR; rw [if_pos ex_given2], ex_given2] at h
  exact h
theorem time_ex (w : World) : Calls Try.prog 20 #[.int .i64 1000, .agg #[.string ⟨#[115]⟩, .int .i64 0, .int .i64 200, .int .i64 100, .int .i64 100]] w fun e w' => e = .returned (.tuple #[.agg #[.int .i64 7, .int .i64 1], .int .i64 0]) ∧ Below w.heap.size w w' := by
  have h := Time_any 1000 exM 200 (fun _ => ex_top) w
  rw [show timeP 1000 exM 200 = (7, 1) by unfold timeP; rw [if_pos ex_given, ex_knots]; rfl, ex_given] at h
  exact h
theorem knots_ex (w : World) : Calls Try.prog 22 #[.int .i64 1000, .agg #[.string ⟨#[115]⟩, .int .i64 0, .int .i64 200, .int .i64 100, .int .i64 100]] w fun e w' => Hid (∃ a c, e = .returned (.tuple #[.slice a 4 c, .int .i64 0]) ∧ Frs w'.heap.size w' a [(0, 1), (2, 1), (5, 1), (7, 1)]) ∧ Below w.heap.size w w' := by
  refine (Knots_any 1000 exM 200 (fun _ => ex_top) w).mono fun e w' h => ⟨Lib.hid ?_, h.2⟩
  obtain ⟨v, he, hr⟩ := h.1.out
  have h1 := hr.1 ex_given
  rw [ex_knots] at h1
  obtain ⟨a, c, rfl, _, _, _, hf⟩ := fr_of_row h1
  exact ⟨a, c, by rw [he, ex_given]; rfl, hf⟩
theorem equal_ex (a1 a2 : Option Addr) (F : List (Int × Int)) (n c1 c2 : Nat) (w : World) (hn : F.length = n) (hl : F.length ≤ 1100) (h1 : Frs w.heap.size w a1 F) (h2 : Frs w.heap.size w a2 F) :
    Calls Try.prog 27 #[.slice a1 n c1, .slice a2 n c2] w fun e w' => e = .returned (.bool true) ∧ Below w.heap.size w w' := by
  subst hn
  exact (fr_equal a1 a2 F F c1 c2 w hl h1 h2 hl).mono fun e w' h => by rw [decide_eq_true rfl] at h; exact h
theorem frs_new (w : World) (n : Nat) (L : List (Int × Int)) (h : n = L.length) (hl : n ≤ 1000) : Frs (w.alloc (.cells (frflat L).toArray 39)).heap.size (w.alloc (.cells (frflat L).toArray 39)) (some ⟨w.heap.size, 0, none⟩) L := by
  subst h
  obtain ⟨a, cap, e, _, _, _, hc⟩ := fr_of_row (World.ownsRow_lit (base := 0) (e := 39) (size := 2) w (frflat L).toArray L.length (Nat.zero_le _) (by unfold maxLen; omega) (by simp [fr_len]))
  cases e
  exact hc

set_option maxHeartbeats 1000000 in
theorem example_any (w : World) : Calls Try.prog 38 #[] w fun e w' => e = .returned (.agg #[.string ⟨#[115]⟩, .int .i64 0, .int .i64 200, .int .i64 100, .int .i64 100]) ∧ Below w.heap.size w w' := by
  go_enter Try.func38, Try.ntmps38
  go_wp2_with fail
  refine bodyPost_ret (v := .agg #[.string ⟨#[115]⟩, .int .i64 0, .int .i64 200, .int .i64 100, .int .i64 100]) (by simp [results, Try.results38, go_sem]) rfl ⟨rfl, ?_⟩
  exact below_new _ _
set_option maxHeartbeats 1000000 in
theorem of_any (n : Int) (w : World) : Calls Try.prog 30 #[.int .i64 n] w fun e w' => e = .returned (.agg #[.int .i64 n, .int .i64 1]) ∧ Below w.heap.size w w' := by
  go_enter Try.func30, Try.ntmps30
  go_wp2_with fail
  refine bodyPost_ret (v := .agg #[.int .i64 n, .int .i64 1]) (by simp [results, Try.results30, go_sem]) rfl ⟨rfl, ?_⟩
  exact below_new _ _

set_option maxRecDepth 100000 in
set_option maxHeartbeats 8000000 in
theorem awake_any (w : World) : Calls Try.prog 10 #[] w fun e w' => e = .returned (.bool true) ∧ Below w.heap.size w w' := by
  have HO : Hid (∀ w : World, Frs (w.alloc (.cells #[.int .i64 0, .int .i64 1, .int .i64 2, .int .i64 1, .int .i64 5, .int .i64 1, .int .i64 7, .int .i64 1] 39)).heap.size (w.alloc (.cells #[.int .i64 0, .int .i64 1, .int .i64 2, .int .i64 1, .int .i64 5, .int .i64 1, .int .i64 7, .int .i64 1] 39)) (some ⟨w.heap.size, 0, none⟩) [(0, 1), (2, 1), (5, 1), (7, 1)]) := Lib.hid fun w => frs_new w 4 [(0, 1), (2, 1), (5, 1), (7, 1)] rfl (by decide)
  go_enter Try.func10, Try.ntmps10
  go_upto_region 5 with (first
    | (go_at_call 38; (with_reducible refine (example_any _).mono ?_); rintro e wx ⟨rfl, hbx⟩; (first | (have hq := hB.trans (hbx.mono hB.size); have hB := hq) | (have hB := hbx)); (first | (have hq2 := hC.trans (hbx.mono hC.size); have hC := hq2) | (have hC : Below (wt.alloc (.cells #[.int .i64 7, .int .i64 1] 39)).heap.size (wt.alloc (.cells #[.int .i64 7, .int .i64 1] 39)) wx := hbx) | skip))
    | (go_at_call 11; (with_reducible refine (top_ex1 _).mono ?_); rintro e wx ⟨rfl, hbx⟩; have hq := hB.trans (hbx.mono hB.size); have hB := hq)
    | (go_at_call 11; (with_reducible refine (top_ex2 _).mono ?_); rintro e wx ⟨rfl, hbx⟩; have hq := hB.trans (hbx.mono hB.size); have hB := hq; (first | (have hq2 := hC.trans (hbx.mono hC.size); have hC := hq2) | (have hC : Below (wt.alloc (.cells #[.int .i64 7, .int .i64 1] 39)).heap.size (wt.alloc (.cells #[.int .i64 7, .int .i64 1] 39)) wx := hbx) | skip))
    | (go_at_call 20; (with_reducible refine (time_ex _).mono ?_); rintro e wt ⟨rfl, hbx⟩; have hq : Below w.heap.size w (wt.alloc (.cells #[.int .i64 7, .int .i64 1] 39)) := (hB.trans (hbx.mono hB.size)).alloc (Nat.le_trans hB.size hbx.size) _; have hB := hq)
    | (go_at_call 22; (with_reducible refine (knots_ex _).mono ?_); rintro e wk ⟨hx, hbx⟩; obtain ⟨ka, kc, rfl, hkf⟩ := hx.out; have hq := hB.trans (hbx.mono hB.size); have hB := hq; (first | (have hq2 := hC.trans (hbx.mono hC.size); have hC := hq2) | (have hC : Below (wt.alloc (.cells #[.int .i64 7, .int .i64 1] 39)).heap.size (wt.alloc (.cells #[.int .i64 7, .int .i64 1] 39)) wk := hbx) | skip)))
  have z0 : wk.cell? ⟨wt.heap.size, 0, none⟩ = some (.int .i64 7) := (hC.cell (p := ⟨wt.heap.size, 0, none⟩) (by simp)).trans (by simp)
  have z1 : wk.cell? ⟨wt.heap.size, 1, none⟩ = some (.int .i64 1) := (hC.cell (p := ⟨wt.heap.size, 1, none⟩) (by simp)).trans (by simp)
  have hzl : wt.heap.size < wk.heap.size := World.block_lt_of_cell? _ _ z0
  have HKF := Lib.hid hkf
  have HBB := Lib.hid hB
  have HS : Hid (∀ w', Below wk.heap.size wk w' → Below wk.heap.size wk w' ∧ w'.cell? ⟨wt.heap.size, 0, none⟩ = some (.int .i64 7) ∧ w'.cell? ⟨wt.heap.size, 1, none⟩ = some (.int .i64 1)) := Lib.hid fun w' h => ⟨h, (h.cell (p := ⟨wt.heap.size, 0, none⟩) hzl).trans z0, (h.cell (p := ⟨wt.heap.size, 1, none⟩) hzl).trans z1⟩
  clear hC hB hkf hbx z0 z1
  have hbr := Below.refl wk.heap.size wk
  have hbd := hbr.drew
  go_region_held3 (fun w' => Below wk.heap.size wk w' ∧ w'.cell? ⟨wt.heap.size, 0, none⟩ = some (.int .i64 7) ∧ w'.cell? ⟨wt.heap.size, 1, none⟩ = some (.int .i64 1))
    (first | exact HS.out _ hbd | (go_split_ands; refine HS.out _ ?_; repeat' (first | assumption | apply below_a | apply Below.drew)))
    (first
      | (go_at_call 30; go_split_ands; (with_reducible refine (of_any _ _).mono ?_); rintro e yy ⟨rfl, hyy⟩; have hxx := held_next (wr := wk) (by assumption) hyy)
      | (go_at_call 27; go_split_ands; (with_reducible refine (equal_ex ka _ [(0, 1), (2, 1), (5, 1), (7, 1)] 4 kc 4 _ rfl (by decide) ?_ (HO.out _)).mono ?_); (next => exact (HKF.out.grow hxx).grow (below_new _ _)); rintro e yz ⟨rfl, hyz⟩; have hzz := hxx.trans ((mono_in _ hyz).mono hxx.size)))
  all_goals go_wp2_with fail
  all_goals go_ret
  all_goals exact ⟨rfl, HBB.out.trans (hzz.mono HBB.out.size)⟩
end Go.Proofs.Ytlgpolfbilkmbaa
