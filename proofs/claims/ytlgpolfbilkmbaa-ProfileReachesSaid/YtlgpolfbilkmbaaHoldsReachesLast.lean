/-
  THE WALK of slices.Equal at fractions.
  THE WALKS of the laws' own helpers: example, awake (the chapter's example holds), ready.
  THE WALK of the law ProfileTops.
  THE WALK of the law ProfileGreatest.
  THE WALK of region 12 of the law ProfileReaches, over a frame of letters.
  THE WALK of the law ProfileReaches.
  FROM A WALK TO A ROW: a law that answers true and turns nothing that was there meets its row's post: each argument reads behind the call as it read before. Over any row of this seat.
  OPENING A SLICE OF RECORDS that came in, whatever the record: its cells, one behind the other, are those of a list.
  ARGUMENTS THAT CAME IN: a move.
  THE STATEMENT ProfileReachesSaid: at every distance, every move and every two parts of its time the law ProfileReaches answers true, and each argument reads as it did. Conditions: none beyond the given row.
-/
import Derived.Test.YtlgpolfbilkmbaaRows
import Derived.ProofKit
import Derived.OpenShut
import Derived.Below
import Derived.ChangeSame
import Derived.Carry
import Derived.RowKit
import Derived.Deep.Slices
import Derived.Deep.Fields
import Derived.WalkKit
import Derived.Lib.SmallJoins
import Derived.Test.YtlgpolfbilkmbaaMem
import Derived.Test.YtlgpolfbilkmbaaHoldsReachesG33
import Derived.Test.YtlgpolfbilkmbaaRat9
import Derived.Test.YtlgpolfbilkmbaaRCmp
import Derived.Test.YtlgpolfbilkmbaaTake
import Derived.Test.YtlgpolfbilkmbaaHoldsReachesG34
import Derived.Test.YtlgpolfbilkmbaaTop
namespace Go.Proofs.Ytlgpolfbilkmbaa
open Go.RowKit Go.Shelf

set_option maxHeartbeats 4000000 in
theorem fr_equal (a1 a2 : Option Addr) (F1 F2 : List (Int × Int)) (cap1 cap2 : Nat) (w : World) (hl : F1.length ≤ 1100) (h1 : Frs w.heap.size w a1 F1) (h2 : Frs w.heap.size w a2 F2) (hl2 : F2.length ≤ 1100) :
    Calls Try.prog 27 #[.slice a1 F1.length cap1, .slice a2 F2.length cap2] w fun e w' => e = .returned (.bool (decide (F1 = F2))) ∧ Below w.heap.size w w' := by
  have H1 := Lib.hid h1
  have H2 := Lib.hid h2
  clear h1 h2
  by_cases hle : F1.length = F2.length
  · have hn : ((F1.length : Int) != (F2.length : Int)) = false := by rw [bne_eq_false_iff_eq]; omega
    have HL := Lib.hid hle; clear hle
    go_enter Try.func27, Try.ntmps27
    go_wp2
    go_loopw [13] (fun i wr => ∃ k : Nat, k ≤ F1.length ∧ i = .int .i64 k ∧ Below w.heap.size w wr ∧ Hid (∀ j, j < k → frg F1 j = frg F2 j)) (fun i _ => F1.length - (intOf i).toNat)
    case atStart => exact ⟨0, Nat.zero_le _, rfl, Below.refl _ _, Lib.hid (fun _ h => absurd h (Nat.not_lt_zero _))⟩
    case round =>
      obtain ⟨k, hk, rfl, hB, HA⟩ := hrel
      by_cases hlt : k < F1.length
      · have hlt2 : k < F2.length := by have := HL.out; omega
        obtain ⟨b, off, rfl, hb, hcx⟩ := H1.out (by omega)
        obtain ⟨b', off', rfl, hb', hcx'⟩ := H2.out (by omega)
        obtain ⟨c0, c1⟩ := hcx k hlt
        obtain ⟨e0, e1⟩ := hcx' k hlt2
        have d0 := (hB.cell (p := ⟨b, off + k * 2, none⟩) hb).trans c0
        have d1 := (hB.cell (p := ⟨b, off + k * 2 + 1, none⟩) hb).trans c1
        have f0 := (hB.cell (p := ⟨b', off' + k * 2, none⟩) hb').trans e0
        have f1 := (hB.cell (p := ⟨b', off' + k * 2 + 1, none⟩) hb').trans e1
        clear c0 c1 e0 e1 hcx hcx'
        by_cases q0 : (frg F1 k).1 = (frg F2 k).1
        · by_cases q1 : (frg F1 k).2 = (frg F2 k).2
          · have HB : Hid (∀ j, j < k + 1 → frg F1 j = frg F2 j) := Lib.hid fun j hj => by
              rcases Nat.lt_or_ge j k with l | l
              · exact HA.out j l
              · obtain rfl : j = k := by omega
                exact Prod.ext q0 q1
            have g0 : ((frg F1 k).1 == (frg F2 k).1) = true := beq_iff_eq.2 q0
            have h0 : ((frg F1 k).1 != (frg F2 k).1) = false := bne_eq_false_iff_eq.2 q0
            have g1 : ((frg F1 k).2 == (frg F2 k).2) = true := beq_iff_eq.2 q1
            have h1 : ((frg F1 k).2 != (frg F2 k).2) = false := bne_eq_false_iff_eq.2 q1
            clear q0 q1
            go_wp2_with fail
            go_quiet (fail)
            go_wp2
            go_roundw
            case rel => exact ⟨k + 1, by omega, by go_num, below_drewN hB _, HB⟩
            case measure => simp [intOf]; omega
          · have H : Hid (decide (F1 = F2) = false) := Lib.hid (decide_eq_false (fun e => q1 (by rw [e])))
            have g0 : ((frg F1 k).1 == (frg F2 k).1) = true := beq_iff_eq.2 q0
            have h0 : ((frg F1 k).1 != (frg F2 k).1) = false := bne_eq_false_iff_eq.2 q0
            have g1 : ((frg F1 k).2 == (frg F2 k).2) = false := beq_eq_false_iff_ne.2 q1
            have h1 : ((frg F1 k).2 != (frg F2 k).2) = true := bne_iff_ne.2 q1
            clear q0 q1
            go_wp2_with fail
            go_quiet (fail)
            go_wp2
            go_ret
            exact ⟨congrArg (fun b => Ending.returned (.bool b)) H.out.symm, below_drewN hB _⟩
        · have H : Hid (decide (F1 = F2) = false) := Lib.hid (decide_eq_false (fun e => q0 (by rw [e])))
          have g0 : ((frg F1 k).1 == (frg F2 k).1) = false := beq_eq_false_iff_ne.2 q0
          have h0 : ((frg F1 k).1 != (frg F2 k).1) = true := bne_iff_ne.2 q0
          clear q0
          go_wp2_with fail
          go_quiet (fail)
          go_wp2
          go_ret
          exact ⟨congrArg (fun b => Ending.returned (.bool b)) H.out.symm, below_drewN hB _⟩
      · obtain rfl : k = F1.length := by omega
        have H : Hid (decide (F1 = F2) = true) := Lib.hid (decide_eq_true (frg_ext F1 F2 HL.out HA.out))
        go_wp2
        go_ret
        exact ⟨congrArg (fun b => Ending.returned (.bool b)) H.out.symm, hB⟩
  · have hn : ((F1.length : Int) != (F2.length : Int)) = true := bne_iff_ne.2 (by omega)
    have H : Hid (decide (F1 = F2) = false) := Lib.hid (decide_eq_false (fun e => hle (by rw [e])))
    clear hle
    go_enter Try.func27, Try.ntmps27
    go_wp2
    go_ret
    exact ⟨congrArg (fun b => Ending.returned (.bool b)) H.out.symm, Below.refl _ _⟩
end Go.Proofs.Ytlgpolfbilkmbaa
namespace Go.Proofs.Ytlgpolfbilkmbaa
open Go.RowKit Go.Shelf

def exM : Mv := ⟨⟨#[115]⟩, 0, 200, 100, 100⟩
theorem ex_given : givenP 1000 exM = 0 := by decide +kernel
theorem ex_given2 : givenP 100 exM = 0 := by decide +kernel
theorem ex_top : IsTop 1000 exM.spd exM.rise exM.fall 200 := ⟨by decide, by decide, by unfold Room; decide, .inl rfl⟩
theorem ex_top2 : IsTop 100 exM.spd exM.rise exM.fall 100 := ⟨by decide, by decide, by unfold Room; decide, .inr (by unfold Room; decide)⟩
theorem ex_knots : knotsL 1000 exM.rise exM.fall 200 = [(0, 1), (2, 1), (5, 1), (7, 1)] := by decide +kernel

theorem top_ex1 (w : World) : Calls Try.prog 11 #[.int .i64 1000, .agg #[.string ⟨#[115]⟩, .int .i64 0, .int .i64 200, .int .i64 100, .int .i64 100]] w fun e w' => e = .returned (.tuple #[.int .i64 200, .int .i64 0]) ∧ Below w.heap.size w w' := by
  have h := Top_any 1000 exM 200 (fun _ => ex_top) w
  rw [show topR 1000 exM 200 = 200 by unfold topR; rw [if_pos ex_given], ex_given] at h
  exact h
theorem top_ex2 (w : World) : Calls Try.prog 11 #[.int .i64 100, .agg #[.string ⟨#[115]⟩, .int .i64 0, .int .i64 200, .int .i64 100, .int .i64 100]] w fun e w' => e = .returned (.tuple #[.int .i64 100, .int .i64 0]) ∧ Below w.heap.size w w' := by
  have h := Top_any 100 exM 100 (fun _ => ex_top2) w
  rw [show topR 100 exM 100 = 100 by unfold topR; rw [if_pos ex_given2], ex_given2] at h
  exact h
theorem time_ex (w : World) : Calls Try.prog 20 #[.int .i64 1000, .agg #[.string ⟨#[115]⟩, .int .i64 0, .int .i64 200, .int .i64 100, .int .i64 100]] w fun e w' => e = .returned (.tuple #[.agg #[.int .i64 7, .int .i64 1], .int .i64 0]) ∧ Below w.heap.size w w' := by
  have h := Time_any 1000 exM 200 (fun _ => ex_top) w
  rw [show timeP 1000 exM 200 = (7, 1) by unfold timeP; rw [if_pos ex_given, ex_knots]; rfl, ex_given] at h
  exact h
theorem knots_ex (w : World) : Calls Try.prog 22 #[.int .i64 1000, .agg #[.string ⟨#[115]⟩, .int .i64 0, .int .i64 200, .int .i64 100, .int .i64 100]] w fun e w' => Hid (∃ a c, e = .returned (.tuple #[.slice a 4 c, .int .i64 0]) ∧ Frs w'.heap.size w' a [(0, 1), (2, 1), (5, 1), (7, 1)]) ∧ Below w.heap.size w w' := by
  refine (Knots_any 1000 exM 200 (fun _ => ex_top) w).mono fun e w' h => ⟨Lib.hid ?_, h.2⟩
  obtain ⟨v, he, hr⟩ := h.1.out
  have h1 := hr.1 ex_given
  rw [ex_knots] at h1
  obtain ⟨a, c, rfl, _, _, _, hf⟩ := fr_of_row h1
  exact ⟨a, c, by rw [he, ex_given]; rfl, hf⟩
theorem equal_ex (a1 a2 : Option Addr) (F : List (Int × Int)) (n c1 c2 : Nat) (w : World) (hn : F.length = n) (hl : F.length ≤ 1100) (h1 : Frs w.heap.size w a1 F) (h2 : Frs w.heap.size w a2 F) :
    Calls Try.prog 27 #[.slice a1 n c1, .slice a2 n c2] w fun e w' => e = .returned (.bool true) ∧ Below w.heap.size w w' := by
  subst hn
  exact (fr_equal a1 a2 F F c1 c2 w hl h1 h2 hl).mono fun e w' h => by rw [decide_eq_true rfl] at h; exact h
theorem frs_new (w : World) (n : Nat) (L : List (Int × Int)) (h : n = L.length) (hl : n ≤ 1000) : Frs (w.alloc (.cells (frflat L).toArray 39)).heap.size (w.alloc (.cells (frflat L).toArray 39)) (some ⟨w.heap.size, 0, none⟩) L := by
  subst h
  obtain ⟨a, cap, e, _, _, _, hc⟩ := fr_of_row (World.ownsRow_lit (base := 0) (e := 39) (size := 2) w (frflat L).toArray L.length (Nat.zero_le _) (by unfold maxLen; omega) (by simp [fr_len]))
  cases e
  exact hc

set_option maxHeartbeats 1000000 in
theorem example_any (w : World) : Calls Try.prog 38 #[] w fun e w' => e = .returned (.agg #[.string ⟨#[115]⟩, .int .i64 0, .int .i64 200, .int .i64 100, .int .i64 100]) ∧ Below w.heap.size w w' := by
  go_enter Try.func38, Try.ntmps38
  go_wp2_with fail
  refine bodyPost_ret (v := .agg #[.string ⟨#[115]⟩, .int .i64 0, .int .i64 200, .int .i64 100, .int .i64 100]) (by simp [results, Try.results38, go_sem]) rfl ⟨rfl, ?_⟩
  exact below_new _ _
set_option maxHeartbeats 1000000 in
theorem of_any (n : Int) (w : World) : Calls Try.prog 30 #[.int .i64 n] w fun e w' => e = .returned (.agg #[.int .i64 n, .int .i64 1]) ∧ Below w.heap.size w w' := by
  go_enter Try.func30, Try.ntmps30
  go_wp2_with fail
  refine bodyPost_ret (v := .agg #[.int .i64 n, .int .i64 1]) (by simp [results, Try.results30, go_sem]) rfl ⟨rfl, ?_⟩
  exact below_new _ _

set_option maxRecDepth 100000 in
set_option maxHeartbeats 8000000 in
theorem awake_any (w : World) : Calls Try.prog 10 #[] w fun e w' => e = .returned (.bool true) ∧ Below w.heap.size w w' := by
  have HO : Hid (∀ w : World, Frs (w.alloc (.cells #[.int .i64 0, .int .i64 1, .int .i64 2, .int .i64 1, .int .i64 5, .int .i64 1, .int .i64 7, .int .i64 1] 39)).heap.size (w.alloc (.cells #[.int .i64 0, .int .i64 1, .int .i64 2, .int .i64 1, .int .i64 5, .int .i64 1, .int .i64 7, .int .i64 1] 39)) (some ⟨w.heap.size, 0, none⟩) [(0, 1), (2, 1), (5, 1), (7, 1)]) := Lib.hid fun w => frs_new w 4 [(0, 1), (2, 1), (5, 1), (7, 1)] rfl (by decide)
  go_enter Try.func10, Try.ntmps10
  go_upto_region 5 with (first
    | (go_at_call 38; (with_reducible refine (example_any _).mono ?_); rintro e wx ⟨rfl, hbx⟩; (first | (have hq := hB.trans (hbx.mono hB.size); have hB := hq) | (have hB := hbx)); (first | (have hq2 := hC.trans (hbx.mono hC.size); have hC := hq2) | (have hC : Below (wt.alloc (.cells #[.int .i64 7, .int .i64 1] 39)).heap.size (wt.alloc (.cells #[.int .i64 7, .int .i64 1] 39)) wx := hbx) | skip))
    | (go_at_call 11; (with_reducible refine (top_ex1 _).mono ?_); rintro e wx ⟨rfl, hbx⟩; have hq := hB.trans (hbx.mono hB.size); have hB := hq)
    | (go_at_call 11; (with_reducible refine (top_ex2 _).mono ?_); rintro e wx ⟨rfl, hbx⟩; have hq := hB.trans (hbx.mono hB.size); have hB := hq; (first | (have hq2 := hC.trans (hbx.mono hC.size); have hC := hq2) | (have hC : Below (wt.alloc (.cells #[.int .i64 7, .int .i64 1] 39)).heap.size (wt.alloc (.cells #[.int .i64 7, .int .i64 1] 39)) wx := hbx) | skip))
    | (go_at_call 20; (with_reducible refine (time_ex _).mono ?_); rintro e wt ⟨rfl, hbx⟩; have hq : Below w.heap.size w (wt.alloc (.cells #[.int .i64 7, .int .i64 1] 39)) := (hB.trans (hbx.mono hB.size)).alloc (Nat.le_trans hB.size hbx.size) _; have hB := hq)
    | (go_at_call 22; (with_reducible refine (knots_ex _).mono ?_); rintro e wk ⟨hx, hbx⟩; obtain ⟨ka, kc, rfl, hkf⟩ := hx.out; have hq := hB.trans (hbx.mono hB.size); have hB := hq; (first | (have hq2 := hC.trans (hbx.mono hC.size); have hC := hq2) | (have hC : Below (wt.alloc (.cells #[.int .i64 7, .int .i64 1] 39)).heap.size (wt.alloc (.cells #[.int .i64 7, .int .i64 1] 39)) wk := hbx) | skip)))
  have z0 : wk.cell? ⟨wt.heap.size, 0, none⟩ = some (.int .i64 7) := (hC.cell (p := ⟨wt.heap.size, 0, none⟩) (by simp)).trans (by simp)
  have z1 : wk.cell? ⟨wt.heap.size, 1, none⟩ = some (.int .i64 1) := (hC.cell (p := ⟨wt.heap.size, 1, none⟩) (by simp)).trans (by simp)
  have hzl : wt.heap.size < wk.heap.size := World.block_lt_of_cell? _ _ z0
  have HKF := Lib.hid hkf
  have HBB := Lib.hid hB
  have HS : Hid (∀ w', Below wk.heap.size wk w' → Below wk.heap.size wk w' ∧ w'.cell? ⟨wt.heap.size, 0, none⟩ = some (.int .i64 7) ∧ w'.cell? ⟨wt.heap.size, 1, none⟩ = some (.int .i64 1)) := Lib.hid fun w' h => ⟨h, (h.cell (p := ⟨wt.heap.size, 0, none⟩) hzl).trans z0, (h.cell (p := ⟨wt.heap.size, 1, none⟩) hzl).trans z1⟩
  clear hC hB hkf hbx z0 z1
  have hbr := Below.refl wk.heap.size wk
  have hbd := hbr.drew
  go_region_held3 (fun w' => Below wk.heap.size wk w' ∧ w'.cell? ⟨wt.heap.size, 0, none⟩ = some (.int .i64 7) ∧ w'.cell? ⟨wt.heap.size, 1, none⟩ = some (.int .i64 1))
    (first | exact HS.out _ hbd | (go_split_ands; refine HS.out _ ?_; repeat' (first | assumption | apply below_a | apply Below.drew)))
    (first
      | (go_at_call 30; go_split_ands; (with_reducible refine (of_any _ _).mono ?_); rintro e yy ⟨rfl, hyy⟩; have hxx := held_next (wr := wk) (by assumption) hyy)
      | (go_at_call 27; go_split_ands; (with_reducible refine (equal_ex ka _ [(0, 1), (2, 1), (5, 1), (7, 1)] 4 kc 4 _ rfl (by decide) ?_ (HO.out _)).mono ?_); (next => exact (HKF.out.grow hxx).grow (below_new _ _)); rintro e yz ⟨rfl, hyz⟩; have hzz := hxx.trans ((mono_in _ hyz).mono hxx.size)))
  all_goals go_wp2_with fail
  all_goals go_ret
  all_goals exact ⟨rfl, HBB.out.trans (hzz.mono HBB.out.size)⟩
end Go.Proofs.Ytlgpolfbilkmbaa
namespace Go.Proofs.Ytlgpolfbilkmbaa
open Go.RowKit Go.Shelf

theorem top_some (d : Int) (m : Mv) : ∃ t, givenP d m = 0 → IsTop d m.spd m.rise m.fall t := by
  by_cases hg : givenP d m = 0
  · obtain ⟨hv, hd⟩ := given_ok hg
    obtain ⟨V0, V1, R0, R1, F0, F1⟩ := valid_bds hv
    obtain ⟨t, ht⟩ := top_exI (d := d) (V := m.spd) (R := m.rise) (F := m.fall) (by omega) (by omega) (inB_iff.1 hd).1 (by omega)
    exact ⟨t, fun _ => ht⟩
  · exact ⟨0, fun h => absurd h hg⟩

set_option maxRecDepth 100000 in
set_option maxHeartbeats 8000000 in
theorem lawtops_law (d : Int) (m : Mv) (w : World) : Calls Try.prog 3 #[.int .i64 d, .agg #[.string m.name, .int .i64 m.to, .int .i64 m.spd, .int .i64 m.rise, .int .i64 m.fall]] w fun e w' => e = .returned (.bool true) ∧ Below w.heap.size w w' := by
  obtain ⟨t, ht⟩ := top_some d m
  by_cases hl : 100 < (m.name.size : Int)
  · clear ht
    go_enter Try.func3, Try.ntmps3
    go_upto_region 1 with (fail)
    have k0 : (w.alloc (.cells #[.string m.name, .int .i64 m.to, .int .i64 m.spd, .int .i64 m.rise, .int .i64 m.fall] 23)).cell? ⟨w.heap.size, 0, none⟩ = some (.string m.name) := by simp
    have k1 : (w.alloc (.cells #[.string m.name, .int .i64 m.to, .int .i64 m.spd, .int .i64 m.rise, .int .i64 m.fall] 23)).cell? ⟨w.heap.size, 1, none⟩ = some (.int .i64 m.to) := by simp
    have k2 : (w.alloc (.cells #[.string m.name, .int .i64 m.to, .int .i64 m.spd, .int .i64 m.rise, .int .i64 m.fall] 23)).cell? ⟨w.heap.size, 2, none⟩ = some (.int .i64 m.spd) := by simp
    have k3 : (w.alloc (.cells #[.string m.name, .int .i64 m.to, .int .i64 m.spd, .int .i64 m.rise, .int .i64 m.fall] 23)).cell? ⟨w.heap.size, 3, none⟩ = some (.int .i64 m.rise) := by simp
    have k4 : (w.alloc (.cells #[.string m.name, .int .i64 m.to, .int .i64 m.spd, .int .i64 m.rise, .int .i64 m.fall] 23)).cell? ⟨w.heap.size, 4, none⟩ = some (.int .i64 m.fall) := by simp
    have hz : w.heap.size < (w.alloc (.cells #[.string m.name, .int .i64 m.to, .int .i64 m.spd, .int .i64 m.rise, .int .i64 m.fall] 23)).heap.size := by simp
    have hW0 : Below w.heap.size w (w.alloc (.cells #[.string m.name, .int .i64 m.to, .int .i64 m.spd, .int .i64 m.rise, .int .i64 m.fall] 23)) := below_new _ _
    generalize w.alloc (.cells #[.string m.name, .int .i64 m.to, .int .i64 m.spd, .int .i64 m.rise, .int .i64 m.fall] 23) = W0 at *
    have x0 : ∀ wr, Below W0.heap.size W0 wr → wr.cell? ⟨w.heap.size, 0, none⟩ = some (.string m.name) := fun wr h => (h.cell (p := ⟨w.heap.size, 0, none⟩) hz).trans k0
    have x1 : ∀ wr, Below W0.heap.size W0 wr → wr.cell? ⟨w.heap.size, 1, none⟩ = some (.int .i64 m.to) := fun wr h => (h.cell (p := ⟨w.heap.size, 1, none⟩) hz).trans k1
    have x2 : ∀ wr, Below W0.heap.size W0 wr → wr.cell? ⟨w.heap.size, 2, none⟩ = some (.int .i64 m.spd) := fun wr h => (h.cell (p := ⟨w.heap.size, 2, none⟩) hz).trans k2
    have x3 : ∀ wr, Below W0.heap.size W0 wr → wr.cell? ⟨w.heap.size, 3, none⟩ = some (.int .i64 m.rise) := fun wr h => (h.cell (p := ⟨w.heap.size, 3, none⟩) hz).trans k3
    have x4 : ∀ wr, Below W0.heap.size W0 wr → wr.cell? ⟨w.heap.size, 4, none⟩ = some (.int .i64 m.fall) := fun wr h => (h.cell (p := ⟨w.heap.size, 4, none⟩) hz).trans k4
    clear k0 k1 k2 k3 k4 hz
    go_wp2_with (first
      | (go_at_call 10; (with_reducible refine (awake_any _).mono ?_); rintro e w1 ⟨rfl, hB1⟩))
    go_ret
    exact ⟨rfl, hW0.trans (hB1.mono hW0.size)⟩
  · have HC := Lib.hid (Top_any d m t ht)
    obtain ⟨b, hb⟩ : ∃ b, validM m = b := ⟨_, rfl⟩
    have HV := Lib.hid hb
    have zb : (b != b) = false := bne_self_eq_false _
    obtain ⟨g, hgg⟩ : ∃ g, givenP d m = g := ⟨_, rfl⟩
    have HG := Lib.hid hgg
    have HGV := Lib.hid (refgiven_any d m)
    by_cases hg : g = 0
    · have HT : Hid (topR d m t = t) := Lib.hid (by unfold topR; rw [if_pos (hgg.trans hg)])
      have HRT := Lib.hid (reftop_any d m t (hgg.trans hg) (ht (hgg.trans hg)))
      subst hg
      have zt : (t == t) = true := beq_self_eq_true _
      clear hb hgg ht
      go_enter Try.func3, Try.ntmps3
      go_upto_region 1 with (fail)
      have k0 : (w.alloc (.cells #[.string m.name, .int .i64 m.to, .int .i64 m.spd, .int .i64 m.rise, .int .i64 m.fall] 23)).cell? ⟨w.heap.size, 0, none⟩ = some (.string m.name) := by simp
      have k1 : (w.alloc (.cells #[.string m.name, .int .i64 m.to, .int .i64 m.spd, .int .i64 m.rise, .int .i64 m.fall] 23)).cell? ⟨w.heap.size, 1, none⟩ = some (.int .i64 m.to) := by simp
      have k2 : (w.alloc (.cells #[.string m.name, .int .i64 m.to, .int .i64 m.spd, .int .i64 m.rise, .int .i64 m.fall] 23)).cell? ⟨w.heap.size, 2, none⟩ = some (.int .i64 m.spd) := by simp
      have k3 : (w.alloc (.cells #[.string m.name, .int .i64 m.to, .int .i64 m.spd, .int .i64 m.rise, .int .i64 m.fall] 23)).cell? ⟨w.heap.size, 3, none⟩ = some (.int .i64 m.rise) := by simp
      have k4 : (w.alloc (.cells #[.string m.name, .int .i64 m.to, .int .i64 m.spd, .int .i64 m.rise, .int .i64 m.fall] 23)).cell? ⟨w.heap.size, 4, none⟩ = some (.int .i64 m.fall) := by simp
      have hz : w.heap.size < (w.alloc (.cells #[.string m.name, .int .i64 m.to, .int .i64 m.spd, .int .i64 m.rise, .int .i64 m.fall] 23)).heap.size := by simp
      have hW0 : Below w.heap.size w (w.alloc (.cells #[.string m.name, .int .i64 m.to, .int .i64 m.spd, .int .i64 m.rise, .int .i64 m.fall] 23)) := below_new _ _
      generalize w.alloc (.cells #[.string m.name, .int .i64 m.to, .int .i64 m.spd, .int .i64 m.rise, .int .i64 m.fall] 23) = W0 at *
      have x0 : ∀ wr, Below W0.heap.size W0 wr → wr.cell? ⟨w.heap.size, 0, none⟩ = some (.string m.name) := fun wr h => (h.cell (p := ⟨w.heap.size, 0, none⟩) hz).trans k0
      have x1 : ∀ wr, Below W0.heap.size W0 wr → wr.cell? ⟨w.heap.size, 1, none⟩ = some (.int .i64 m.to) := fun wr h => (h.cell (p := ⟨w.heap.size, 1, none⟩) hz).trans k1
      have x2 : ∀ wr, Below W0.heap.size W0 wr → wr.cell? ⟨w.heap.size, 2, none⟩ = some (.int .i64 m.spd) := fun wr h => (h.cell (p := ⟨w.heap.size, 2, none⟩) hz).trans k2
      have x3 : ∀ wr, Below W0.heap.size W0 wr → wr.cell? ⟨w.heap.size, 3, none⟩ = some (.int .i64 m.rise) := fun wr h => (h.cell (p := ⟨w.heap.size, 3, none⟩) hz).trans k3
      have x4 : ∀ wr, Below W0.heap.size W0 wr → wr.cell? ⟨w.heap.size, 4, none⟩ = some (.int .i64 m.fall) := fun wr h => (h.cell (p := ⟨w.heap.size, 4, none⟩) hz).trans k4
      clear k0 k1 k2 k3 k4 hz
      go_upto_region 6 with (first
        | (go_at_call 10; (with_reducible refine (awake_any _).mono ?_); rintro e w1 ⟨rfl, hB1⟩)
        | (go_at_call 11; (with_reducible refine (HC.out _).mono ?_); rintro e w2 ⟨rfl, hb2⟩; rw [HT.out, HG.out]; have hB2 := hB1.trans (hb2.mono hB1.size)))
      go_region_held3 (fun w' => Below W0.heap.size W0 w' ∧ w'.cell? ⟨w.heap.size, 0, none⟩ = some (.string m.name) ∧ w'.cell? ⟨w.heap.size, 1, none⟩ = some (.int .i64 m.to) ∧ w'.cell? ⟨w.heap.size, 2, none⟩ = some (.int .i64 m.spd) ∧ w'.cell? ⟨w.heap.size, 3, none⟩ = some (.int .i64 m.rise) ∧ w'.cell? ⟨w.heap.size, 4, none⟩ = some (.int .i64 m.fall))
        (first | exact ⟨hB2.drew, x0 _ hB2.drew, x1 _ hB2.drew, x2 _ hB2.drew, x3 _ hB2.drew, x4 _ hB2.drew⟩ | exact ⟨hB3, x0 _ hB3, x1 _ hB3, x2 _ hB3, x3 _ hB3, x4 _ hB3⟩ | exact ⟨hB4, x0 _ hB4, x1 _ hB4, x2 _ hB4, x3 _ hB4, x4 _ hB4⟩)
        (first
          | (go_at_call 12; go_split_ands; (with_reducible refine (valid_anyM m _).mono ?_); rintro e w3 ⟨rfl, hb3⟩; rw [HV.out]; have hB3 := hB2.drew.trans (hb3.mono hB2.drew.size))
          | (go_at_call 13; go_split_ands; (with_reducible refine (refvalid_anyM m _).mono ?_); rintro e w4 ⟨rfl, hb4⟩; rw [HV.out]; have hB4 := hB3.trans (hb4.mono hB3.size)))
      go_wp2_with (first
        | (go_at_call 14; (with_reducible refine (HGV.out _).mono ?_); rintro e w5 ⟨rfl, hb5⟩; rw [HG.out]; have hB5 := hB4.trans (hb5.mono hB4.size))
        | (go_at_call 15; (with_reducible refine (HRT.out _).mono ?_); rintro e w6 ⟨rfl, hb6⟩; have hB6 := hB5.trans (hb6.mono hB5.size)))
      go_ret
      exact ⟨rfl, hW0.trans (hB6.mono hW0.size)⟩
    · have HT : Hid (topR d m t = 0) := Lib.hid (by unfold topR; rw [if_neg (by rw [hgg]; exact hg)])
      have g1 : (g == 0) = false := by simpa using hg
      have g2 : (g != 0) = true := by simpa using hg
      have g3 : (g == g) = true := beq_self_eq_true _
      clear hb hgg ht hg
      go_enter Try.func3, Try.ntmps3
      go_upto_region 1 with (fail)
      have k0 : (w.alloc (.cells #[.string m.name, .int .i64 m.to, .int .i64 m.spd, .int .i64 m.rise, .int .i64 m.fall] 23)).cell? ⟨w.heap.size, 0, none⟩ = some (.string m.name) := by simp
      have k1 : (w.alloc (.cells #[.string m.name, .int .i64 m.to, .int .i64 m.spd, .int .i64 m.rise, .int .i64 m.fall] 23)).cell? ⟨w.heap.size, 1, none⟩ = some (.int .i64 m.to) := by simp
      have k2 : (w.alloc (.cells #[.string m.name, .int .i64 m.to, .int .i64 m.spd, .int .i64 m.rise, .int .i64 m.fall] 23)).cell? ⟨w.heap.size, 2, none⟩ = some (.int .i64 m.spd) := by simp
      have k3 : (w.alloc (.cells #[.string m.name, .int .i64 m.to, .int .i64 m.spd, .int .i64 m.rise, .int .i64 m.fall] 23)).cell? ⟨w.heap.size, 3, none⟩ = some (.int .i64 m.rise) := by simp
      have k4 : (w.alloc (.cells #[.string m.name, .int .i64 m.to, .int .i64 m.spd, .int .i64 m.rise, .int .i64 m.fall] 23)).cell? ⟨w.heap.size, 4, none⟩ = some (.int .i64 m.fall) := by simp
      have hz : w.heap.size < (w.alloc (.cells #[.string m.name, .int .i64 m.to, .int .i64 m.spd, .int .i64 m.rise, .int .i64 m.fall] 23)).heap.size := by simp
      have hW0 : Below w.heap.size w (w.alloc (.cells #[.string m.name, .int .i64 m.to, .int .i64 m.spd, .int .i64 m.rise, .int .i64 m.fall] 23)) := below_new _ _
      generalize w.alloc (.cells #[.string m.name, .int .i64 m.to, .int .i64 m.spd, .int .i64 m.rise, .int .i64 m.fall] 23) = W0 at *
      have x0 : ∀ wr, Below W0.heap.size W0 wr → wr.cell? ⟨w.heap.size, 0, none⟩ = some (.string m.name) := fun wr h => (h.cell (p := ⟨w.heap.size, 0, none⟩) hz).trans k0
      have x1 : ∀ wr, Below W0.heap.size W0 wr → wr.cell? ⟨w.heap.size, 1, none⟩ = some (.int .i64 m.to) := fun wr h => (h.cell (p := ⟨w.heap.size, 1, none⟩) hz).trans k1
      have x2 : ∀ wr, Below W0.heap.size W0 wr → wr.cell? ⟨w.heap.size, 2, none⟩ = some (.int .i64 m.spd) := fun wr h => (h.cell (p := ⟨w.heap.size, 2, none⟩) hz).trans k2
      have x3 : ∀ wr, Below W0.heap.size W0 wr → wr.cell? ⟨w.heap.size, 3, none⟩ = some (.int .i64 m.rise) := fun wr h => (h.cell (p := ⟨w.heap.size, 3, none⟩) hz).trans k3
      have x4 : ∀ wr, Below W0.heap.size W0 wr → wr.cell? ⟨w.heap.size, 4, none⟩ = some (.int .i64 m.fall) := fun wr h => (h.cell (p := ⟨w.heap.size, 4, none⟩) hz).trans k4
      clear k0 k1 k2 k3 k4 hz
      go_upto_region 6 with (first
        | (go_at_call 10; (with_reducible refine (awake_any _).mono ?_); rintro e w1 ⟨rfl, hB1⟩)
        | (go_at_call 11; (with_reducible refine (HC.out _).mono ?_); rintro e w2 ⟨rfl, hb2⟩; rw [HT.out, HG.out]; have hB2 := hB1.trans (hb2.mono hB1.size)))
      go_region_held3 (fun w' => Below W0.heap.size W0 w' ∧ w'.cell? ⟨w.heap.size, 0, none⟩ = some (.string m.name) ∧ w'.cell? ⟨w.heap.size, 1, none⟩ = some (.int .i64 m.to) ∧ w'.cell? ⟨w.heap.size, 2, none⟩ = some (.int .i64 m.spd) ∧ w'.cell? ⟨w.heap.size, 3, none⟩ = some (.int .i64 m.rise) ∧ w'.cell? ⟨w.heap.size, 4, none⟩ = some (.int .i64 m.fall))
        (first | exact ⟨hB2.drew, x0 _ hB2.drew, x1 _ hB2.drew, x2 _ hB2.drew, x3 _ hB2.drew, x4 _ hB2.drew⟩ | exact ⟨hB3, x0 _ hB3, x1 _ hB3, x2 _ hB3, x3 _ hB3, x4 _ hB3⟩ | exact ⟨hB4, x0 _ hB4, x1 _ hB4, x2 _ hB4, x3 _ hB4, x4 _ hB4⟩)
        (first
          | (go_at_call 12; go_split_ands; (with_reducible refine (valid_anyM m _).mono ?_); rintro e w3 ⟨rfl, hb3⟩; rw [HV.out]; have hB3 := hB2.drew.trans (hb3.mono hB2.drew.size))
          | (go_at_call 13; go_split_ands; (with_reducible refine (refvalid_anyM m _).mono ?_); rintro e w4 ⟨rfl, hb4⟩; rw [HV.out]; have hB4 := hB3.trans (hb4.mono hB3.size)))
      go_wp2_with (first
        | (go_at_call 14; (with_reducible refine (HGV.out _).mono ?_); rintro e w5 ⟨rfl, hb5⟩; rw [HG.out]; have hB5 := hB4.trans (hb5.mono hB4.size)))
      go_ret
      exact ⟨rfl, hW0.trans (hB5.mono hW0.size)⟩
end Go.Proofs.Ytlgpolfbilkmbaa
namespace Go.Proofs.Ytlgpolfbilkmbaa
open Go.RowKit Go.Shelf

def readyP (d : Int) (m : Mv) : Bool := decide ((m.name.size : Int) ≤ 100) && (givenP d m == 0)
theorem ready_iff {d : Int} {m : Mv} : readyP d m = true ↔ (m.name.size : Int) ≤ 100 ∧ givenP d m = 0 := by simp [readyP]
set_option maxRecDepth 100000 in
set_option maxHeartbeats 4000000 in
theorem ready_any (d : Int) (m : Mv) (w : World) : Calls Try.prog 19 #[.int .i64 d, .agg #[.string m.name, .int .i64 m.to, .int .i64 m.spd, .int .i64 m.rise, .int .i64 m.fall]] w fun e w' => e = .returned (.bool (readyP d m)) ∧ Below w.heap.size w w' := by
  by_cases hl : (m.name.size : Int) ≤ 100
  · obtain ⟨g, hg⟩ : ∃ g, givenP d m = g := ⟨_, rfl⟩
    obtain ⟨b, hb⟩ : ∃ b, (g == 0) = b := ⟨_, rfl⟩
    have HG := Lib.hid hg
    have HR : Hid (readyP d m = b) := Lib.hid (by unfold readyP; rw [hg, hb, decide_eq_true hl]; rfl)
    have hl' := decide_eq_true hl
    rw [HR.out]
    clear hg hl
    go_enter Try.func19, Try.ntmps19
    go_wp2_with (go_at_call 14; (with_reducible refine (refgiven_any d m _).mono ?_); rintro e w1 ⟨rfl, hb1⟩; rw [HG.out])
    go_ret
    exact ⟨rfl, (below_new _ _).trans (hb1.mono (by simp))⟩
  · have HR : Hid (readyP d m = false) := Lib.hid (by unfold readyP; rw [decide_eq_false hl]; rfl)
    have hl' := decide_eq_false hl
    rw [HR.out]
    clear hl
    go_enter Try.func19, Try.ntmps19
    go_wp2_with fail
    go_ret
    exact ⟨rfl, below_new _ _⟩

set_option maxRecDepth 100000 in
set_option maxHeartbeats 4000000 in
theorem need_any (d : Int) (m : Mv) (x : Int) (b : Bool) (hg : givenP d m = 0) (x0 : 0 ≤ x) (x1 : x ≤ 8193) (hb : Room d m.rise m.fall x ↔ b = true) (Bm Bd : Nat) (w : World)
    (k3 : w.cell? ⟨Bm, 3, none⟩ = some (.int .i64 m.rise)) (k4 : w.cell? ⟨Bm, 4, none⟩ = some (.int .i64 m.fall)) (kd : w.cell? ⟨Bd, 0, none⟩ = some (.int .i64 d)) :
    Calls Try.prog 23 #[.int .i64 x, .pointer (some ⟨Bm, 0, none⟩), .pointer (some ⟨Bd, 0, none⟩)] w fun e w' => e = .returned (.bool b) ∧ w = w' := by
  obtain ⟨hv, hd⟩ := given_ok hg
  obtain ⟨v1, v2, r1, r2, f1, f2⟩ := valid_bds hv
  obtain ⟨d1, d2⟩ := inB_iff.1 hd
  have a0 := Int.mul_nonneg x0 x0
  have a1 : x * x ≤ 8193 * 8193 := Int.mul_le_mul x1 x1 x0 (by decide)
  have b0 := Int.mul_nonneg a0 (show 0 ≤ m.rise + m.fall by omega)
  have b1 : x * x * (m.rise + m.fall) ≤ 67125249 * 32768 := Int.mul_le_mul (by omega) (by omega) (by omega) (by decide)
  have e0 := Int.mul_nonneg (show 0 ≤ 2 * m.rise by omega) (show 0 ≤ m.fall by omega)
  have e1 : 2 * m.rise * m.fall ≤ 32768 * 16384 := Int.mul_le_mul (by omega) f2 (by omega) (by decide)
  have g0 := Int.mul_nonneg e0 d1
  have g1 : 2 * m.rise * m.fall * d ≤ 536870912 * 1048576 := Int.mul_le_mul (by omega) d2 d1 (by decide)
  have s4 : IntKind.i64.wrap (x * x) = x * x := IntWalk.i64_in _ (by omega)
  have s5 : IntKind.i64.wrap (m.rise + m.fall) = m.rise + m.fall := IntWalk.i64_in _ (by omega)
  have s6 : IntKind.i64.wrap (x * x * (m.rise + m.fall)) = x * x * (m.rise + m.fall) := IntWalk.i64_in _ (by omega)
  have s7 : IntKind.i64.wrap (2 * m.rise) = 2 * m.rise := IntWalk.i64_in _ (by omega)
  have s8 : IntKind.i64.wrap (2 * m.rise * m.fall) = 2 * m.rise * m.fall := IntWalk.i64_in _ (by omega)
  have s9 : IntKind.i64.wrap (2 * m.rise * m.fall * d) = 2 * m.rise * m.fall * d := IntWalk.i64_in _ (by omega)
  have hb' : decide (x * x * (m.rise + m.fall) ≤ 2 * m.rise * m.fall * d) = b := by
    unfold Room at hb
    rw [Bool.eq_iff_iff, ← hb]
    simp
  clear a0 a1 b0 b1 e0 e1 g0 g1 hb hg hv hd
  go_enter Try.func23, Try.ntmps23
  go_wp2_with fail
  go_ret
  exact ⟨ret_boolB (by first | rfl | exact hb'), rfl⟩

theorem knots_len (d : Int) (m : Mv) (t : Int) : (knotsL d m.rise m.fall t).length = if d = 0 then 1 else if kP d m.rise m.fall t = 0 then 3 else 4 := by
  unfold knotsL
  rw [knTo_len]
  unfold curveL
  split
  · rfl
  · split <;> simp

set_option maxRecDepth 100000 in
set_option maxHeartbeats 8000000 in
theorem lawgreatest_law (d : Int) (m : Mv) (w : World) : Calls Try.prog 6 #[.int .i64 d, .agg #[.string m.name, .int .i64 m.to, .int .i64 m.spd, .int .i64 m.rise, .int .i64 m.fall]] w fun e w' => e = .returned (.bool true) ∧ Below w.heap.size w w' := by
  obtain ⟨t, ht⟩ := top_some d m
  cases hr : readyP d m
  · have HR := Lib.hid hr
    clear hr ht
    go_enter Try.func6, Try.ntmps6
    go_upto_region 1 with (fail)
    have k0 : ((w.alloc (.cells #[.int .i64 d] 3)).alloc (.cells #[.string m.name, .int .i64 m.to, .int .i64 m.spd, .int .i64 m.rise, .int .i64 m.fall] 23)).cell? ⟨w.heap.size + 1, 0, none⟩ = some (.string m.name) := by simp
    have k1 : ((w.alloc (.cells #[.int .i64 d] 3)).alloc (.cells #[.string m.name, .int .i64 m.to, .int .i64 m.spd, .int .i64 m.rise, .int .i64 m.fall] 23)).cell? ⟨w.heap.size + 1, 1, none⟩ = some (.int .i64 m.to) := by simp
    have k2 : ((w.alloc (.cells #[.int .i64 d] 3)).alloc (.cells #[.string m.name, .int .i64 m.to, .int .i64 m.spd, .int .i64 m.rise, .int .i64 m.fall] 23)).cell? ⟨w.heap.size + 1, 2, none⟩ = some (.int .i64 m.spd) := by simp
    have k3 : ((w.alloc (.cells #[.int .i64 d] 3)).alloc (.cells #[.string m.name, .int .i64 m.to, .int .i64 m.spd, .int .i64 m.rise, .int .i64 m.fall] 23)).cell? ⟨w.heap.size + 1, 3, none⟩ = some (.int .i64 m.rise) := by simp
    have k4 : ((w.alloc (.cells #[.int .i64 d] 3)).alloc (.cells #[.string m.name, .int .i64 m.to, .int .i64 m.spd, .int .i64 m.rise, .int .i64 m.fall] 23)).cell? ⟨w.heap.size + 1, 4, none⟩ = some (.int .i64 m.fall) := by simp
    have k5 : ((w.alloc (.cells #[.int .i64 d] 3)).alloc (.cells #[.string m.name, .int .i64 m.to, .int .i64 m.spd, .int .i64 m.rise, .int .i64 m.fall] 23)).cell? ⟨w.heap.size, 0, none⟩ = some (.int .i64 d) := by simp
    have hz : w.heap.size + 1 < ((w.alloc (.cells #[.int .i64 d] 3)).alloc (.cells #[.string m.name, .int .i64 m.to, .int .i64 m.spd, .int .i64 m.rise, .int .i64 m.fall] 23)).heap.size := by simp
    have hW0 : Below w.heap.size w ((w.alloc (.cells #[.int .i64 d] 3)).alloc (.cells #[.string m.name, .int .i64 m.to, .int .i64 m.spd, .int .i64 m.rise, .int .i64 m.fall] 23)) := (below_new _ _).alloc (by simp) _
    generalize ((w.alloc (.cells #[.int .i64 d] 3)).alloc (.cells #[.string m.name, .int .i64 m.to, .int .i64 m.spd, .int .i64 m.rise, .int .i64 m.fall] 23)) = W0 at *
    have x0 : ∀ wr, Below W0.heap.size W0 wr → wr.cell? ⟨w.heap.size + 1, 0, none⟩ = some (.string m.name) := fun wr h => (h.cell (p := ⟨w.heap.size + 1, 0, none⟩) hz).trans k0
    have x1 : ∀ wr, Below W0.heap.size W0 wr → wr.cell? ⟨w.heap.size + 1, 1, none⟩ = some (.int .i64 m.to) := fun wr h => (h.cell (p := ⟨w.heap.size + 1, 1, none⟩) hz).trans k1
    have x2 : ∀ wr, Below W0.heap.size W0 wr → wr.cell? ⟨w.heap.size + 1, 2, none⟩ = some (.int .i64 m.spd) := fun wr h => (h.cell (p := ⟨w.heap.size + 1, 2, none⟩) hz).trans k2
    have x3 : ∀ wr, Below W0.heap.size W0 wr → wr.cell? ⟨w.heap.size + 1, 3, none⟩ = some (.int .i64 m.rise) := fun wr h => (h.cell (p := ⟨w.heap.size + 1, 3, none⟩) hz).trans k3
    have x4 : ∀ wr, Below W0.heap.size W0 wr → wr.cell? ⟨w.heap.size + 1, 4, none⟩ = some (.int .i64 m.fall) := fun wr h => (h.cell (p := ⟨w.heap.size + 1, 4, none⟩) hz).trans k4
    have x5 : ∀ wr, Below W0.heap.size W0 wr → wr.cell? ⟨w.heap.size, 0, none⟩ = some (.int .i64 d) := fun wr h => (h.cell (p := ⟨w.heap.size, 0, none⟩) (by simp <;> omega)).trans k5
    clear k0 k1 k2 k3 k4 k5 hz
    go_wp2_with (first
      | (go_at_call 10; (with_reducible refine (awake_any _).mono ?_); rintro e w1 ⟨rfl, hB1⟩)
      | (go_at_call 19; (with_reducible refine (ready_any d m _).mono ?_); rintro e w2 ⟨rfl, hb2⟩; rw [HR.out]; have hB2 := hB1.trans (hb2.mono hB1.size)))
    go_ret
    exact ⟨rfl, hW0.trans (hB2.mono hW0.size)⟩
  · have HR := Lib.hid hr
    obtain ⟨hl, hg⟩ := ready_iff.1 hr
    have hT := ht hg
    obtain ⟨hv, hdd⟩ := given_ok hg
    obtain ⟨V0, V1, R0, R1, F0, F1⟩ := valid_bds hv
    obtain ⟨d1, d2⟩ := inB_iff.1 hdd
    have t0 := hT.1
    have t1 := hT.2.1
    have HC := Lib.hid (Top_any d m t ht)
    have HK := Lib.hid (Knots_any d m t ht)
    have HG := Lib.hid hg
    have HT : Hid (topR d m t = t) := Lib.hid (by unfold topR; rw [if_pos hg])
    have z0 : decide (t < 0) = false := decide_eq_false (by omega)
    have z1 : decide (m.spd < t) = false := decide_eq_false (by omega)
    have HKL := Lib.hid (knots_len d m t)
    have HTop := Lib.hid hT
    clear hr hl hv hdd ht hg
    by_cases dz : d = 0
    · have HLN : Hid ((knotsL d m.rise m.fall t).length = 1) := Lib.hid (by rw [HKL.out, if_pos dz])
      have HTZ : Hid (t = 0) := Lib.hid (top_unique (by omega) (by omega) hT (by rw [dz]; exact top_zero (by omega) (by omega) (by omega)))
      have z2 : (d == 0) = true := by simpa using dz
      have z3 : (t == 0) = true := by rw [HTZ.out]; rfl
      clear hT dz
      go_enter Try.func6, Try.ntmps6
      go_upto_region 1 with (fail)
      have k0 : ((w.alloc (.cells #[.int .i64 d] 3)).alloc (.cells #[.string m.name, .int .i64 m.to, .int .i64 m.spd, .int .i64 m.rise, .int .i64 m.fall] 23)).cell? ⟨w.heap.size + 1, 0, none⟩ = some (.string m.name) := by simp
      have k1 : ((w.alloc (.cells #[.int .i64 d] 3)).alloc (.cells #[.string m.name, .int .i64 m.to, .int .i64 m.spd, .int .i64 m.rise, .int .i64 m.fall] 23)).cell? ⟨w.heap.size + 1, 1, none⟩ = some (.int .i64 m.to) := by simp
      have k2 : ((w.alloc (.cells #[.int .i64 d] 3)).alloc (.cells #[.string m.name, .int .i64 m.to, .int .i64 m.spd, .int .i64 m.rise, .int .i64 m.fall] 23)).cell? ⟨w.heap.size + 1, 2, none⟩ = some (.int .i64 m.spd) := by simp
      have k3 : ((w.alloc (.cells #[.int .i64 d] 3)).alloc (.cells #[.string m.name, .int .i64 m.to, .int .i64 m.spd, .int .i64 m.rise, .int .i64 m.fall] 23)).cell? ⟨w.heap.size + 1, 3, none⟩ = some (.int .i64 m.rise) := by simp
      have k4 : ((w.alloc (.cells #[.int .i64 d] 3)).alloc (.cells #[.string m.name, .int .i64 m.to, .int .i64 m.spd, .int .i64 m.rise, .int .i64 m.fall] 23)).cell? ⟨w.heap.size + 1, 4, none⟩ = some (.int .i64 m.fall) := by simp
      have k5 : ((w.alloc (.cells #[.int .i64 d] 3)).alloc (.cells #[.string m.name, .int .i64 m.to, .int .i64 m.spd, .int .i64 m.rise, .int .i64 m.fall] 23)).cell? ⟨w.heap.size, 0, none⟩ = some (.int .i64 d) := by simp
      have hz : w.heap.size + 1 < ((w.alloc (.cells #[.int .i64 d] 3)).alloc (.cells #[.string m.name, .int .i64 m.to, .int .i64 m.spd, .int .i64 m.rise, .int .i64 m.fall] 23)).heap.size := by simp
      have hW0 : Below w.heap.size w ((w.alloc (.cells #[.int .i64 d] 3)).alloc (.cells #[.string m.name, .int .i64 m.to, .int .i64 m.spd, .int .i64 m.rise, .int .i64 m.fall] 23)) := (below_new _ _).alloc (by simp) _
      generalize ((w.alloc (.cells #[.int .i64 d] 3)).alloc (.cells #[.string m.name, .int .i64 m.to, .int .i64 m.spd, .int .i64 m.rise, .int .i64 m.fall] 23)) = W0 at *
      have x0 : ∀ wr, Below W0.heap.size W0 wr → wr.cell? ⟨w.heap.size + 1, 0, none⟩ = some (.string m.name) := fun wr h => (h.cell (p := ⟨w.heap.size + 1, 0, none⟩) hz).trans k0
      have x1 : ∀ wr, Below W0.heap.size W0 wr → wr.cell? ⟨w.heap.size + 1, 1, none⟩ = some (.int .i64 m.to) := fun wr h => (h.cell (p := ⟨w.heap.size + 1, 1, none⟩) hz).trans k1
      have x2 : ∀ wr, Below W0.heap.size W0 wr → wr.cell? ⟨w.heap.size + 1, 2, none⟩ = some (.int .i64 m.spd) := fun wr h => (h.cell (p := ⟨w.heap.size + 1, 2, none⟩) hz).trans k2
      have x3 : ∀ wr, Below W0.heap.size W0 wr → wr.cell? ⟨w.heap.size + 1, 3, none⟩ = some (.int .i64 m.rise) := fun wr h => (h.cell (p := ⟨w.heap.size + 1, 3, none⟩) hz).trans k3
      have x4 : ∀ wr, Below W0.heap.size W0 wr → wr.cell? ⟨w.heap.size + 1, 4, none⟩ = some (.int .i64 m.fall) := fun wr h => (h.cell (p := ⟨w.heap.size + 1, 4, none⟩) hz).trans k4
      have x5 : ∀ wr, Below W0.heap.size W0 wr → wr.cell? ⟨w.heap.size, 0, none⟩ = some (.int .i64 d) := fun wr h => (h.cell (p := ⟨w.heap.size, 0, none⟩) (by simp <;> omega)).trans k5
      clear k0 k1 k2 k3 k4 k5 hz
      go_wp2_with (first
        | (go_at_call 10; (with_reducible refine (awake_any _).mono ?_); rintro e w1 ⟨rfl, hB1⟩)
        | (go_at_call 19; (with_reducible refine (ready_any d m _).mono ?_); rintro e w2 ⟨rfl, hb2⟩; rw [HR.out]; have hB2 := hB1.trans (hb2.mono hB1.size))
        | (go_at_call 11; (with_reducible refine (HC.out _).mono ?_); rintro e w3 ⟨rfl, hb3⟩; rw [HT.out, HG.out]; have hB3 := hB2.trans (hb3.mono hB2.size))
        | (go_at_call 22; (with_reducible refine (HK.out _).mono ?_); rintro e w4 ⟨hv, hb4⟩; obtain ⟨v, rfl, hrow⟩ := hv.out; rw [HG.out]; have hr1 := hrow.1 HG.out; obtain ⟨pa, pcap, hve, _, _, _, _⟩ := fr_of_row hr1; rw [HLN.out] at hve; subst hve; have hB4 := hB3.trans (hb4.mono hB3.size); clear hv hrow hr1))
      go_ret
      exact ⟨rfl, hW0.trans (hB4.mono hW0.size)⟩
    · have z2 : (d == 0) = false := by simpa using dz
      have tp := top_pos (show 1 ≤ d by omega) R0 F0 V0 hT
      have z3 : decide (1 ≤ t) = true := decide_eq_true tp
      have z4 : IntKind.i64.wrap (t + 1) = t + 1 := IntWalk.i64_in _ (by omega)
      have HN1 := Lib.hid (need_any d m t true HG.out t0 (by omega) ⟨fun _ => rfl, fun _ => hT.2.2.1⟩)
      obtain ⟨B1, B2, B3, B4, _, _, _, _, _, B5, B6⟩ := room_bd (d := d) (R := m.rise) (F := m.fall) (w := t) d1 d2 (by omega) R1 (by omega) F1 t0 (by omega)
      have B7 : 2 * m.rise * m.fall * d ≤ 536870912 * 1048576 := Int.mul_le_mul B6 d2 d1 (by decide)
      have B8 := Int.mul_nonneg B5 d1
      have s4 : IntKind.i64.wrap (t * t) = t * t := IntWalk.i64_in _ (by omega)
      have s5 : IntKind.i64.wrap (m.rise + m.fall) = m.rise + m.fall := IntWalk.i64_in _ (by omega)
      have s6 : IntKind.i64.wrap (t * t * (m.rise + m.fall)) = t * t * (m.rise + m.fall) := IntWalk.i64_in _ (by omega)
      have s7 : IntKind.i64.wrap (2 * m.rise) = 2 * m.rise := IntWalk.i64_in _ (by omega)
      have s8 : IntKind.i64.wrap (2 * m.rise * m.fall) = 2 * m.rise * m.fall := IntWalk.i64_in _ (by omega)
      have s9 : IntKind.i64.wrap (2 * m.rise * m.fall * d) = 2 * m.rise * m.fall * d := IntWalk.i64_in _ (by omega)
      have hk : kP d m.rise m.fall t = 2 * m.rise * m.fall * d - t * t * (m.rise + m.fall) := rfl
      obtain ⟨n, q, hnq, hq⟩ : ∃ (n : Nat) (q : Bool), (q = true ∧ n = 3 ∨ q = false ∧ n = 4) ∧ (knotsL d m.rise m.fall t).length = n ∧ (t * t * (m.rise + m.fall) == 2 * m.rise * m.fall * d) = q := by
        rw [HKL.out, if_neg dz]
        by_cases c : kP d m.rise m.fall t = 0
        · exact ⟨3, true, .inl ⟨rfl, rfl⟩, by rw [if_pos c], by rw [beq_iff_eq]; omega⟩
        · exact ⟨4, false, .inr ⟨rfl, rfl⟩, by rw [if_neg c], by rw [beq_eq_false_iff_ne]; omega⟩
      have HLN := Lib.hid hq.1
      have z6 := hq.2
      clear hq hk B1 B2 B3 B4 B5 B6 B7 B8 dz
      by_cases ts : t = m.spd
      · have z5 : (t == m.spd) = true := by simpa using ts
        clear ts hT
        rcases hnq with ⟨rfl, rfl⟩ | ⟨rfl, rfl⟩
        all_goals
          go_enter Try.func6, Try.ntmps6
          go_upto_region 1 with (fail)
          have k0 : ((w.alloc (.cells #[.int .i64 d] 3)).alloc (.cells #[.string m.name, .int .i64 m.to, .int .i64 m.spd, .int .i64 m.rise, .int .i64 m.fall] 23)).cell? ⟨w.heap.size + 1, 0, none⟩ = some (.string m.name) := by simp
          have k1 : ((w.alloc (.cells #[.int .i64 d] 3)).alloc (.cells #[.string m.name, .int .i64 m.to, .int .i64 m.spd, .int .i64 m.rise, .int .i64 m.fall] 23)).cell? ⟨w.heap.size + 1, 1, none⟩ = some (.int .i64 m.to) := by simp
          have k2 : ((w.alloc (.cells #[.int .i64 d] 3)).alloc (.cells #[.string m.name, .int .i64 m.to, .int .i64 m.spd, .int .i64 m.rise, .int .i64 m.fall] 23)).cell? ⟨w.heap.size + 1, 2, none⟩ = some (.int .i64 m.spd) := by simp
          have k3 : ((w.alloc (.cells #[.int .i64 d] 3)).alloc (.cells #[.string m.name, .int .i64 m.to, .int .i64 m.spd, .int .i64 m.rise, .int .i64 m.fall] 23)).cell? ⟨w.heap.size + 1, 3, none⟩ = some (.int .i64 m.rise) := by simp
          have k4 : ((w.alloc (.cells #[.int .i64 d] 3)).alloc (.cells #[.string m.name, .int .i64 m.to, .int .i64 m.spd, .int .i64 m.rise, .int .i64 m.fall] 23)).cell? ⟨w.heap.size + 1, 4, none⟩ = some (.int .i64 m.fall) := by simp
          have k5 : ((w.alloc (.cells #[.int .i64 d] 3)).alloc (.cells #[.string m.name, .int .i64 m.to, .int .i64 m.spd, .int .i64 m.rise, .int .i64 m.fall] 23)).cell? ⟨w.heap.size, 0, none⟩ = some (.int .i64 d) := by simp
          have hz : w.heap.size + 1 < ((w.alloc (.cells #[.int .i64 d] 3)).alloc (.cells #[.string m.name, .int .i64 m.to, .int .i64 m.spd, .int .i64 m.rise, .int .i64 m.fall] 23)).heap.size := by simp
          have hW0 : Below w.heap.size w ((w.alloc (.cells #[.int .i64 d] 3)).alloc (.cells #[.string m.name, .int .i64 m.to, .int .i64 m.spd, .int .i64 m.rise, .int .i64 m.fall] 23)) := (below_new _ _).alloc (by simp) _
          generalize ((w.alloc (.cells #[.int .i64 d] 3)).alloc (.cells #[.string m.name, .int .i64 m.to, .int .i64 m.spd, .int .i64 m.rise, .int .i64 m.fall] 23)) = W0 at *
          have x0 : ∀ wr, Below W0.heap.size W0 wr → wr.cell? ⟨w.heap.size + 1, 0, none⟩ = some (.string m.name) := fun wr h => (h.cell (p := ⟨w.heap.size + 1, 0, none⟩) hz).trans k0
          have x1 : ∀ wr, Below W0.heap.size W0 wr → wr.cell? ⟨w.heap.size + 1, 1, none⟩ = some (.int .i64 m.to) := fun wr h => (h.cell (p := ⟨w.heap.size + 1, 1, none⟩) hz).trans k1
          have x2 : ∀ wr, Below W0.heap.size W0 wr → wr.cell? ⟨w.heap.size + 1, 2, none⟩ = some (.int .i64 m.spd) := fun wr h => (h.cell (p := ⟨w.heap.size + 1, 2, none⟩) hz).trans k2
          have x3 : ∀ wr, Below W0.heap.size W0 wr → wr.cell? ⟨w.heap.size + 1, 3, none⟩ = some (.int .i64 m.rise) := fun wr h => (h.cell (p := ⟨w.heap.size + 1, 3, none⟩) hz).trans k3
          have x4 : ∀ wr, Below W0.heap.size W0 wr → wr.cell? ⟨w.heap.size + 1, 4, none⟩ = some (.int .i64 m.fall) := fun wr h => (h.cell (p := ⟨w.heap.size + 1, 4, none⟩) hz).trans k4
          have x5 : ∀ wr, Below W0.heap.size W0 wr → wr.cell? ⟨w.heap.size, 0, none⟩ = some (.int .i64 d) := fun wr h => (h.cell (p := ⟨w.heap.size, 0, none⟩) (by simp <;> omega)).trans k5
          clear k0 k1 k2 k3 k4 k5 hz
          go_wp2_with (first
            | (go_at_call 10; (with_reducible refine (awake_any _).mono ?_); rintro e w1 ⟨rfl, hB1⟩)
            | (go_at_call 19; (with_reducible refine (ready_any d m _).mono ?_); rintro e w2 ⟨rfl, hb2⟩; rw [HR.out]; have hB2 := hB1.trans (hb2.mono hB1.size))
            | (go_at_call 11; (with_reducible refine (HC.out _).mono ?_); rintro e w3 ⟨rfl, hb3⟩; rw [HT.out, HG.out]; have hB3 := hB2.trans (hb3.mono hB2.size))
            | (go_at_call 22; (with_reducible refine (HK.out _).mono ?_); rintro e w4 ⟨hv, hb4⟩; obtain ⟨v, rfl, hrow⟩ := hv.out; rw [HG.out]; have hr1 := hrow.1 HG.out; obtain ⟨pa, pcap, hve, _, _, _, _⟩ := fr_of_row hr1; rw [HLN.out] at hve; subst hve; have hB4 := hB3.trans (hb4.mono hB3.size); clear hv hrow hr1)
            | (go_at_call 23; (with_reducible refine (HN1.out _ _ _ (x3 _ hB4) (x4 _ hB4) (x5 _ hB4)).mono ?_); rintro e w' ⟨rfl, rfl⟩))
          go_ret
          exact ⟨rfl, hW0.trans (hB4.mono hW0.size)⟩
      · have z5 : (t == m.spd) = false := by simpa using ts
        have HN2 := Lib.hid (need_any d m (t + 1) false HG.out (by omega) (by omega) ⟨fun h => by rcases hT.2.2.2 with e | e; exact absurd e ts; exact absurd h e, fun h => by cases h⟩)
        clear ts hT
        rcases hnq with ⟨rfl, rfl⟩ | ⟨rfl, rfl⟩
        all_goals
          go_enter Try.func6, Try.ntmps6
          go_upto_region 1 with (fail)
          have k0 : ((w.alloc (.cells #[.int .i64 d] 3)).alloc (.cells #[.string m.name, .int .i64 m.to, .int .i64 m.spd, .int .i64 m.rise, .int .i64 m.fall] 23)).cell? ⟨w.heap.size + 1, 0, none⟩ = some (.string m.name) := by simp
          have k1 : ((w.alloc (.cells #[.int .i64 d] 3)).alloc (.cells #[.string m.name, .int .i64 m.to, .int .i64 m.spd, .int .i64 m.rise, .int .i64 m.fall] 23)).cell? ⟨w.heap.size + 1, 1, none⟩ = some (.int .i64 m.to) := by simp
          have k2 : ((w.alloc (.cells #[.int .i64 d] 3)).alloc (.cells #[.string m.name, .int .i64 m.to, .int .i64 m.spd, .int .i64 m.rise, .int .i64 m.fall] 23)).cell? ⟨w.heap.size + 1, 2, none⟩ = some (.int .i64 m.spd) := by simp
          have k3 : ((w.alloc (.cells #[.int .i64 d] 3)).alloc (.cells #[.string m.name, .int .i64 m.to, .int .i64 m.spd, .int .i64 m.rise, .int .i64 m.fall] 23)).cell? ⟨w.heap.size + 1, 3, none⟩ = some (.int .i64 m.rise) := by simp
          have k4 : ((w.alloc (.cells #[.int .i64 d] 3)).alloc (.cells #[.string m.name, .int .i64 m.to, .int .i64 m.spd, .int .i64 m.rise, .int .i64 m.fall] 23)).cell? ⟨w.heap.size + 1, 4, none⟩ = some (.int .i64 m.fall) := by simp
          have k5 : ((w.alloc (.cells #[.int .i64 d] 3)).alloc (.cells #[.string m.name, .int .i64 m.to, .int .i64 m.spd, .int .i64 m.rise, .int .i64 m.fall] 23)).cell? ⟨w.heap.size, 0, none⟩ = some (.int .i64 d) := by simp
          have hz : w.heap.size + 1 < ((w.alloc (.cells #[.int .i64 d] 3)).alloc (.cells #[.string m.name, .int .i64 m.to, .int .i64 m.spd, .int .i64 m.rise, .int .i64 m.fall] 23)).heap.size := by simp
          have hW0 : Below w.heap.size w ((w.alloc (.cells #[.int .i64 d] 3)).alloc (.cells #[.string m.name, .int .i64 m.to, .int .i64 m.spd, .int .i64 m.rise, .int .i64 m.fall] 23)) := (below_new _ _).alloc (by simp) _
          generalize ((w.alloc (.cells #[.int .i64 d] 3)).alloc (.cells #[.string m.name, .int .i64 m.to, .int .i64 m.spd, .int .i64 m.rise, .int .i64 m.fall] 23)) = W0 at *
          have x0 : ∀ wr, Below W0.heap.size W0 wr → wr.cell? ⟨w.heap.size + 1, 0, none⟩ = some (.string m.name) := fun wr h => (h.cell (p := ⟨w.heap.size + 1, 0, none⟩) hz).trans k0
          have x1 : ∀ wr, Below W0.heap.size W0 wr → wr.cell? ⟨w.heap.size + 1, 1, none⟩ = some (.int .i64 m.to) := fun wr h => (h.cell (p := ⟨w.heap.size + 1, 1, none⟩) hz).trans k1
          have x2 : ∀ wr, Below W0.heap.size W0 wr → wr.cell? ⟨w.heap.size + 1, 2, none⟩ = some (.int .i64 m.spd) := fun wr h => (h.cell (p := ⟨w.heap.size + 1, 2, none⟩) hz).trans k2
          have x3 : ∀ wr, Below W0.heap.size W0 wr → wr.cell? ⟨w.heap.size + 1, 3, none⟩ = some (.int .i64 m.rise) := fun wr h => (h.cell (p := ⟨w.heap.size + 1, 3, none⟩) hz).trans k3
          have x4 : ∀ wr, Below W0.heap.size W0 wr → wr.cell? ⟨w.heap.size + 1, 4, none⟩ = some (.int .i64 m.fall) := fun wr h => (h.cell (p := ⟨w.heap.size + 1, 4, none⟩) hz).trans k4
          have x5 : ∀ wr, Below W0.heap.size W0 wr → wr.cell? ⟨w.heap.size, 0, none⟩ = some (.int .i64 d) := fun wr h => (h.cell (p := ⟨w.heap.size, 0, none⟩) (by simp <;> omega)).trans k5
          clear k0 k1 k2 k3 k4 k5 hz
          go_wp2_with (first
            | (go_at_call 10; (with_reducible refine (awake_any _).mono ?_); rintro e w1 ⟨rfl, hB1⟩)
            | (go_at_call 19; (with_reducible refine (ready_any d m _).mono ?_); rintro e w2 ⟨rfl, hb2⟩; rw [HR.out]; have hB2 := hB1.trans (hb2.mono hB1.size))
            | (go_at_call 11; (with_reducible refine (HC.out _).mono ?_); rintro e w3 ⟨rfl, hb3⟩; rw [HT.out, HG.out]; have hB3 := hB2.trans (hb3.mono hB2.size))
            | (go_at_call 22; (with_reducible refine (HK.out _).mono ?_); rintro e w4 ⟨hv, hb4⟩; obtain ⟨v, rfl, hrow⟩ := hv.out; rw [HG.out]; have hr1 := hrow.1 HG.out; obtain ⟨pa, pcap, hve, _, _, _, _⟩ := fr_of_row hr1; rw [HLN.out] at hve; subst hve; have hB4 := hB3.trans (hb4.mono hB3.size); clear hv hrow hr1)
            | (go_at_call 23; (with_reducible refine (HN1.out _ _ _ (x3 _ hB4) (x4 _ hB4) (x5 _ hB4)).mono ?_); rintro e w' ⟨rfl, rfl⟩)
            | (go_at_call 23; (with_reducible refine (HN2.out _ _ _ (x3 _ hB4) (x4 _ hB4) (x5 _ hB4)).mono ?_); rintro e w' ⟨rfl, rfl⟩))
          go_ret
          exact ⟨rfl, hW0.trans (hB4.mono hW0.size)⟩
end Go.Proofs.Ytlgpolfbilkmbaa
namespace Go.Proofs.Ytlgpolfbilkmbaa
open Go.RowKit Go.Shelf
noncomputable def reCode (n : Nat) : Code := ((Try.f8.body.bind (regionIn n)).getD .skip)
set_option maxRecDepth 100000 in
set_option maxHeartbeats 8000000 in
theorem reR12 {T : Int × Int} {Y : Int × Int × Int} {Bt : Nat} {W5 : World} {u0 u1 u2 u3 u4 u5 u6 u7 u8 u9 u10 u12 u13 u14 u15 u16 u17 u18 u19 u20 u21 u22 u23 u24 u25 u26 u27 u28 u29 u30 u31 u32 u33 u34 u35 u36 u37 u38 u39 u40 u41 u42 u43 u44 u45 u46 u47 u48 u49 u50 u51 u52 u53 u54 u55 u56 u57 u58 u59 u60 u61 u62 u63 u64 u65 u66 u67 u68 u69 u70 u71 u72 u73 u74 u75 u76 u77 u78 u79 u80 u81 : Value} {R : List Value} {K : Act → World → Prop} {Q0 : Exit → Act → World → Prop}
    (HA : Hid (∀ w : World, Calls Try.prog 32 #[.agg #[.int .i64 T.1, .int .i64 T.2], .agg #[.int .i64 1000, .int .i64 1]] w fun e w' => e = .returned (.tuple #[.agg #[.int .i64 Y.1, .int .i64 Y.2.1], .int .i64 0]) ∧ Below w.heap.size w w')) (HS : Hid (∀ w', Below W5.heap.size W5 w' → W5.heap.size ≤ w'.heap.size ∧ w'.cell? ⟨Bt, 0, none⟩ = some (.int .i64 T.1) ∧ w'.cell? ⟨Bt, 1, none⟩ = some (.int .i64 T.2)))
    (hK : ∀ (v19 v20 v76 v77 v78 v79 v80 v81 : Value) (wx : World), (∃ B : Nat, v19 = .pointer (some ⟨B, 0, none⟩) ∧ v20 = .int .i64 0 ∧ W5.heap.size ≤ B ∧ Below W5.heap.size W5 wx ∧ FI wx B Y.1 Y.2.1) → K ⟨List.toArray (u0 :: u1 :: u2 :: u3 :: u4 :: u5 :: u6 :: u7 :: u8 :: u9 :: u10 :: .pointer (some ⟨Bt, 0, none⟩) :: u12 :: u13 :: u14 :: u15 :: u16 :: u17 :: u18 :: v19 :: v20 :: u21 :: u22 :: u23 :: u24 :: u25 :: u26 :: u27 :: u28 :: u29 :: u30 :: u31 :: u32 :: u33 :: u34 :: u35 :: u36 :: u37 :: u38 :: u39 :: u40 :: u41 :: u42 :: u43 :: u44 :: u45 :: u46 :: u47 :: u48 :: u49 :: u50 :: u51 :: u52 :: u53 :: u54 :: u55 :: u56 :: u57 :: u58 :: u59 :: u60 :: u61 :: u62 :: u63 :: u64 :: u65 :: u66 :: u67 :: u68 :: u69 :: u70 :: u71 :: u72 :: u73 :: u74 :: u75 :: v76 :: v77 :: v78 :: v79 :: v80 :: v81 :: R), []⟩ wx) :
    Code.wp Try.prog (reCode 12) (Exit.then K Q0) ⟨List.toArray (u0 :: u1 :: u2 :: u3 :: u4 :: u5 :: u6 :: u7 :: u8 :: u9 :: u10 :: .pointer (some ⟨Bt, 0, none⟩) :: u12 :: u13 :: u14 :: u15 :: u16 :: u17 :: u18 :: u19 :: u20 :: u21 :: u22 :: u23 :: u24 :: u25 :: u26 :: u27 :: u28 :: u29 :: u30 :: u31 :: u32 :: u33 :: u34 :: u35 :: u36 :: u37 :: u38 :: u39 :: u40 :: u41 :: u42 :: u43 :: u44 :: u45 :: u46 :: u47 :: u48 :: u49 :: u50 :: u51 :: u52 :: u53 :: u54 :: u55 :: u56 :: u57 :: u58 :: u59 :: u60 :: u61 :: u62 :: u63 :: u64 :: u65 :: u66 :: u67 :: u68 :: u69 :: u70 :: u71 :: u72 :: u73 :: u74 :: u75 :: u76 :: u77 :: u78 :: u79 :: u80 :: u81 :: R), []⟩ W5 := by
  conv => arg 2; whnf
  refine wp_region_noPanic ?_
  refine wp_region_held_drew (S := fun w' => W5.heap.size ≤ w'.heap.size ∧ w'.cell? ⟨Bt, 0, none⟩ = some (.int .i64 T.1) ∧ w'.cell? ⟨Bt, 1, none⟩ = some (.int .i64 T.2)) (by kernel_rfl) (HS.out _ (Below.refl _ _).drew) (fun hHeld => ?_)
  have hB0 := (Below.refl W5.heap.size W5).drew
  obtain ⟨w0, hw0⟩ : ∃ x, W5.drew = x := ⟨_, rfl⟩
  simp only [hw0] at hB0 hHeld ⊢
  clear hw0
  refine wpAnyH_take (i := 0) (oi := _) (v := ?_) (by simp only [List.getElem?_toArray, List.getElem?_cons_zero]; rfl) (by kernel_rfl) (by kernel_rfl) (by kernel_rfl) (fun _ _ _ h => h) (Or.inl ⟨by rfl, ?_⟩) (by assumption) ?_
  rotate_left
  · (intro w hSw; (try dsimp only at hSw); go_split_ands; go_simp; try with_reducible rfl)
  simp only [Act.put, List.setIfInBounds_toArray, List.set_cons_zero, List.set_cons_succ]
  refine wpAnyH_ready (rs := [1, 6]) (by kernel_rfl) (by simp) ?_
  refine AllReadyH.cons (o := _) (by simp only [List.getElem?_toArray, List.getElem?_cons_succ, List.getElem?_cons_zero]; rfl) (fun K hK => ?_) (AllReadyH.cons (o := _) (by simp only [List.getElem?_toArray, List.getElem?_cons_succ, List.getElem?_cons_zero]; rfl) (fun K hK => ?_) (AllReadyH.nil))
  · go_simp
    (go_at_call 30; go_split_ands; (with_reducible refine (of_any 1000 _).mono ?_); rintro e w1 ⟨rfl, hb1⟩)
    go_wp2_with fail
    have hB1 := hB0.trans (hb1.mono hB0.size)
    refine hK.out _ _ (HS.out _ hB1) (fun hHeld => ?_)
    clear hK K
    try simp only [Act.put, List.setIfInBounds_toArray, List.set_cons_zero, List.set_cons_succ]
    refine wpAnyH_ready (rs := [2, 6]) (by kernel_rfl) (by simp) ?_
    refine AllReadyH.cons (o := _) (by simp only [List.getElem?_toArray, List.getElem?_cons_succ, List.getElem?_cons_zero]; rfl) (fun K hK => ?_) (AllReadyH.cons (o := _) (by simp only [List.getElem?_toArray, List.getElem?_cons_succ, List.getElem?_cons_zero]; rfl) (fun K hK => ?_) (AllReadyH.nil))
    · go_simp
      (go_at_call 32; go_split_ands; (with_reducible refine (HA.out _).mono ?_); rintro e w2 ⟨rfl, hb2⟩)
      go_wp2_with fail
      have hB2 := hB1.trans (hb2.mono hB1.size)
      refine hK.out _ _ (HS.out _ hB2) (fun hHeld => ?_)
      clear hK K
      try simp only [Act.put, List.setIfInBounds_toArray, List.set_cons_zero, List.set_cons_succ]
      refine wpAnyH_take (i := 3) (oi := _) (v := ?_) (by simp only [List.getElem?_toArray, List.getElem?_cons_succ, List.getElem?_cons_zero]; rfl) (by kernel_rfl) (by kernel_rfl) (by kernel_rfl) (fun _ _ _ h => h) (Or.inl ⟨by rfl, ?_⟩) (by assumption) ?_
      rotate_left
      · (intro w hSw; (try dsimp only at hSw); go_split_ands; go_simp; try with_reducible rfl)
      simp only [Act.put, List.setIfInBounds_toArray, List.set_cons_zero, List.set_cons_succ]
      refine wpAnyH_take (i := 4) (oi := _) (v := ?_) (by simp only [List.getElem?_toArray, List.getElem?_cons_succ, List.getElem?_cons_zero]; rfl) (by kernel_rfl) (by kernel_rfl) (by kernel_rfl) (fun _ _ _ h => h) (Or.inl ⟨by rfl, ?_⟩) (by assumption) ?_
      rotate_left
      · (intro w hSw; (try dsimp only at hSw); go_split_ands; go_simp; try with_reducible rfl)
      simp only [Act.put, List.setIfInBounds_toArray, List.set_cons_zero, List.set_cons_succ]
      refine wpAnyH_take (i := 5) (oi := _) (v := ?_) (by simp only [List.getElem?_toArray, List.getElem?_cons_succ, List.getElem?_cons_zero]; rfl) (by kernel_rfl) (by kernel_rfl) (by kernel_rfl) (fun _ _ _ h => h) (Or.inl ⟨by rfl, ?_⟩) (by assumption) ?_
      rotate_left
      · (intro w hSw; (try dsimp only at hSw); go_split_ands; go_simp; try with_reducible rfl)
      simp only [Act.put, List.setIfInBounds_toArray, List.set_cons_zero, List.set_cons_succ]
      refine wpAnyH_ready (rs := [6]) (by kernel_rfl) (by simp) ?_
      refine AllReadyH.cons (o := _) (by simp only [List.getElem?_toArray, List.getElem?_cons_succ, List.getElem?_cons_zero]; rfl) (fun K hK => ?_) (AllReadyH.nil)
      rw [if_pos (by rfl)]
      go_split_ands
      go_wp2_with fail
      have hB3 := below_a (.cells #[.int .i64 0, .int .i64 0] 39) hB2
      have FBy := FI.new w2 39
      obtain ⟨By, hBy⟩ : ∃ b, w2.heap.size = b := ⟨_, rfl⟩
      have hloBy : W5.heap.size ≤ By := by have := hB2.size; omega
      simp only [hBy] at FBy ⊢
      generalize w2.alloc (.cells #[.int .i64 0, .int .i64 0] 39) = w3 at *
      refine hK.out _ _ (HS.out _ hB3) (fun hHeld => ?_)
      clear hK K
      try simp only [Act.put, List.setIfInBounds_toArray, List.set_cons_zero, List.set_cons_succ]
      have bltBy := FBy.2.2.2.2
      refine wpAnyH_ready (rs := [7]) (by kernel_rfl) (by simp) ?_
      refine AllReadyH.cons (o := _) (by simp only [List.getElem?_toArray, List.getElem?_cons_succ, List.getElem?_cons_zero]; rfl) (fun K hK => ?_) (AllReadyH.nil)
      rw [if_pos (by rfl)]
      go_split_ands
      obtain ⟨fa, fb, fc, fd, fe⟩ := FBy
      go_wp2_with fail
      have hB4 := below_s ⟨By, 1, none⟩ (.int .i64 (Y.2.1)) (below_s ⟨By, 0, none⟩ (.int .i64 (Y.1)) hB3 hloBy) hloBy
      have FBy := FI.set ⟨fa, fb, fc, fd, fe⟩ (Y.1) (Y.2.1)
      clear fa fb fc fd fe
      generalize ((w3.setCell ⟨By, 0, none⟩ (.int .i64 (Y.1))).setCell ⟨By, 1, none⟩ (.int .i64 (Y.2.1))) = w4 at *
      refine hK.out _ _ (HS.out _ hB4) (fun hHeld => ?_)
      clear hK K
      try simp only [Act.put, List.setIfInBounds_toArray, List.set_cons_zero, List.set_cons_succ]
      have bltBy := FBy.2.2.2.2
      refine wpAnyH_take (i := 8) (oi := _) (v := ?_) (by simp only [List.getElem?_toArray, List.getElem?_cons_succ, List.getElem?_cons_zero]; rfl) (by kernel_rfl) (by kernel_rfl) (by kernel_rfl) (fun _ _ _ h => h) (Or.inl ⟨by rfl, ?_⟩) (by assumption) ?_
      rotate_left
      · (intro w hSw; (try dsimp only at hSw); go_split_ands; go_simp; try with_reducible rfl)
      simp only [Act.put, List.setIfInBounds_toArray, List.set_cons_zero, List.set_cons_succ]
      refine wpAnyH_done (by kernel_rfl) ?_ _
      have hB := hB4
      exact hK _ _ _ _ _ _ _ _ _ ⟨By, rfl, rfl, hloBy, hB, FBy⟩
    · rw [if_pos (by rfl)]
      go_split_ands
      go_wp2_with fail
      have hB2 := below_a (.cells #[.int .i64 0, .int .i64 0] 39) hB1
      have FBy := FI.new w1 39
      obtain ⟨By, hBy⟩ : ∃ b, w1.heap.size = b := ⟨_, rfl⟩
      have hloBy : W5.heap.size ≤ By := by have := hB1.size; omega
      simp only [hBy] at FBy ⊢
      generalize w1.alloc (.cells #[.int .i64 0, .int .i64 0] 39) = w2 at *
      refine hK.out _ _ (HS.out _ hB2) (fun hHeld => ?_)
      clear hK K
      try simp only [Act.put, List.setIfInBounds_toArray, List.set_cons_zero, List.set_cons_succ]
      have bltBy := FBy.2.2.2.2
      refine wpAnyH_ready (rs := [2]) (by kernel_rfl) (by simp) ?_
      refine AllReadyH.cons (o := _) (by simp only [List.getElem?_toArray, List.getElem?_cons_succ, List.getElem?_cons_zero]; rfl) (fun K hK => ?_) (AllReadyH.nil)
      go_simp
      (go_at_call 32; go_split_ands; (with_reducible refine (HA.out _).mono ?_); rintro e w3 ⟨rfl, hb3⟩)
      go_wp2_with fail
      have hB3 := hB2.trans (hb3.mono hB2.size)
      have FBy := FBy.carry hb3
      refine hK.out _ _ (HS.out _ hB3) (fun hHeld => ?_)
      clear hK K
      try simp only [Act.put, List.setIfInBounds_toArray, List.set_cons_zero, List.set_cons_succ]
      have bltBy := FBy.2.2.2.2
      refine wpAnyH_take (i := 3) (oi := _) (v := ?_) (by simp only [List.getElem?_toArray, List.getElem?_cons_succ, List.getElem?_cons_zero]; rfl) (by kernel_rfl) (by kernel_rfl) (by kernel_rfl) (fun _ _ _ h => h) (Or.inl ⟨by rfl, ?_⟩) (by assumption) ?_
      rotate_left
      · (intro w hSw; (try dsimp only at hSw); go_split_ands; go_simp; try with_reducible rfl)
      simp only [Act.put, List.setIfInBounds_toArray, List.set_cons_zero, List.set_cons_succ]
      refine wpAnyH_take (i := 4) (oi := _) (v := ?_) (by simp only [List.getElem?_toArray, List.getElem?_cons_succ, List.getElem?_cons_zero]; rfl) (by kernel_rfl) (by kernel_rfl) (by kernel_rfl) (fun _ _ _ h => h) (Or.inl ⟨by rfl, ?_⟩) (by assumption) ?_
      rotate_left
      · (intro w hSw; (try dsimp only at hSw); go_split_ands; go_simp; try with_reducible rfl)
      simp only [Act.put, List.setIfInBounds_toArray, List.set_cons_zero, List.set_cons_succ]
      refine wpAnyH_take (i := 5) (oi := _) (v := ?_) (by simp only [List.getElem?_toArray, List.getElem?_cons_succ, List.getElem?_cons_zero]; rfl) (by kernel_rfl) (by kernel_rfl) (by kernel_rfl) (fun _ _ _ h => h) (Or.inl ⟨by rfl, ?_⟩) (by assumption) ?_
      rotate_left
      · (intro w hSw; (try dsimp only at hSw); go_split_ands; go_simp; try with_reducible rfl)
      simp only [Act.put, List.setIfInBounds_toArray, List.set_cons_zero, List.set_cons_succ]
      refine wpAnyH_ready (rs := [7]) (by kernel_rfl) (by simp) ?_
      refine AllReadyH.cons (o := _) (by simp only [List.getElem?_toArray, List.getElem?_cons_succ, List.getElem?_cons_zero]; rfl) (fun K hK => ?_) (AllReadyH.nil)
      rw [if_pos (by rfl)]
      go_split_ands
      obtain ⟨fa, fb, fc, fd, fe⟩ := FBy
      go_wp2_with fail
      have hB4 := below_s ⟨By, 1, none⟩ (.int .i64 (Y.2.1)) (below_s ⟨By, 0, none⟩ (.int .i64 (Y.1)) hB3 hloBy) hloBy
      have FBy := FI.set ⟨fa, fb, fc, fd, fe⟩ (Y.1) (Y.2.1)
      clear fa fb fc fd fe
      generalize ((w3.setCell ⟨By, 0, none⟩ (.int .i64 (Y.1))).setCell ⟨By, 1, none⟩ (.int .i64 (Y.2.1))) = w4 at *
      refine hK.out _ _ (HS.out _ hB4) (fun hHeld => ?_)
      clear hK K
      try simp only [Act.put, List.setIfInBounds_toArray, List.set_cons_zero, List.set_cons_succ]
      have bltBy := FBy.2.2.2.2
      refine wpAnyH_take (i := 8) (oi := _) (v := ?_) (by simp only [List.getElem?_toArray, List.getElem?_cons_succ, List.getElem?_cons_zero]; rfl) (by kernel_rfl) (by kernel_rfl) (by kernel_rfl) (fun _ _ _ h => h) (Or.inl ⟨by rfl, ?_⟩) (by assumption) ?_
      rotate_left
      · (intro w hSw; (try dsimp only at hSw); go_split_ands; go_simp; try with_reducible rfl)
      simp only [Act.put, List.setIfInBounds_toArray, List.set_cons_zero, List.set_cons_succ]
      refine wpAnyH_done (by kernel_rfl) ?_ _
      have hB := hB4
      exact hK _ _ _ _ _ _ _ _ _ ⟨By, rfl, rfl, hloBy, hB, FBy⟩
  · rw [if_pos (by rfl)]
    go_split_ands
    go_wp2_with fail
    have hB1 := below_a (.cells #[.int .i64 0, .int .i64 0] 39) hB0
    have FBy := FI.new w0 39
    obtain ⟨By, hBy⟩ : ∃ b, w0.heap.size = b := ⟨_, rfl⟩
    have hloBy : W5.heap.size ≤ By := by have := hB0.size; omega
    simp only [hBy] at FBy ⊢
    generalize w0.alloc (.cells #[.int .i64 0, .int .i64 0] 39) = w1 at *
    refine hK.out _ _ (HS.out _ hB1) (fun hHeld => ?_)
    clear hK K
    try simp only [Act.put, List.setIfInBounds_toArray, List.set_cons_zero, List.set_cons_succ]
    have bltBy := FBy.2.2.2.2
    refine wpAnyH_ready (rs := [1]) (by kernel_rfl) (by simp) ?_
    refine AllReadyH.cons (o := _) (by simp only [List.getElem?_toArray, List.getElem?_cons_succ, List.getElem?_cons_zero]; rfl) (fun K hK => ?_) (AllReadyH.nil)
    go_simp
    (go_at_call 30; go_split_ands; (with_reducible refine (of_any 1000 _).mono ?_); rintro e w2 ⟨rfl, hb2⟩)
    go_wp2_with fail
    have hB2 := hB1.trans (hb2.mono hB1.size)
    have FBy := FBy.carry hb2
    refine hK.out _ _ (HS.out _ hB2) (fun hHeld => ?_)
    clear hK K
    try simp only [Act.put, List.setIfInBounds_toArray, List.set_cons_zero, List.set_cons_succ]
    have bltBy := FBy.2.2.2.2
    refine wpAnyH_ready (rs := [2]) (by kernel_rfl) (by simp) ?_
    refine AllReadyH.cons (o := _) (by simp only [List.getElem?_toArray, List.getElem?_cons_succ, List.getElem?_cons_zero]; rfl) (fun K hK => ?_) (AllReadyH.nil)
    go_simp
    (go_at_call 32; go_split_ands; (with_reducible refine (HA.out _).mono ?_); rintro e w3 ⟨rfl, hb3⟩)
    go_wp2_with fail
    have hB3 := hB2.trans (hb3.mono hB2.size)
    have FBy := FBy.carry hb3
    refine hK.out _ _ (HS.out _ hB3) (fun hHeld => ?_)
    clear hK K
    try simp only [Act.put, List.setIfInBounds_toArray, List.set_cons_zero, List.set_cons_succ]
    have bltBy := FBy.2.2.2.2
    refine wpAnyH_take (i := 3) (oi := _) (v := ?_) (by simp only [List.getElem?_toArray, List.getElem?_cons_succ, List.getElem?_cons_zero]; rfl) (by kernel_rfl) (by kernel_rfl) (by kernel_rfl) (fun _ _ _ h => h) (Or.inl ⟨by rfl, ?_⟩) (by assumption) ?_
    rotate_left
    · (intro w hSw; (try dsimp only at hSw); go_split_ands; go_simp; try with_reducible rfl)
    simp only [Act.put, List.setIfInBounds_toArray, List.set_cons_zero, List.set_cons_succ]
    refine wpAnyH_take (i := 4) (oi := _) (v := ?_) (by simp only [List.getElem?_toArray, List.getElem?_cons_succ, List.getElem?_cons_zero]; rfl) (by kernel_rfl) (by kernel_rfl) (by kernel_rfl) (fun _ _ _ h => h) (Or.inl ⟨by rfl, ?_⟩) (by assumption) ?_
    rotate_left
    · (intro w hSw; (try dsimp only at hSw); go_split_ands; go_simp; try with_reducible rfl)
    simp only [Act.put, List.setIfInBounds_toArray, List.set_cons_zero, List.set_cons_succ]
    refine wpAnyH_take (i := 5) (oi := _) (v := ?_) (by simp only [List.getElem?_toArray, List.getElem?_cons_succ, List.getElem?_cons_zero]; rfl) (by kernel_rfl) (by kernel_rfl) (by kernel_rfl) (fun _ _ _ h => h) (Or.inl ⟨by rfl, ?_⟩) (by assumption) ?_
    rotate_left
    · (intro w hSw; (try dsimp only at hSw); go_split_ands; go_simp; try with_reducible rfl)
    simp only [Act.put, List.setIfInBounds_toArray, List.set_cons_zero, List.set_cons_succ]
    refine wpAnyH_ready (rs := [7]) (by kernel_rfl) (by simp) ?_
    refine AllReadyH.cons (o := _) (by simp only [List.getElem?_toArray, List.getElem?_cons_succ, List.getElem?_cons_zero]; rfl) (fun K hK => ?_) (AllReadyH.nil)
    rw [if_pos (by rfl)]
    go_split_ands
    obtain ⟨fa, fb, fc, fd, fe⟩ := FBy
    go_wp2_with fail
    have hB4 := below_s ⟨By, 1, none⟩ (.int .i64 (Y.2.1)) (below_s ⟨By, 0, none⟩ (.int .i64 (Y.1)) hB3 hloBy) hloBy
    have FBy := FI.set ⟨fa, fb, fc, fd, fe⟩ (Y.1) (Y.2.1)
    clear fa fb fc fd fe
    generalize ((w3.setCell ⟨By, 0, none⟩ (.int .i64 (Y.1))).setCell ⟨By, 1, none⟩ (.int .i64 (Y.2.1))) = w4 at *
    refine hK.out _ _ (HS.out _ hB4) (fun hHeld => ?_)
    clear hK K
    try simp only [Act.put, List.setIfInBounds_toArray, List.set_cons_zero, List.set_cons_succ]
    have bltBy := FBy.2.2.2.2
    refine wpAnyH_take (i := 8) (oi := _) (v := ?_) (by simp only [List.getElem?_toArray, List.getElem?_cons_succ, List.getElem?_cons_zero]; rfl) (by kernel_rfl) (by kernel_rfl) (by kernel_rfl) (fun _ _ _ h => h) (Or.inl ⟨by rfl, ?_⟩) (by assumption) ?_
    rotate_left
    · (intro w hSw; (try dsimp only at hSw); go_split_ands; go_simp; try with_reducible rfl)
    simp only [Act.put, List.setIfInBounds_toArray, List.set_cons_zero, List.set_cons_succ]
    refine wpAnyH_done (by kernel_rfl) ?_ _
    have hB := hB4
    exact hK _ _ _ _ _ _ _ _ _ ⟨By, rfl, rfl, hloBy, hB, FBy⟩
end Go.Proofs.Ytlgpolfbilkmbaa
namespace Go.Proofs.Ytlgpolfbilkmbaa
open Go.RowKit Go.Shelf

theorem neqF_any (a b c d : Int) (w : World) : (binOp .neq 39 (.agg #[.int .i64 a, .int .i64 b]) (.agg #[.int .i64 c, .int .i64 d])).run Try.prog w = .ok (.bool (!((a == c) && (b == d)))) w := by
  simp [go_sem]
  by_cases x : a = c
  · by_cases y : b = d
    · simp [x, y]
    · simp [x, y]
  · simp [x]
set_option maxRecDepth 100000 in
set_option maxHeartbeats 16000000 in
theorem lawreach_law (d : Int) (m : Mv) (p q : Int) (p0 : 0 ≤ p) (p1 : p ≤ 65535) (q0 : 0 ≤ q) (q1 : q ≤ 65535) (w : World) : Calls Try.prog 8 #[.int .i64 d, .agg #[.string m.name, .int .i64 m.to, .int .i64 m.spd, .int .i64 m.rise, .int .i64 m.fall], .int .u16 p, .int .u16 q] w fun e w' => e = .returned (.bool true) ∧ Below w.heap.size w w' := by
  obtain ⟨t, ht⟩ := top_some d m
  have HM := Lib.hid (MvAt.new w m 23)
  have hW0 := below_new w (.cells #[.string m.name, .int .i64 m.to, .int .i64 m.spd, .int .i64 m.rise, .int .i64 m.fall] 23)
  obtain ⟨rd, hrd⟩ : ∃ b, readyP d m = b := ⟨_, rfl⟩
  have HRD := Lib.hid hrd
  cases rd
  · clear hrd ht
    go_enter Try.func8, Try.ntmps8
    go_upto_region 1 with (fail)
    generalize w.alloc (.cells #[.string m.name, .int .i64 m.to, .int .i64 m.spd, .int .i64 m.rise, .int .i64 m.fall] 23) = W0 at *
    go_wp2_with (first
      | (go_at_call 10; (with_reducible refine (awake_any _).mono ?_); rintro e w1 ⟨rfl, hB1⟩; obtain ⟨k0, k1, k2, k3, k4⟩ := HM.out.carry hB1)
      | (go_at_call 19; (with_reducible refine (ready_any d m _).mono ?_); rintro e w2 ⟨rfl, hb2⟩; rw [HRD.out]; have hB2 := held_next hB1 hb2; clear k0 k1 k2 k3 k4; obtain ⟨k0, k1, k2, k3, k4⟩ := HM.out.carry hB2))
    go_ret
    exact ⟨rfl, hW0.trans (hB2.mono hW0.size)⟩
  · obtain ⟨hnl, hg⟩ := ready_iff.1 hrd
    have HG := Lib.hid hg
    have hT := ht hg
    have mc := move_c hg hT
    have hdd := inB_iff.1 (given_ok hg).2
    have HC := Lib.hid (Curve_any d m t ht)
    have HT0 := Time_any d m t ht
    rw [time_eq hg] at HT0
    have hlat := later_ok hg hT
    obtain ⟨L, hL⟩ : ∃ L, curveL d m.rise m.fall t = L := ⟨_, rfl⟩
    have HL := Lib.hid hL
    rw [hL] at HT0 hlat mc
    have vT := mc.vT
    have hfr := mc.froms
    have aT := mc.at_time
    have T0 : 0 ≤ (timeL L).1 := hfr (L.length - 1) (by have := mc.ok.pos; omega)
    obtain ⟨T, hTe⟩ : ∃ T, timeL L = T := ⟨_, rfl⟩
    have lat2 := addP_ok (a := timeL L) (b := (1000, 1)) (den_pos vT) (by decide) hlat
    rw [hTe] at HT0 hlat vT T0 lat2 aT
    have HT := Lib.hid HT0
    obtain ⟨Y, hY⟩ : ∃ Y, addP T.1 T.2 1000 1 = Y := ⟨_, rfl⟩
    have HA := Lib.hid (add_all T.1 T.2 1000 1 vT vF_thousand)
    rw [show addP T.1 T.2 ((1000, 1) : Int × Int).1 ((1000, 1) : Int × Int).2 = Y from hY] at lat2
    rw [hY] at hlat HA
    rw [hlat] at HA
    have aY : atP L (Y.1, Y.2.1) = (d, 1, 0) := mc.at_end (u := (1000, 1)) lat2.1 vF_thousand (by rw [lat2.2, hTe]) (by rw [frq_one]; exact Rat.intCast_nonneg.2 (by decide))
    have HV : Hid (∀ (PA : Option Addr) (PC : Nat) (w : World), Pcs w.heap.size w PA L → Calls Try.prog 29 #[.slice PA L.length PC] w fun e w' => e = .returned (.bool true) ∧ Below w.heap.size w w') := Lib.hid fun _ _ w h => rvalid08_yes L mc.ok hfr _ _ w h
    have HA0 : Hid (∀ (PA : Option Addr) (PC : Nat) (w : World), Pcs w.heap.size w PA L → Calls Try.prog 31 #[.slice PA L.length PC, .agg #[.int .i64 0, .int .i64 1]] w fun e w' => e = .returned (.tuple #[.agg #[.int .i64 0, .int .i64 1], .int .i64 0]) ∧ Below w.heap.size w w') := Lib.hid fun PA PC w h => by
      have := qat_any L mc.ok (0, 1) PA PC w h
      rwa [mc.at_zero] at this
    have HA1 : Hid (∀ (PA : Option Addr) (PC : Nat) (w : World), Pcs w.heap.size w PA L → Calls Try.prog 31 #[.slice PA L.length PC, .agg #[.int .i64 T.1, .int .i64 T.2]] w fun e w' => e = .returned (.tuple #[.agg #[.int .i64 d, .int .i64 1], .int .i64 0]) ∧ Below w.heap.size w w') := Lib.hid fun PA PC w h => by
      have := qat_any L mc.ok (T.1, T.2) PA PC w h
      rwa [show atP L (T.1, T.2) = (d, 1, 0) from aT] at this
    have HA2 : Hid (∀ (PA : Option Addr) (PC : Nat) (w : World), Pcs w.heap.size w PA L → Calls Try.prog 31 #[.slice PA L.length PC, .agg #[.int .i64 Y.1, .int .i64 Y.2.1]] w fun e w' => e = .returned (.tuple #[.agg #[.int .i64 d, .int .i64 1], .int .i64 0]) ∧ Below w.heap.size w w') := Lib.hid fun PA PC w h => by
      have := qat_any L mc.ok (Y.1, Y.2.1) PA PC w h
      rwa [aY] at this
    obtain ⟨lo, hlo⟩ : ∃ x : Int, min p q = x := ⟨_, rfl⟩
    obtain ⟨hi, hhi⟩ : ∃ x : Int, max p q = x := ⟨_, rfl⟩
    have b1 : 0 ≤ lo ∧ lo ≤ 65535 ∧ lo ≤ hi ∧ 0 ≤ hi ∧ hi ≤ 65535 := by omega
    have HX : Hid (∀ (PA : Option Addr) (PC : Nat) (w : World), Pcs w.heap.size w PA L → Calls Try.prog 33 #[.slice PA L.length PC, .agg #[.int .i64 T.1, .int .i64 T.2], .int .u16 lo] w fun e w' => e = .returned (.tuple #[.agg #[.int .i64 (latP L T lo).1, .int .i64 (latP L T lo).2.1], .int .i64 (latP L T lo).2.2]) ∧ Below w.heap.size w w') := Lib.hid fun PA PC w h => lawat_any L mc.ok T vT lo b1.1 b1.2.1 PA PC w h
    have HY : Hid (∀ (PA : Option Addr) (PC : Nat) (w : World), Pcs w.heap.size w PA L → Calls Try.prog 33 #[.slice PA L.length PC, .agg #[.int .i64 T.1, .int .i64 T.2], .int .u16 hi] w fun e w' => e = .returned (.tuple #[.agg #[.int .i64 (latP L T hi).1, .int .i64 (latP L T hi).2.1], .int .i64 (latP L T hi).2.2]) ∧ Below w.heap.size w w') := Lib.hid fun PA PC w h => lawat_any L mc.ok T vT hi b1.2.2.2.1 b1.2.2.2.2 PA PC w h
    have HXE := Lib.hid (latP_err (L := L) (T := T) (k := lo) vT)
    have HYE := Lib.hid (latP_err (L := L) (T := T) (k := hi) vT)
    have HPA := Lib.hid (fun h1 h2 => reach_parts mc vT T0 b1.2.2.1 h1 h2)
    obtain ⟨X, hX⟩ : ∃ X, latP L T lo = X := ⟨_, rfl⟩
    obtain ⟨Z, hZ⟩ : ∃ Z, latP L T hi = Z := ⟨_, rfl⟩
    rw [hX] at HX HXE HPA
    rw [hZ] at HY HYE HPA
    have tn : decide (T.1 < 0) = false := decide_eq_false (by omega)
    have pq1 : (if p ≤ q then p else q) = lo := by rw [← hlo]; omega
    have hb1 := Lib.hid hlo
    have hb2 := Lib.hid hhi
    have nz1 : ∀ w, (binOp .neq 39 (.agg #[.int .i64 0, .int .i64 1]) (.agg #[.int .i64 0, .int .i64 1])).run Try.prog w = .ok (.bool false) w := fun w => neqF_any _ _ _ _ w
    have nz2 : ∀ w, (binOp .neq 39 (.agg #[.int .i64 d, .int .i64 1]) (.agg #[.int .i64 d, .int .i64 1])).run Try.prog w = .ok (.bool false) w := fun w => by rw [neqF_any]; simp
    clear hrd ht hg hT HT0 hlat hL vT hfr aT hTe T0 lat2 aY hY hX hZ b1 pq1 mc hnl
    go_enter Try.func8, Try.ntmps8
    go_upto_region 1 with (fail)
    generalize w.alloc (.cells #[.string m.name, .int .i64 m.to, .int .i64 m.spd, .int .i64 m.rise, .int .i64 m.fall] 23) = W0 at *
    go_upto_region 7 with (first
      | (go_at_call 10; (with_reducible refine (awake_any _).mono ?_); rintro e w1 ⟨rfl, hB1⟩; obtain ⟨k0, k1, k2, k3, k4⟩ := HM.out.carry hB1)
      | (go_at_call 19; (with_reducible refine (ready_any d m _).mono ?_); rintro e w2 ⟨rfl, hb2⟩; rw [HRD.out]; have hB2 := held_next hB1 hb2; clear k0 k1 k2 k3 k4; obtain ⟨k0, k1, k2, k3, k4⟩ := HM.out.carry hB2)
      | (go_at_call 16; (with_reducible refine (HC.out _).mono ?_); rintro e w3 ⟨hv, hb3⟩; obtain ⟨v, rfl, hrow⟩ := hv.out; rw [HG.out]; have hr1 := hrow.1 HG.out; rw [HL.out] at hr1; obtain ⟨pa, pcap, rfl, _, _, _, hP⟩ := pc_of_row hr1; have HP := Lib.hid hP; clear hP hr1 hrow hv; have hB3 := held_next hB2 hb3; clear k0 k1 k2 k3 k4; obtain ⟨k0, k1, k2, k3, k4⟩ := HM.out.carry hB3)
      | (go_at_call 20; (with_reducible refine (HT.out _).mono ?_); rintro e w4 ⟨rfl, hb4⟩; rw [HG.out]; have hB4 := held_next hB3 hb4))
    have hB := hB4
    replace HP := Lib.hid (HP.out.grow hb4)
    clear hB1 hB2 hB3 hB4 hb2 hb3 hb4 k0 k1 k2 k3 k4 HRD HC HT HL HM
    have FBt := FI.put w4 (T.1) (T.2) 39
    have hbn := below_new w4 (.cells #[.int .i64 (T.1), .int .i64 (T.2)] 39)
    replace hB := held_next hB hbn
    replace HP := Lib.hid (HP.out.grow hbn)
    clear hbn
    obtain ⟨Bt, hBt⟩ : ∃ b, w4.heap.size = b := ⟨_, rfl⟩
    simp only [hBt] at FBt ⊢
    generalize w4.alloc (.cells #[.int .i64 (T.1), .int .i64 (T.2)] 39) = W1 at *
    clear hBt
    have t0 := FBt.1
    go_upto_region 9 with (go_at_call 29; (with_reducible refine (HV.out _ _ _ HP.out).mono ?_); rintro e w5 ⟨rfl, hbs⟩; replace t0 := (FBt.carry hbs).1)
    clear t0 tn
    replace FBt := FBt.carry hbs
    replace hB := held_next hB hbs
    replace HP := Lib.hid (HP.out.grow hbs)
    clear hbs
    go_upto_region 10 with (first
      | (go_at_call 30; (with_reducible refine (of_any 0 _).mono ?_); rintro e w6 ⟨rfl, hbs⟩)
      | (go_at_call 30; (with_reducible refine (of_any d _).mono ?_); rintro e w7 ⟨rfl, hbs2⟩))
    replace FBt := FBt.carry hbs
    replace hB := held_next hB hbs
    replace HP := Lib.hid (HP.out.grow hbs)
    clear hbs
    replace hB := held_next hB hbs2
    replace HP := Lib.hid (HP.out.grow hbs2)
    replace FBt := FBt.carry hbs2
    clear hbs2
    have hsz2 : (w7.alloc (.cells #[.int .i64 0, .int .i64 1] 39)).heap.size = w7.heap.size + 1 := by simp
    have FBz := FI.put w7 (0) (1) 39
    have hbn := below_new w7 (.cells #[.int .i64 (0), .int .i64 (1)] 39)
    replace FBt := FBt.carry hbn
    replace hB := held_next hB hbn
    replace HP := Lib.hid (HP.out.grow hbn)
    clear hbn
    obtain ⟨Bz, hBz⟩ : ∃ b, w7.heap.size = b := ⟨_, rfl⟩
    simp only [hBz] at FBz hsz2 ⊢
    generalize w7.alloc (.cells #[.int .i64 (0), .int .i64 (1)] 39) = W2 at *
    clear hBz
    have FBw := FI.put W2 (d) (1) 39
    have hbn := below_new W2 (.cells #[.int .i64 (d), .int .i64 (1)] 39)
    replace FBt := FBt.carry hbn
    replace FBz := FBz.carry hbn
    replace hB := held_next hB hbn
    replace HP := Lib.hid (HP.out.grow hbn)
    clear hbn
    obtain ⟨Bw, hBw⟩ : ∃ b, W2.heap.size = b := ⟨_, rfl⟩
    simp only [hBw] at FBw ⊢
    generalize W2.alloc (.cells #[.int .i64 (d), .int .i64 (1)] 39) = W3 at *
    obtain rfl : Bw = Bz + 1 := by omega
    clear hBw hsz2
    have t0 := FBz.1
    have t1 := FBz.2.1
    go_upto_region 11 with (go_at_call 31; (with_reducible refine (HA0.out _ _ _ HP.out).mono ?_); rintro e w8 ⟨rfl, hbs⟩)
    clear t0 t1
    replace FBt := FBt.carry hbs
    replace FBz := FBz.carry hbs
    replace FBw := FBw.carry hbs
    replace hB := held_next hB hbs
    replace HP := Lib.hid (HP.out.grow hbs)
    clear hbs
    have FBa := FI.put w8 (0) (1) 39
    have hbn := below_new w8 (.cells #[.int .i64 (0), .int .i64 (1)] 39)
    replace FBt := FBt.carry hbn
    replace FBz := FBz.carry hbn
    replace FBw := FBw.carry hbn
    replace hB := held_next hB hbn
    replace HP := Lib.hid (HP.out.grow hbn)
    clear hbn
    obtain ⟨Ba, hBa⟩ : ∃ b, w8.heap.size = b := ⟨_, rfl⟩
    simp only [hBa] at FBa ⊢
    generalize w8.alloc (.cells #[.int .i64 (0), .int .i64 (1)] 39) = W4 at *
    clear hBa
    have t0 := FBt.1
    have t1 := FBt.2.1
    go_upto_region 12 with (go_at_call 31; (with_reducible refine (HA1.out _ _ _ HP.out).mono ?_); rintro e w9 ⟨rfl, hbs⟩)
    clear t0 t1
    replace FBt := FBt.carry hbs
    replace FBz := FBz.carry hbs
    replace FBw := FBw.carry hbs
    replace FBa := FBa.carry hbs
    replace hB := held_next hB hbs
    replace HP := Lib.hid (HP.out.grow hbs)
    clear hbs
    have FBb := FI.put w9 (d) (1) 39
    have hbn := below_new w9 (.cells #[.int .i64 (d), .int .i64 (1)] 39)
    replace FBt := FBt.carry hbn
    replace FBz := FBz.carry hbn
    replace FBw := FBw.carry hbn
    replace FBa := FBa.carry hbn
    replace hB := held_next hB hbn
    replace HP := Lib.hid (HP.out.grow hbn)
    clear hbn
    obtain ⟨Bb, hBb⟩ : ∃ b, w9.heap.size = b := ⟨_, rfl⟩
    simp only [hBb] at FBb ⊢
    generalize w9.alloc (.cells #[.int .i64 (d), .int .i64 (1)] 39) = W5 at *
    clear hBb
    have HS : Hid (∀ w', Below W5.heap.size W5 w' → W5.heap.size ≤ w'.heap.size ∧ w'.cell? ⟨Bt, 0, none⟩ = some (.int .i64 T.1) ∧ w'.cell? ⟨Bt, 1, none⟩ = some (.int .i64 T.2)) := Lib.hid fun w' h => ⟨h.size, (FBt.carry h).1, (FBt.carry h).2.1⟩
    have HFK : Hid (FI W5 Bt T.1 T.2 ∧ FI W5 Bz 0 1 ∧ FI W5 (Bz + 1) d 1 ∧ FI W5 Ba 0 1 ∧ FI W5 Bb d 1 ∧ Below W0.heap.size W0 W5) := Lib.hid ⟨FBt, FBz, FBw, FBa, FBb, hB⟩
    clear FBt FBz FBw FBa FBb hB
    refine reR12 HA HS ?_
    intro v19 v20 v76 v77 v78 v79 v80 v81 wc hcut
    obtain ⟨By, rfl, rfl, hloy, hbs, FBy⟩ := hcut
    obtain ⟨FBt, FBz, FBw, FBa, FBb, hB⟩ := HFK.out
    replace FBt := FBt.carry hbs
    replace FBz := FBz.carry hbs
    replace FBw := FBw.carry hbs
    replace FBa := FBa.carry hbs
    replace FBb := FBb.carry hbs
    replace hB := held_next hB hbs
    replace HP := Lib.hid (HP.out.grow hbs)
    clear hbs
    have t0 := FBy.1
    have t1 := FBy.2.1
    go_upto_region 14 with (go_at_call 31; (with_reducible refine (HA2.out _ _ _ HP.out).mono ?_); rintro e w10 ⟨rfl, hbs⟩)
    clear t0 t1 FBy
    replace FBt := FBt.carry hbs
    replace FBz := FBz.carry hbs
    replace FBw := FBw.carry hbs
    replace FBa := FBa.carry hbs
    replace FBb := FBb.carry hbs
    replace hB := held_next hB hbs
    replace HP := Lib.hid (HP.out.grow hbs)
    clear hbs
    have FBv := FI.put w10 (d) (1) 39
    have hbn := below_new w10 (.cells #[.int .i64 (d), .int .i64 (1)] 39)
    replace FBt := FBt.carry hbn
    replace FBz := FBz.carry hbn
    replace FBw := FBw.carry hbn
    replace FBa := FBa.carry hbn
    replace FBb := FBb.carry hbn
    replace hB := held_next hB hbn
    replace HP := Lib.hid (HP.out.grow hbn)
    clear hbn
    obtain ⟨Bv, hBv⟩ : ∃ b, w10.heap.size = b := ⟨_, rfl⟩
    simp only [hBv] at FBv ⊢
    generalize w10.alloc (.cells #[.int .i64 (d), .int .i64 (1)] 39) = W6 at *
    clear hBv
    have t0 := FBa.1
    have t1 := FBa.2.1
    have t2 := FBz.1
    have t3 := FBz.2.1
    have t4 := FBb.1
    have t5 := FBb.2.1
    have t6 := FBw.1
    have t7 := FBw.2.1
    have t8 := FBv.1
    have t9 := FBv.2.1
    go_upto_region 16 with (fail)
    clear t0 t1 t2 t3 t4 t5 t6 t7 t8 t9 FBa FBb FBv
    have t0 := FBt.1
    have t1 := FBt.2.1
    go_upto_region 17 with (go_at_call 33; (with_reducible refine (HX.out _ _ _ HP.out).mono ?_); rintro e w11 ⟨rfl, hbs⟩)
    clear t0 t1
    replace FBt := FBt.carry hbs
    replace FBz := FBz.carry hbs
    replace FBw := FBw.carry hbs
    replace hB := held_next hB hbs
    replace HP := Lib.hid (HP.out.grow hbs)
    clear hbs
    have FBx := FI.put w11 (X.1) (X.2.1) 39
    have hbn := below_new w11 (.cells #[.int .i64 (X.1), .int .i64 (X.2.1)] 39)
    replace FBt := FBt.carry hbn
    replace FBz := FBz.carry hbn
    replace FBw := FBw.carry hbn
    replace hB := held_next hB hbn
    replace HP := Lib.hid (HP.out.grow hbn)
    clear hbn
    obtain ⟨Bx, hBx⟩ : ∃ b, w11.heap.size = b := ⟨_, rfl⟩
    simp only [hBx] at FBx ⊢
    generalize w11.alloc (.cells #[.int .i64 (X.1), .int .i64 (X.2.1)] 39) = W7 at *
    clear hBx
    have t0 := FBt.1
    have t1 := FBt.2.1
    go_upto_region 18 with (go_at_call 33; (with_reducible refine (HY.out _ _ _ HP.out).mono ?_); rintro e w12 ⟨rfl, hbs⟩)
    clear t0 t1
    replace FBt := FBt.carry hbs
    replace FBz := FBz.carry hbs
    replace FBw := FBw.carry hbs
    replace FBx := FBx.carry hbs
    replace hB := held_next hB hbs
    replace HP := Lib.hid (HP.out.grow hbs)
    clear hbs
    have FBy := FI.put w12 (Z.1) (Z.2.1) 39
    have hbn := below_new w12 (.cells #[.int .i64 (Z.1), .int .i64 (Z.2.1)] 39)
    replace FBt := FBt.carry hbn
    replace FBz := FBz.carry hbn
    replace FBw := FBw.carry hbn
    replace FBx := FBx.carry hbn
    replace hB := held_next hB hbn
    replace HP := Lib.hid (HP.out.grow hbn)
    clear hbn
    obtain ⟨By, hBy⟩ : ∃ b, w12.heap.size = b := ⟨_, rfl⟩
    simp only [hBy] at FBy ⊢
    generalize w12.alloc (.cells #[.int .i64 (Z.1), .int .i64 (Z.2.1)] 39) = W8 at *
    clear hBy
    clear HP FBt
    rcases HXE.out with hx | hx
    · rcases HYE.out with hz | hz
      · obtain ⟨vX, vZ, x0, xz, zd⟩ := HPA.out hx hz
        obtain ⟨c1, c2, c3, c4, c5⟩ := (validF_iff _ _).1 vX
        obtain ⟨e1, e2, e3, e4, e5⟩ := (validF_iff _ _).1 vZ
        simp only at c1 c2 c3 c4 e1 e2 e3 e4
        have z0 : 0 ≤ Z.1 := by
          rcases Int.lt_or_le Z.1 0 with l | l
          · have h1 := Int.mul_nonneg x0 (show 0 ≤ Z.2.1 by omega)
            have h2 := Int.mul_neg_of_neg_of_pos l (show 0 < X.2.1 by omega)
            omega
          · exact l
        have HC1 := Lib.hid (rcmp_any 0 1 X.1 X.2.1 (by decide) (by decide) (by decide) (by decide) x0 (by omega) (by omega) (by omega))
        have HC2 := Lib.hid (rcmp_any X.1 X.2.1 Z.1 Z.2.1 x0 (by omega) (by omega) (by omega) z0 (by omega) (by omega) (by omega))
        have HC3 := Lib.hid (rcmp_any Z.1 Z.2.1 d 1 z0 (by omega) (by omega) (by omega) (by omega) (by omega) (by decide) (by decide))
        have g1 : decide (cmpP (0 * X.2.1) (X.1 * 1) ≤ 0) = true := decide_eq_true (cmpP_le.2 (by omega))
        have g2 : decide (cmpP (X.1 * Z.2.1) (Z.1 * X.2.1) ≤ 0) = true := decide_eq_true (cmpP_le.2 xz)
        have g3 : decide (cmpP (Z.1 * 1) (d * Z.2.1) ≤ 0) = true := decide_eq_true (cmpP_le.2 zd)
        generalize cmpP (0 * X.2.1) (X.1 * 1) = C1 at *
        generalize cmpP (X.1 * Z.2.1) (Z.1 * X.2.1) = C2 at *
        generalize cmpP (Z.1 * 1) (d * Z.2.1) = C3 at *
        have t0 := FBz.1
        have t1 := FBz.2.1
        have t2 := FBx.1
        have t3 := FBx.2.1
        have f1 : (X.2.2 != 0) = false := by rw [hx]; rfl
        have f2 : (Z.2.2 != 0) = false := by rw [hz]; rfl
        clear c1 c2 c3 c4 c5 e1 e2 e3 e4 e5 vX vZ x0 xz zd z0 hx hz
        go_wp2_with (first
          | (go_at_call 21; (with_reducible refine (HC1.out _).mono ?_); rintro e w13 ⟨rfl, hbs⟩; clear t0 t1; replace t2 := (FBx.carry hbs).1; replace t3 := (FBx.carry hbs).2.1; have t4 := (FBy.carry hbs).1; have t5 := (FBy.carry hbs).2.1)
          | (go_at_call 21; (with_reducible refine (HC2.out _).mono ?_); rintro e w14 ⟨rfl, hbs2⟩; clear t2 t3 t4 t5; have t4 := ((FBy.carry hbs).carry hbs2).1; have t5 := ((FBy.carry hbs).carry hbs2).2.1; have t6 := ((FBw.carry hbs).carry hbs2).1; have t7 := ((FBw.carry hbs).carry hbs2).2.1)
          | (go_at_call 21; (with_reducible refine (HC3.out _).mono ?_); rintro e w15 ⟨rfl, hbs3⟩))
        go_ret
        exact ⟨rfl, hW0.trans ((held_next (held_next (held_next hB hbs) hbs2) hbs3).mono hW0.size)⟩
      · have f1 : (X.2.2 != 0) = false := by rw [hx]; rfl
        have f2 : (Z.2.2 != 0) = true := by rw [hz]; rfl
        have f3 : (X.2.2 == 5) = false := by rw [hx]; rfl
        have f4 : (Z.2.2 == 5) = true := by rw [hz]; rfl
        clear hx hz
        go_wp2_with fail
        go_ret
        exact ⟨rfl, hW0.trans (hB.mono hW0.size)⟩
    · have f1 : (X.2.2 != 0) = true := by rw [hx]; rfl
      have f3 : (X.2.2 == 5) = true := by rw [hx]; rfl
      clear hx
      go_wp2_with fail
      go_ret
      exact ⟨rfl, hW0.trans (hB.mono hW0.size)⟩
end Go.Proofs.Ytlgpolfbilkmbaa
namespace Go.Proofs.Ytlgpolfbilkmbaa
open Go.ChangeShapes Go.WideShapes Go.ChangeAt Go.WideMaps Go.WideElems Go.RowKit

theorem own : ownKnob Try.prog.godebug = none := by kernel_rfl
theorem laidOut : laidOutB Try.prog = true := by kernel_rfl

section
variable {H : Type} {enc : TypeId × Value → H} {P : Program}
theorem post_of_below {f : Func} {s : ChangeSpec} {apart fresh handsOn again : Bool} {W W' : World} {args : Array Value} {v : Value} {ds gs : List (DataW H)} {before pa pv : List MemPlace}
    (hW : DataW.Whole enc P f.params.toList s.vars apart W args.toList ds gs before)
    (hres : ∀ (b : Nat) (sp : Nat → Bool) (hd : Bool), DataW.TrodAll enc P W' b sp hd f.resultTypes.toList (v.resultList f.resultTypes.size) (s.fn H (ds ++ gs)).results [])
    (hargs : ∀ sp : Nat → Bool, (∀ p ∈ before, sp p.block = true) → DataW.TrodAll enc P W' 0 sp true f.params.toList args.toList (s.fn H (ds ++ gs)).args pa)
    (hvars : ∀ sp : Nat → Bool, (∀ p ∈ before, sp p.block = true) → DataW.TrodVars enc P W' sp s.vars (s.fn H (ds ++ gs)).vars pv)
    (hps : before = pa ++ pv) (hb : Below W.heap.size W W')
    (hok : ∀ (j : Nat) (t : TypeId) (r : Value), f.resultTypes[j]? = some t → (v.resultList f.resultTypes.size)[j]? = some r → Value.okWide P W' .any 0 t r) :
    s.post enc P f apart fresh handsOn again W args v W' := by
  have hlt : ∀ p ∈ before, p.block < W.heap.size := fun p hp => hW.lt p hp
  have hold : ∀ p ∈ before, (fun b => decide (b < W.heap.size)) p.block = true := fun p hp => by simpa using hlt p hp
  refine ⟨ds, gs, before, [], pa, pv, hW, hres _ _ _, hargs _ hold, hvars _ hold, World.keptBut_mono (fun p hp => ⟨hp, ?_⟩) (hb.frame (· ∈ before)), fun _ => ?_⟩
  · rw [hps, List.mem_append] at hp
    exact Or.inr hp
  · obtain ⟨_, _, _, _, _, hz, hn⟩ := hW
    refine ⟨hok, _, _, ([] ++ pa) ++ pv, ⟨[] ++ pa, pv, trodAll_append (hargs _ (fun _ _ => rfl)) (hres _ _ _), hvars _ (fun _ _ => rfl), rfl, ?_, ?_⟩, ?_⟩
    · intro b off hp
      have hin : MemPlace.cell b off ∈ before := by rw [hps]; simpa using hp
      rw [hb.frozen (hlt _ hin)]
      exact hz b off hin
    · intro ha
      have := hn ha
      rw [hps] at this
      simpa using this
    · intro p hp _
      rw [hps]
      simpa using hp

theorem trodAll_below (hl : laidOutB P = true) {W W' : World} (hb : Below W.heap.size W W') (sp : Nat → Bool) :
    ∀ {ts : List TypeId} {vs : List Value} {ds : List (DataW H)} {ps : List MemPlace}, (ts.all fun t => P.readableRec t && decide (t < P.types.size)) = true → DataW.TrodAll enc P W 0 (fun _ => true) true ts vs ds ps →
      (∀ x ∈ ps, x.block < W.heap.size) → (∀ x ∈ ps, sp x.block = true) → DataW.TrodAll enc P W' 0 sp true ts vs ds ps
  | [], [], [], _, _, h, _, _ => h
  | t :: ts, v :: vs, d :: ds, _, ht, ⟨p, q, h0, h1, rfl⟩, hlt, hsp => by
    simp only [List.all_cons, Bool.and_eq_true, decide_eq_true_eq] at ht
    exact ⟨p, q, WideElems.Trod_stays hl ht.1.1 ht.1.2 h0 (fun x hx => hb.same (hlt x (List.mem_append.2 (.inl hx)))) (fun x hx => hsp x (List.mem_append.2 (.inl hx))),
      trodAll_below hl hb sp (by simpa using ht.2) h1 (fun x hx => hlt x (List.mem_append.2 (.inr hx))) (fun x hx => hsp x (List.mem_append.2 (.inr hx))), rfl⟩
  | [], [], _ :: _, _, _, h, _, _ => h.elim
  | [], _ :: _, _, _, _, h, _, _ => h.elim
  | _ :: _, [], _, _, _, h, _, _ => h.elim
  | _ :: _, _ :: _, [], _, _, h, _, _ => h.elim

theorem law_post {f : Func} {s : ChangeSpec} {apart fresh handsOn again : Bool} {W W' : World} {args : Array Value} {ds gs : List (DataW H)} {before : List MemPlace} {tb : TypeId}
    (hl : laidOutB P = true) (hr : (f.params.toList.all fun t => P.readableRec t && decide (t < P.types.size)) = true) (hW : DataW.Whole enc P f.params.toList s.vars apart W args.toList ds gs before)
    (hv : s.vars = []) (hfn : s.fn H (ds ++ gs) = { results := [.lit (.bool true)], args := ds }) (ht : f.resultTypes = #[tb]) (hu : P.underlying tb = some .bool) (hb : Below W.heap.size W W') :
    s.post enc P f apart fresh handsOn again W args (.bool true) W' := by
  have hlt : ∀ p ∈ before, p.block < W.heap.size := fun p hp => hW.lt p hp
  have hW2 := hW
  obtain ⟨p, q, hA, hV, hpq, _, _⟩ := hW
  have hV' := hV
  rw [hv] at hV'
  obtain ⟨rfl, rfl⟩ := trodVars_none hV'
  have hpp : before = p := by rw [hpq, List.append_nil]
  refine post_of_below (pa := before) (pv := []) hW2 ?_ ?_ ?_ (by simp) hb ?_
  · intro b sp hd
    rw [hfn, ht]
    exact trodAll_mk1 (shut_bool hu _)
  · intro sp hsp
    rw [hfn]
    exact trodAll_below hl hb sp hr (by rw [hpp]; exact hA) hlt hsp
  · intro sp hsp
    rw [hfn, hv]
    rfl
  · intro j t r hj hrr
    rw [ht] at hj hrr
    exact ok_one ht rfl (okWide_bool_mk hu _) j t r (by rw [ht]; exact hj) (by rw [ht]; exact hrr)
end
end Go.Proofs.Ytlgpolfbilkmbaa
namespace Go.Proofs.Ytlgpolfbilkmbaa
open Go.ChangeShapes Go.WideShapes Go.ChangeAt Go.WideMaps Go.WideElems Go.RowKit Go.Deep

theorem flatMap_get {X : Type} (cells : X → List Value) (size : Nat) (hlen : ∀ r, (cells r).length = size) : ∀ (L : List X) (j : Nat) (u : Value), (L.flatMap cells)[j]? = some u → ∃ i k r, j = i * size + k ∧ L[i]? = some r ∧ (cells r)[k]? = some u
  | [], j, u, h => by simp at h
  | x :: l, j, u, h => by
    rw [List.flatMap_cons, List.getElem?_append] at h
    split at h
    · exact ⟨0, j, x, by omega, rfl, h⟩
    · next hj =>
      rw [hlen] at h hj
      obtain ⟨i, k, r, e, h1, h2⟩ := flatMap_get cells size hlen l _ u h
      exact ⟨i + 1, k, r, by rw [Nat.add_mul]; omega, h1, h2⟩

section
variable {H : Type} {enc : TypeId × Value → H} {P : Program} {w : World} {base : Nat} {spare : Nat → Bool} {held : Bool}
theorem open_rows {X : Type} [Inhabited X] (cells : X → List Value) (size : Nat) (Fit : X → Prop) (hsize : 0 < size) (hlen : ∀ r, (cells r).length = size) {t e : TypeId} (ht : P.underlying t = some (.slice e)) (hC : P.cellsOf e = size)
    (hel : ∀ n cs' y, cs'.length = size → DataW.trod enc P w base spare held n e cs' = some y → ∃ r, cs' = cells r ∧ Fit r) {fuel : Nat} {v : Value} {x : DataW H × List MemPlace} (h : DataW.trod enc P w base spare held fuel t [v] = some x) :
    ∃ (a : Option Addr) (cap : Nat) (L : List X), v = .slice a L.length cap ∧ L.length ≤ cap ∧ cap ≤ maxLen ∧ (a = none → cap = 0) ∧ (∀ r ∈ L, Fit r) ∧
      (0 < L.length → ∃ b off, a = some ⟨b, off, none⟩ ∧ b < w.heap.size ∧ ∀ j u, (L.flatMap cells)[j]? = some u → w.cell? ⟨b, off + j, none⟩ = some u) := by
  rcases open_slice ht h with ⟨hcs, _⟩ | ⟨a, len, cap, m, n, D, Pl, hcs, _, hl, hm, hmm, _, hi⟩
  · simp only [List.cons.injEq, and_true] at hcs
    subst hcs
    exact ⟨none, 0, [], rfl, Nat.le_refl _, by unfold maxLen; omega, fun _ => rfl, (fun _ h => by cases h), fun h => absurd h (Nat.not_lt_zero _)⟩
  · simp only [List.cons.injEq, and_true] at hcs
    subst hcs
    have hlm : len ≤ m := by rw [hmm]; split <;> omega
    have hex : ∀ i, ∃ r : X, i < len → Fit r ∧ ∀ k u, (cells r)[k]? = some u → w.cell? (a.add (i * size + k)) = some u := fun i => by
      by_cases h : i < len
      · obtain ⟨cs', hc, ht'⟩ := hi i (by omega)
        rw [hC] at hc
        obtain ⟨_, hcl, hat⟩ := World.cells?_some hc
        obtain ⟨r, e, hf⟩ := hel n cs' _ hcl ht'
        refine ⟨r, fun _ => ⟨hf, fun k u hu => ?_⟩⟩
        rw [← e] at hu
        have hk : k < size := by
          have := (List.getElem?_eq_some_iff.1 hu).1
          omega
        rw [← Go.Deep.add_add, hat k hk, hu]
      · exact ⟨default, fun h' => absurd h' h⟩
    obtain ⟨f, hf⟩ := Classical.axiomOfChoice hex
    refine ⟨some a, cap, (List.range len).map f, by simp, by simpa using hl, hm, (fun e => by cases e), ?_, ?_⟩
    · intro r hr
      obtain ⟨i, hi', rfl⟩ := List.mem_map.1 hr
      exact (hf i (by simpa using hi')).1
    · intro hpos
      have hpos' : 0 < len := by simpa using hpos
      have hcell : ∀ i k u, i < len → (cells (f i))[k]? = some u → w.cell? (a.add (i * size + k)) = some u := fun i k u h hu => (hf i h).2 k u hu
      have h0 : ∃ u, (cells (f 0))[0]? = some u := ⟨_, List.getElem?_eq_getElem (by rw [hlen]; exact hsize)⟩
      obtain ⟨u0, hu0⟩ := h0
      have hc0 := hcell 0 0 u0 hpos' hu0
      obtain ⟨b, off, spot⟩ := a
      have hspot : spot = none := by simpa [Addr.add] using World.cell?_spot hc0
      subst hspot
      refine ⟨b, off, rfl, ?_, fun j u hj => ?_⟩
      · rw [Go.WideShapes.add_plain] at hc0
        exact World.block_lt_of_cell? w _ hc0
      · obtain ⟨i, k, r, e, h1, h2⟩ := flatMap_get cells size hlen _ j u hj
        rw [List.getElem?_map] at h1
        have hil : i < len := by
          rcases Nat.lt_or_ge i len with l | l
          · exact l
          · rw [List.getElem?_eq_none (by simpa using l)] at h1; cases h1
        rw [List.getElem?_range hil] at h1
        obtain rfl : f i = r := by simpa using h1
        have := hcell i k u hil h2
        rw [Go.WideShapes.add_plain] at this
        rw [e]
        exact this
/-- An element that is a struct of one-cell fields. -/
theorem elem_fields {e : TypeId} {fs : Array Field} {n : Nat} {cs' : List Value} {y : DataW H × List MemPlace} (he : P.underlying e = some (.struct fs)) (hone : oneCellFields P fs = true) (hl : cs'.length = fs.size) (h : DataW.trod enc P w base spare held n e cs' = some y) :
    ∃ m, ∀ (j : Nat) (f : Field), fs[j]? = some f → ∃ (v : Value) (z : DataW H × List MemPlace), cs'[j]? = some v ∧ DataW.trod enc P w base spare held m f.type [v] = some z := by
  obtain ⟨ys, n', hn', hy, hlen, hyl, hf⟩ := DataW.trod_struct he h
  refine ⟨n', fun j f hj => ?_⟩
  obtain ⟨ho, hk⟩ := hone_of hone j f hj
  have hjl : j < fs.size := (Array.getElem?_eq_some_iff.1 hj).1
  have hv : cs'[j]? = some (cs'[j]'(by omega)) := List.getElem?_eq_getElem (by omega)
  have h1 := hf j f hj
  rw [ho, hk] at h1
  have hone' : (cs'.drop j).take 1 = [cs'[j]'(by omega)] := by
    rw [List.drop_eq_getElem_cons (by omega)]
    rfl
  rw [hone'] at h1
  exact ⟨_, ys[j]'(by omega), hv, h1.trans (List.getElem?_eq_getElem (by omega))⟩
/-- A field that is a slice of whatever. -/
theorem field_slice {t e : TypeId} {n : Nat} {v : Value} {y : DataW H × List MemPlace} (ht : P.underlying t = some (.slice e)) (h : DataW.trod enc P w base spare held n t [v] = some y) : ∃ a l c, v = .slice a l c := by
  rcases open_slice ht h with ⟨hcs, _⟩ | ⟨a, len, cap, m, n, D, Pl, hcs, _⟩
  · simp only [List.cons.injEq, and_true] at hcs
    exact ⟨_, _, _, hcs⟩
  · simp only [List.cons.injEq, and_true] at hcs
    exact ⟨_, _, _, hcs⟩
end
end Go.Proofs.Ytlgpolfbilkmbaa
namespace Go.Proofs.Ytlgpolfbilkmbaa
open Go.ChangeShapes Go.WideShapes Go.ChangeAt Go.WideMaps Go.WideElems Go.RowKit Go.Deep Go.Joins

section
variable {H : Type} {enc : TypeId × Value → H} {W : World} {base : Nat}
set_option maxRecDepth 100000 in
theorem open_move {v : Value} {d : DataW H} {p : List MemPlace} (hv : Value.okWide Try.prog W .any base 23 v) (h : DataW.Trod enc Try.prog W 0 (fun _ => true) true 23 v d p) :
    ∃ m : Mv, v = .agg #[.string m.name, .int .i64 m.to, .int .i64 m.spd, .int .i64 m.rise, .int .i64 m.fall] := by
  obtain ⟨cs, rfl, hsz⟩ := okWide_struct Try.underlying23 hv
  have hsz : cs.size = 5 := hsz.trans (by kernel_rfl)
  obtain ⟨fuel, hf⟩ := h
  obtain ⟨k, hk⟩ := elem_fields (cs' := cs.toList) Try.underlying23 (by kernel_rfl) (by rw [Array.length_toList, hsz]; rfl) hf
  obtain ⟨v0, z0, c0, t0⟩ := hk 0 _ rfl
  obtain ⟨v1, z1, c1, t1⟩ := hk 1 _ rfl
  obtain ⟨v2, z2, c2, t2⟩ := hk 2 _ rfl
  obtain ⟨v3, z3, c3, t3⟩ := hk 3 _ rfl
  obtain ⟨v4, z4, c4, t4⟩ := hk 4 _ rfl
  obtain ⟨n0, e0, _, w0⟩ := DataW.trod_string Try.underlying9 t0
  obtain ⟨n1, e1, _, w1⟩ := DataW.trod_int Try.underlying3 t1
  obtain ⟨n2, e2, _, w2⟩ := DataW.trod_int Try.underlying3 t2
  obtain ⟨n3, e3, _, w3⟩ := DataW.trod_int Try.underlying3 t3
  obtain ⟨n4, e4, _, w4⟩ := DataW.trod_int Try.underlying3 t4
  simp only [List.cons.injEq, and_true] at e0 e1 e2 e3 e4
  subst e0 e1 e2 e3 e4
  obtain ⟨l⟩ := cs
  match l, hsz with
  | [x0, x1, x2, x3, x4], _ =>
    simp only [List.getElem?_cons_zero, List.getElem?_cons_succ, Option.some.injEq] at c0 c1 c2 c3 c4
    subst c0 c1 c2 c3 c4
    exact ⟨⟨n0, n1, n2, n3, n4⟩, rfl⟩
end
end Go.Proofs.Ytlgpolfbilkmbaa
namespace Go.Proofs.Ytlgpolfbilkmbaa
open Go.ChangeShapes Go.WideShapes Go.ChangeAt Go.WideMaps Go.WideElems Go.RowKit
open Go.ChangeMaps (open_string shut_string)

theorem u16_bd {n : Int} (h : (Lit.int .u16 n).wf = true) : 0 ≤ n ∧ n ≤ 65535 := by
  have e : IntKind.u16.min ≤ n ∧ n ≤ IntKind.u16.max := by simpa [Lit.wf] using h
  exact e
set_option maxRecDepth 100000 in
theorem profileReaches_lifted (os : Os) (started : os.Started) (H : Type) (enc : TypeId × Value → H) :
    ReturnsInHanded {} Try.checked os 8 .any (Rows.profileReachesSpec.pre6 enc Try.prog Try.f8 Rows.profileReachesRow.domain false) (Rows.profileReachesSpec.post enc Try.prog Try.f8 false true false false) := by
  refine returnsInHanded_of_change (C := Try.checked) own started (by kernel_rfl) Try.func8
    (ChangeSpec.witness6 (enc := enc) (C := Try.checked) false ⟨#[], #[.int .i64 0, .agg #[.string ⟨#[]⟩, .int .i64 0, .int .i64 0, .int .i64 0, .int .i64 0], .int .u16 0, .int .u16 0], []⟩ 8 (by kernel_rfl) (by kernel_rfl) (by kernel_rfl) (by kernel_rfl)) ?_
  intro W base args ds gs before hval0 hW hcnd _
  have hval : ∀ (j : Nat) t v, Try.f8.params[j]? = some t → args[j]? = some v → Value.okWide Try.prog W .any base t v := hval0
  have hW' := hW
  obtain ⟨p, q, hA0, hV, rfl, hfz, hnd⟩ := hW
  have hA : DataW.TrodAll enc Try.prog W 0 (fun _ => true) true Try.f8.params.toList args.toList ds p := hA0
  rw [Try.params8] at hA hval
  obtain ⟨v0, vs0, d0, ds0, p0, q0, hargs, rfl, rfl, h0, r0⟩ := trodAll_cons hA
  obtain ⟨v1, vs1, d1, ds1, p1, q1, rfl, rfl, rfl, h1, r1⟩ := trodAll_cons r0
  obtain ⟨v2, vs2, d2, ds2, p2, q2, rfl, rfl, rfl, h2, r2⟩ := trodAll_cons r1
  obtain ⟨v3, vs3, d3, ds3, p3, q3, rfl, rfl, rfl, h3, r3⟩ := trodAll_cons r2
  obtain ⟨rfl, rfl, rfl⟩ := trodAll_nil r3
  obtain rfl : args = #[v0, v1, v2, v3] := by cases args; simp_all
  obtain ⟨rfl, rfl⟩ := trodVars_none hV
  obtain ⟨a0, rfl, rfl, rfl, w0⟩ := open_int Try.underlying3 (hval 0 3 v0 rfl rfl) h0
  obtain ⟨m, rfl⟩ := open_move (hval 1 23 v1 rfl rfl) h1
  obtain ⟨a2, rfl, rfl, rfl, w2⟩ := open_int Try.underlying37 (hval 2 37 v2 rfl rfl) h2
  obtain ⟨a3, rfl, rfl, rfl, w3⟩ := open_int Try.underlying37 (hval 3 37 v3 rfl rfl) h3
  clear hA0 hval0
  simp only [List.append_nil] at hW'
  refine (lawreach_law a0 m a2 a3 (u16_bd w2).1 (u16_bd w2).2 (u16_bd w3).1 (u16_bd w3).2 W).mono fun e W' ⟨he, hb⟩ => ?_
  subst he
  exact ⟨_, rfl, law_post laidOut (by kernel_rfl) hW' rfl rfl (by kernel_rfl) Try.underlying4 hb⟩

theorem profileReaches_holds : Rows.ProfileReachesSaid :=
  OpenClaim.holds_of_wide 8 Try.f8 rfl rfl rfl rfl rfl rfl rfl ⟨rfl, rfl, rfl, rfl, rfl⟩ rfl rfl rfl rfl rfl (by kernel_rfl) Try.func8 (by kernel_rfl)
    (of_decide_eq_true (by kernel_rfl)) (by unfold Func.isWrapper; first | (rw [if_pos (by decide +kernel)]; kernel_rfl) | (rw [if_neg (by decide +kernel)]; exact ⟨rfl, rfl⟩))
    (fun os started H enc _ => profileReaches_lifted os started H enc)
end Go.Proofs.Ytlgpolfbilkmbaa
