/-
  THE WALK of the law ProfileFaster.
-/
import Derived.Test.YtlgpolfbilkmbaaLawGreatest
import Derived.Test.YtlgpolfbilkmbaaMvAt
import Derived.Test.YtlgpolfbilkmbaaFaster0
import Derived.Test.YtlgpolfbilkmbaaRMade
import Derived.Deep.RegionHeld3
namespace Go.Proofs.Ytlgpolfbilkmbaa
open Go.RowKit Go.Shelf

set_option maxRecDepth 100000 in
set_option maxHeartbeats 4000000 in
theorem lawfaster_unready (d : Int) (m : Mv) (k q : Int) (hr : readyP d m = false) (w : World) : Calls Try.prog 5 #[.int .i64 d, .agg #[.string m.name, .int .i64 m.to, .int .i64 m.spd, .int .i64 m.rise, .int .i64 m.fall], .int .u16 k, .int .u8 q] w fun e w' => e = .returned (.bool true) ∧ Below w.heap.size w w' := by
  have HR := Lib.hid hr
  clear hr
  have HM := Lib.hid (MvAt.new w m 23)
  have hW0 := below_new w (.cells #[.string m.name, .int .i64 m.to, .int .i64 m.spd, .int .i64 m.rise, .int .i64 m.fall] 23)
  go_enter Try.func5, Try.ntmps5
  go_upto_region 1 with (fail)
  generalize w.alloc (.cells #[.string m.name, .int .i64 m.to, .int .i64 m.spd, .int .i64 m.rise, .int .i64 m.fall] 23) = W0 at *
  go_wp2_with (first
    | (go_at_call 10; (with_reducible refine (awake_any _).mono ?_); rintro e w1 ⟨rfl, hB1⟩; obtain ⟨k0, k1, k2, k3, k4⟩ := HM.out.carry hB1)
    | (go_at_call 19; (with_reducible refine (ready_any d m _).mono ?_); rintro e w2 ⟨rfl, hb2⟩; rw [HR.out]; have hB2 := hB1.trans (hb2.mono hB1.size)))
  go_ret
  exact ⟨rfl, hW0.trans (hB2.mono hW0.size)⟩

set_option maxRecDepth 100000 in
set_option maxHeartbeats 16000000 in
theorem lawfaster_0 (d : Int) (m : Mv) (k q : Int) (k0 : 0 ≤ k) (k1 : k ≤ 65535) (q0 : 0 ≤ q) (_ : q ≤ 255) (hc : q % 4 = 0) (hr : readyP d m = true) (w : World) : Calls Try.prog 5 #[.int .i64 d, .agg #[.string m.name, .int .i64 m.to, .int .i64 m.spd, .int .i64 m.rise, .int .i64 m.fall], .int .u16 k, .int .u8 q] w fun e w' => e = .returned (.bool true) ∧ Below w.heap.size w w' := by
  obtain ⟨t, ht0⟩ := top_some d m
  obtain ⟨_, hg⟩ := ready_iff.1 hr
  have ht := ht0 hg
  obtain ⟨hv, hdd⟩ := given_ok hg
  obtain ⟨V0, V1, R0, R1, F0, F1⟩ := valid_bds hv
  obtain ⟨d1, d2⟩ := inB_iff.1 hdd
  have HR := Lib.hid hr
  have HG := Lib.hid hg
  have T1 := Lib.hid (Time_any d m t ht0)
  have T2 : Hid (∀ w : World, Calls Try.prog 20 #[.int .i64 d, .agg #[.string m.name, .int .i64 m.to, .int .i64 m.spd, .int .i64 m.fall, .int .i64 m.rise]] w fun e w' => e = .returned (.tuple #[.agg #[.int .i64 (timeP d m t).1, .int .i64 (timeP d m t).2], .int .i64 0]) ∧ Below w.heap.size w w') := Lib.hid fun w => by
    have h := Time_any d (turnedM m) t (fun _ => top_swap ht) w
    rw [turned_time hg, turned_given, hg] at h
    exact h
  obtain ⟨P0, P1, P2, P3⟩ := time_bd hg ht
  obtain ⟨b, hb⟩ : ∃ b, readyP d ⟨m.name, m.to, m.spd + k, m.rise, m.fall⟩ = b := ⟨_, rfl⟩
  have HB := Lib.hid hb
  have RN : Hid (∀ w : World, Calls Try.prog 19 #[.int .i64 d, .agg #[.string m.name, .int .i64 m.to, .int .i64 (m.spd + k), .int .i64 m.rise, .int .i64 m.fall]] w fun e w' => e = .returned (.bool b) ∧ Below w.heap.size w w') := Lib.hid fun w => by
    have h := ready_any d ⟨m.name, m.to, m.spd + k, m.rise, m.fall⟩ w
    rw [hb] at h
    exact h
  have W4 : Hid (b = true → ∃ v1 v2 z : Int, 0 ≤ v1 ∧ v1 ≤ 1152921504606846976 ∧ 0 < v2 ∧ v2 ≤ 1152921504606846976 ∧ cmpP (v1 * (timeP d m t).2) ((timeP d m t).1 * v2) = z ∧ decide (cmpP (v1 * (timeP d m t).2) ((timeP d m t).1 * v2) ≤ 0) = true ∧ ∀ w : World, Calls Try.prog 20 #[.int .i64 d, .agg #[.string m.name, .int .i64 m.to, .int .i64 (m.spd + k), .int .i64 m.rise, .int .i64 m.fall]] w fun e w' => e = .returned (.tuple #[.agg #[.int .i64 v1, .int .i64 v2], .int .i64 0]) ∧ Below w.heap.size w w') := Lib.hid fun h => by
    subst h
    obtain ⟨s, hs0⟩ := top_some d ⟨m.name, m.to, m.spd + k, m.rise, m.fall⟩
    obtain ⟨_, hg'⟩ := ready_iff.1 hb
    have hs := hs0 hg'
    obtain ⟨Q0, Q1, Q2, Q3⟩ := time_bd hg' hs
    refine ⟨_, _, _, Q0, Q1, Q2, Q3, rfl, ?_, fun w => ?_⟩
    · exact cmp_le (faster_cmp 0 (by decide) k0 hg ht hg' hs)
    · have h := Time_any d ⟨m.name, m.to, m.spd + k, m.rise, m.fall⟩ s hs0 w
      rw [hg'] at h
      exact h
  rw [HG.out] at T1
  generalize timeP d m t = P at *
  obtain ⟨p1, p2⟩ := P
  simp only at P0 P1 P2 P3 T1 T2 W4
  have c0 : (q % 4 == 0) = true := by rw [hc]; rfl
  have c1 : (q % 4 == 1) = false := by rw [hc]; rfl
  have c2 : (q % 4 == 2) = false := by rw [hc]; rfl
  have c3 : (q % 4 == 3) = false := by rw [hc]; rfl
  have c4 : (q % 4 != 3) = true := by rw [hc]; rfl
  have s1 : IntKind.i64.wrap k = k := IntWalk.i64_in _ (by omega)
  have s2 : IntKind.i64.wrap (m.spd + k) = m.spd + k := IntWalk.i64_in _ (by omega)
  have r1 : (p1 != p1) = false := by simp
  have r2 : (p2 != p2) = false := by simp
  clear hr ht0 hg ht hv hdd hb hc HB
  have HM := Lib.hid (MvAt.new w m 23)
  have hW0 := below_new w (.cells #[.string m.name, .int .i64 m.to, .int .i64 m.spd, .int .i64 m.rise, .int .i64 m.fall] 23)
  go_enter Try.func5, Try.ntmps5
  go_upto_region 1 with (fail)
  obtain ⟨Bm, hBm⟩ : ∃ b, w.heap.size = b := ⟨_, rfl⟩
  rw [hBm] at HM
  simp only [hBm]
  generalize w.alloc (.cells #[.string m.name, .int .i64 m.to, .int .i64 m.spd, .int .i64 m.rise, .int .i64 m.fall] 23) = W0 at *
  go_upto_region 5 with (first
    | (go_at_call 10; (with_reducible refine (awake_any _).mono ?_); rintro e w1 ⟨rfl, hB1⟩; obtain ⟨k0', k1', k2', k3', k4'⟩ := HM.out.carry hB1)
    | (go_at_call 19; (with_reducible refine (ready_any d m _).mono ?_); rintro e w2 ⟨rfl, hb2⟩; rw [HR.out]; have hB2 := hB1.trans (hb2.mono hB1.size); clear k0' k1' k2' k3' k4'; obtain ⟨k0', k1', k2', k3', k4'⟩ := HM.out.carry hB2))
  go_upto_region 14 with (fail)
  have b3 : Below W0.heap.size W0 (w2.alloc (.cells #[.string m.name, .int .i64 m.to, .int .i64 (m.spd + k), .int .i64 m.rise, .int .i64 m.fall] 23)) := below_a _ hB2
  have hN : MvAt (w2.alloc (.cells #[.string m.name, .int .i64 m.to, .int .i64 (m.spd + k), .int .i64 m.rise, .int .i64 m.fall] 23)) w2.heap.size ⟨m.name, m.to, m.spd + k, m.rise, m.fall⟩ := MvAt.new w2 ⟨m.name, m.to, m.spd + k, m.rise, m.fall⟩ _
  have hM := HM.out.carry b3
  have hW3 := hW0.trans (b3.mono hW0.size)
  clear HM hB1 hb2 hB2 b3 hW0 k0' k1' k2' k3' k4'
  generalize w2.alloc (.cells #[.string m.name, .int .i64 m.to, .int .i64 (m.spd + k), .int .i64 m.rise, .int .i64 m.fall] 23) = W3 at *
  generalize w2.heap.size = B9 at *
  have hz1 : Bm < W3.heap.size := World.block_lt_of_cell? _ _ hM.1
  have hz2 : B9 < W3.heap.size := World.block_lt_of_cell? _ _ hN.1
  have HM := Lib.hid hM
  have HN := Lib.hid hN
  clear hN
  obtain ⟨k0', k1', k2', k3', k4'⟩ := hM
  go_upto_region 15 with (fail)
  go_region
  all_goals go_upto_region 16 with (fail)
  have b4 : Below W3.heap.size W3 (W3.alloc (.cells #[.string m.name, .int .i64 m.to, .int .i64 m.spd, .int .i64 m.fall, .int .i64 m.rise] 23)).drew := (below_new _ _).drew
  have hT : MvAt (W3.alloc (.cells #[.string m.name, .int .i64 m.to, .int .i64 m.spd, .int .i64 m.fall, .int .i64 m.rise] 23)).drew W3.heap.size ⟨m.name, m.to, m.spd, m.fall, m.rise⟩ := by
    have h := MvAt.new W3 ⟨m.name, m.to, m.spd, m.fall, m.rise⟩ 23
    exact ⟨(World.cell?_drew _ _).trans h.1, (World.cell?_drew _ _).trans h.2.1, (World.cell?_drew _ _).trans h.2.2.1, (World.cell?_drew _ _).trans h.2.2.2.1, (World.cell?_drew _ _).trans h.2.2.2.2⟩
  have HM := Lib.hid (HM.out.carry b4)
  have HN := Lib.hid (HN.out.carry b4)
  have hW4 := hW3.trans (b4.mono hW3.size)
  clear b4 hW3 hz1 hz2 k0' k1' k2' k3' k4'
  generalize (W3.alloc (.cells #[.string m.name, .int .i64 m.to, .int .i64 m.spd, .int .i64 m.fall, .int .i64 m.rise] 23)).drew = W5 at *
  generalize W3.heap.size = B11 at *
  have HT := Lib.hid hT
  clear hT
  obtain ⟨k0', k1', k2', k3', k4'⟩ := HM.out
  go_upto_region 17 with (go_at_call 20; (with_reducible refine (T1.out _).mono ?_); rintro e w6 ⟨rfl, hb6⟩)
  have b6 : Below W5.heap.size W5 (w6.alloc (.cells #[.int .i64 p1, .int .i64 p2] 39)) := below_a _ hb6
  have hP := C2.new w6 (.int .i64 p1) (.int .i64 p2) 39
  have HN := Lib.hid (HN.out.carry b6)
  have HT := Lib.hid (HT.out.carry b6)
  have hW6 := hW4.trans (b6.mono hW4.size)
  clear b6 hb6 hW4 HM k0' k1' k2' k3' k4'
  generalize (w6.alloc (.cells #[.int .i64 p1, .int .i64 p2] 39)) = W6 at *
  generalize w6.heap.size = B12 at *
  have HP := Lib.hid hP
  clear hP
  obtain ⟨k0', k1', k2', k3', k4'⟩ := HT.out
  try dsimp only at k0' k1' k2' k3' k4'
  go_upto_region 18 with (go_at_call 20; (with_reducible refine (T2.out _).mono ?_); rintro e w7 ⟨rfl, hb7⟩)
  have b7 : Below W6.heap.size W6 (w7.alloc (.cells #[.int .i64 p1, .int .i64 p2] 39)) := below_a _ hb7
  have hP2 := C2.new w7 (.int .i64 p1) (.int .i64 p2) 39
  have HN := Lib.hid (HN.out.carry b7)
  have HP := Lib.hid (HP.out.carry b7)
  have hW7 := hW6.trans (b7.mono hW6.size)
  clear b7 hb7 hW6 HT k0' k1' k2' k3' k4'
  generalize (w7.alloc (.cells #[.int .i64 p1, .int .i64 p2] 39)) = W7 at *
  generalize w7.heap.size = B14 at *
  obtain ⟨k0', k1', k2', k3', k4'⟩ := HN.out
  try dsimp only at k0' k1' k2' k3' k4'
  obtain ⟨l0, l1⟩ := HP.out
  obtain ⟨l2, l3⟩ := hP2
  go_upto_region 20 with (fail)
  cases b
  · go_wp2_with (go_at_call 19; (with_reducible refine (RN.out _).mono ?_); rintro e w8 ⟨rfl, hb8⟩)
    go_ret
    exact ⟨rfl, hW7.trans (hb8.mono hW7.size)⟩
  · obtain ⟨v1, v2, z, v10, v11, v20, v21, hz, hdz, T4⟩ := W4.out rfl
    rw [hz] at hdz
    have T4 := Lib.hid T4
    have CM : Hid (∀ w : World, Calls Try.prog 21 #[.agg #[.int .i64 v1, .int .i64 v2], .agg #[.int .i64 p1, .int .i64 p2]] w fun e w' => e = .returned (.int .i64 z) ∧ Below w.heap.size w w') := Lib.hid fun w => by
      have h := rcmp_any v1 v2 p1 p2 v10 (by omega) (by omega) (by omega) P0 (by omega) (by omega) (by omega) w
      rwa [hz] at h
    clear hz W4
    go_upto_region 22 with (go_at_call 19; (with_reducible refine (RN.out _).mono ?_); rintro e w8 ⟨rfl, hb8⟩)
    have HN := Lib.hid (HN.out.carry hb8)
    have HP := Lib.hid (HP.out.carry hb8)
    have hW8 := hW7.trans (hb8.mono hW7.size)
    clear hb8 hW7 k0' k1' k2' k3' k4' l0 l1 l2 l3
    obtain ⟨k0', k1', k2', k3', k4'⟩ := HN.out
    try dsimp only at k0' k1' k2' k3' k4'
    go_upto_region 25 with (go_at_call 20; (with_reducible refine (T4.out _).mono ?_); rintro e w9 ⟨rfl, hb9⟩)
    have b9 : Below w8.heap.size w8 (w9.alloc (.cells #[.int .i64 v1, .int .i64 v2] 39)) := below_a _ hb9
    have hV := C2.new w9 (.int .i64 v1) (.int .i64 v2) 39
    obtain ⟨l0, l1⟩ := HP.out.carry b9
    have hW9 := hW8.trans (b9.mono hW8.size)
    clear b9 hb9 hW8 k0' k1' k2' k3' k4'
    generalize (w9.alloc (.cells #[.int .i64 v1, .int .i64 v2] 39)) = W9 at *
    generalize w9.heap.size = B16 at *
    obtain ⟨l2, l3⟩ := hV
    go_wp2_with (go_at_call 21; (with_reducible refine (CM.out _).mono ?_); rintro e w10 ⟨rfl, hb10⟩)
    go_ret
    exact ⟨rfl, hW9.trans (hb10.mono hW9.size)⟩

set_option maxRecDepth 100000 in
set_option maxHeartbeats 16000000 in
theorem lawfaster_1 (d : Int) (m : Mv) (k q : Int) (k0 : 0 ≤ k) (k1 : k ≤ 65535) (q0 : 0 ≤ q) (_ : q ≤ 255) (hc : q % 4 = 1) (hr : readyP d m = true) (w : World) : Calls Try.prog 5 #[.int .i64 d, .agg #[.string m.name, .int .i64 m.to, .int .i64 m.spd, .int .i64 m.rise, .int .i64 m.fall], .int .u16 k, .int .u8 q] w fun e w' => e = .returned (.bool true) ∧ Below w.heap.size w w' := by
  obtain ⟨t, ht0⟩ := top_some d m
  obtain ⟨_, hg⟩ := ready_iff.1 hr
  have ht := ht0 hg
  obtain ⟨hv, hdd⟩ := given_ok hg
  obtain ⟨V0, V1, R0, R1, F0, F1⟩ := valid_bds hv
  obtain ⟨d1, d2⟩ := inB_iff.1 hdd
  have HR := Lib.hid hr
  have HG := Lib.hid hg
  have T1 := Lib.hid (Time_any d m t ht0)
  have T2 : Hid (∀ w : World, Calls Try.prog 20 #[.int .i64 d, .agg #[.string m.name, .int .i64 m.to, .int .i64 m.spd, .int .i64 m.fall, .int .i64 m.rise]] w fun e w' => e = .returned (.tuple #[.agg #[.int .i64 (timeP d m t).1, .int .i64 (timeP d m t).2], .int .i64 0]) ∧ Below w.heap.size w w') := Lib.hid fun w => by
    have h := Time_any d (turnedM m) t (fun _ => top_swap ht) w
    rw [turned_time hg, turned_given, hg] at h
    exact h
  obtain ⟨P0, P1, P2, P3⟩ := time_bd hg ht
  obtain ⟨b, hb⟩ : ∃ b, readyP d ⟨m.name, m.to, m.spd, m.rise + k, m.fall⟩ = b := ⟨_, rfl⟩
  have HB := Lib.hid hb
  have RN : Hid (∀ w : World, Calls Try.prog 19 #[.int .i64 d, .agg #[.string m.name, .int .i64 m.to, .int .i64 m.spd, .int .i64 (m.rise + k), .int .i64 m.fall]] w fun e w' => e = .returned (.bool b) ∧ Below w.heap.size w w') := Lib.hid fun w => by
    have h := ready_any d ⟨m.name, m.to, m.spd, m.rise + k, m.fall⟩ w
    rw [hb] at h
    exact h
  have W4 : Hid (b = true → ∃ v1 v2 z : Int, 0 ≤ v1 ∧ v1 ≤ 1152921504606846976 ∧ 0 < v2 ∧ v2 ≤ 1152921504606846976 ∧ cmpP (v1 * (timeP d m t).2) ((timeP d m t).1 * v2) = z ∧ decide (cmpP (v1 * (timeP d m t).2) ((timeP d m t).1 * v2) ≤ 0) = true ∧ ∀ w : World, Calls Try.prog 20 #[.int .i64 d, .agg #[.string m.name, .int .i64 m.to, .int .i64 m.spd, .int .i64 (m.rise + k), .int .i64 m.fall]] w fun e w' => e = .returned (.tuple #[.agg #[.int .i64 v1, .int .i64 v2], .int .i64 0]) ∧ Below w.heap.size w w') := Lib.hid fun h => by
    subst h
    obtain ⟨s, hs0⟩ := top_some d ⟨m.name, m.to, m.spd, m.rise + k, m.fall⟩
    obtain ⟨_, hg'⟩ := ready_iff.1 hb
    have hs := hs0 hg'
    obtain ⟨Q0, Q1, Q2, Q3⟩ := time_bd hg' hs
    refine ⟨_, _, _, Q0, Q1, Q2, Q3, rfl, ?_, fun w => ?_⟩
    · exact cmp_le (faster_cmp 1 (by decide) k0 hg ht hg' hs)
    · have h := Time_any d ⟨m.name, m.to, m.spd, m.rise + k, m.fall⟩ s hs0 w
      rw [hg'] at h
      exact h
  rw [HG.out] at T1
  generalize timeP d m t = P at *
  obtain ⟨p1, p2⟩ := P
  simp only at P0 P1 P2 P3 T1 T2 W4
  have c0 : (q % 4 == 0) = false := by rw [hc]; rfl
  have c1 : (q % 4 == 1) = true := by rw [hc]; rfl
  have c2 : (q % 4 == 2) = false := by rw [hc]; rfl
  have c3 : (q % 4 == 3) = false := by rw [hc]; rfl
  have c4 : (q % 4 != 3) = true := by rw [hc]; rfl
  have s1 : IntKind.i64.wrap k = k := IntWalk.i64_in _ (by omega)
  have s2 : IntKind.i64.wrap (m.rise + k) = m.rise + k := IntWalk.i64_in _ (by omega)
  have r1 : (p1 != p1) = false := by simp
  have r2 : (p2 != p2) = false := by simp
  clear hr ht0 hg ht hv hdd hb hc HB
  have HM := Lib.hid (MvAt.new w m 23)
  have hW0 := below_new w (.cells #[.string m.name, .int .i64 m.to, .int .i64 m.spd, .int .i64 m.rise, .int .i64 m.fall] 23)
  go_enter Try.func5, Try.ntmps5
  go_upto_region 1 with (fail)
  obtain ⟨Bm, hBm⟩ : ∃ b, w.heap.size = b := ⟨_, rfl⟩
  rw [hBm] at HM
  simp only [hBm]
  generalize w.alloc (.cells #[.string m.name, .int .i64 m.to, .int .i64 m.spd, .int .i64 m.rise, .int .i64 m.fall] 23) = W0 at *
  go_upto_region 5 with (first
    | (go_at_call 10; (with_reducible refine (awake_any _).mono ?_); rintro e w1 ⟨rfl, hB1⟩; obtain ⟨k0', k1', k2', k3', k4'⟩ := HM.out.carry hB1)
    | (go_at_call 19; (with_reducible refine (ready_any d m _).mono ?_); rintro e w2 ⟨rfl, hb2⟩; rw [HR.out]; have hB2 := hB1.trans (hb2.mono hB1.size); clear k0' k1' k2' k3' k4'; obtain ⟨k0', k1', k2', k3', k4'⟩ := HM.out.carry hB2))
  go_upto_region 14 with (fail)
  have b3 : Below W0.heap.size W0 (w2.alloc (.cells #[.string m.name, .int .i64 m.to, .int .i64 m.spd, .int .i64 (m.rise + k), .int .i64 m.fall] 23)) := below_a _ hB2
  have hN : MvAt (w2.alloc (.cells #[.string m.name, .int .i64 m.to, .int .i64 m.spd, .int .i64 (m.rise + k), .int .i64 m.fall] 23)) w2.heap.size ⟨m.name, m.to, m.spd, m.rise + k, m.fall⟩ := MvAt.new w2 ⟨m.name, m.to, m.spd, m.rise + k, m.fall⟩ _
  have hM := HM.out.carry b3
  have hW3 := hW0.trans (b3.mono hW0.size)
  clear HM hB1 hb2 hB2 b3 hW0 k0' k1' k2' k3' k4'
  generalize w2.alloc (.cells #[.string m.name, .int .i64 m.to, .int .i64 m.spd, .int .i64 (m.rise + k), .int .i64 m.fall] 23) = W3 at *
  generalize w2.heap.size = B9 at *
  have hz1 : Bm < W3.heap.size := World.block_lt_of_cell? _ _ hM.1
  have hz2 : B9 < W3.heap.size := World.block_lt_of_cell? _ _ hN.1
  have HM := Lib.hid hM
  have HN := Lib.hid hN
  clear hN
  obtain ⟨k0', k1', k2', k3', k4'⟩ := hM
  go_upto_region 15 with (fail)
  go_region
  all_goals go_upto_region 16 with (fail)
  have b4 : Below W3.heap.size W3 (W3.alloc (.cells #[.string m.name, .int .i64 m.to, .int .i64 m.spd, .int .i64 m.fall, .int .i64 m.rise] 23)).drew := (below_new _ _).drew
  have hT : MvAt (W3.alloc (.cells #[.string m.name, .int .i64 m.to, .int .i64 m.spd, .int .i64 m.fall, .int .i64 m.rise] 23)).drew W3.heap.size ⟨m.name, m.to, m.spd, m.fall, m.rise⟩ := by
    have h := MvAt.new W3 ⟨m.name, m.to, m.spd, m.fall, m.rise⟩ 23
    exact ⟨(World.cell?_drew _ _).trans h.1, (World.cell?_drew _ _).trans h.2.1, (World.cell?_drew _ _).trans h.2.2.1, (World.cell?_drew _ _).trans h.2.2.2.1, (World.cell?_drew _ _).trans h.2.2.2.2⟩
  have HM := Lib.hid (HM.out.carry b4)
  have HN := Lib.hid (HN.out.carry b4)
  have hW4 := hW3.trans (b4.mono hW3.size)
  clear b4 hW3 hz1 hz2 k0' k1' k2' k3' k4'
  generalize (W3.alloc (.cells #[.string m.name, .int .i64 m.to, .int .i64 m.spd, .int .i64 m.fall, .int .i64 m.rise] 23)).drew = W5 at *
  generalize W3.heap.size = B11 at *
  have HT := Lib.hid hT
  clear hT
  obtain ⟨k0', k1', k2', k3', k4'⟩ := HM.out
  go_upto_region 17 with (go_at_call 20; (with_reducible refine (T1.out _).mono ?_); rintro e w6 ⟨rfl, hb6⟩)
  have b6 : Below W5.heap.size W5 (w6.alloc (.cells #[.int .i64 p1, .int .i64 p2] 39)) := below_a _ hb6
  have hP := C2.new w6 (.int .i64 p1) (.int .i64 p2) 39
  have HN := Lib.hid (HN.out.carry b6)
  have HT := Lib.hid (HT.out.carry b6)
  have hW6 := hW4.trans (b6.mono hW4.size)
  clear b6 hb6 hW4 HM k0' k1' k2' k3' k4'
  generalize (w6.alloc (.cells #[.int .i64 p1, .int .i64 p2] 39)) = W6 at *
  generalize w6.heap.size = B12 at *
  have HP := Lib.hid hP
  clear hP
  obtain ⟨k0', k1', k2', k3', k4'⟩ := HT.out
  try dsimp only at k0' k1' k2' k3' k4'
  go_upto_region 18 with (go_at_call 20; (with_reducible refine (T2.out _).mono ?_); rintro e w7 ⟨rfl, hb7⟩)
  have b7 : Below W6.heap.size W6 (w7.alloc (.cells #[.int .i64 p1, .int .i64 p2] 39)) := below_a _ hb7
  have hP2 := C2.new w7 (.int .i64 p1) (.int .i64 p2) 39
  have HN := Lib.hid (HN.out.carry b7)
  have HP := Lib.hid (HP.out.carry b7)
  have hW7 := hW6.trans (b7.mono hW6.size)
  clear b7 hb7 hW6 HT k0' k1' k2' k3' k4'
  generalize (w7.alloc (.cells #[.int .i64 p1, .int .i64 p2] 39)) = W7 at *
  generalize w7.heap.size = B14 at *
  obtain ⟨k0', k1', k2', k3', k4'⟩ := HN.out
  try dsimp only at k0' k1' k2' k3' k4'
  obtain ⟨l0, l1⟩ := HP.out
  obtain ⟨l2, l3⟩ := hP2
  go_upto_region 20 with (fail)
  cases b
  · go_wp2_with (go_at_call 19; (with_reducible refine (RN.out _).mono ?_); rintro e w8 ⟨rfl, hb8⟩)
    go_ret
    exact ⟨rfl, hW7.trans (hb8.mono hW7.size)⟩
  · obtain ⟨v1, v2, z, v10, v11, v20, v21, hz, hdz, T4⟩ := W4.out rfl
    rw [hz] at hdz
    have T4 := Lib.hid T4
    have CM : Hid (∀ w : World, Calls Try.prog 21 #[.agg #[.int .i64 v1, .int .i64 v2], .agg #[.int .i64 p1, .int .i64 p2]] w fun e w' => e = .returned (.int .i64 z) ∧ Below w.heap.size w w') := Lib.hid fun w => by
      have h := rcmp_any v1 v2 p1 p2 v10 (by omega) (by omega) (by omega) P0 (by omega) (by omega) (by omega) w
      rwa [hz] at h
    clear hz W4
    go_upto_region 22 with (go_at_call 19; (with_reducible refine (RN.out _).mono ?_); rintro e w8 ⟨rfl, hb8⟩)
    have HN := Lib.hid (HN.out.carry hb8)
    have HP := Lib.hid (HP.out.carry hb8)
    have hW8 := hW7.trans (hb8.mono hW7.size)
    clear hb8 hW7 k0' k1' k2' k3' k4' l0 l1 l2 l3
    obtain ⟨k0', k1', k2', k3', k4'⟩ := HN.out
    try dsimp only at k0' k1' k2' k3' k4'
    go_upto_region 25 with (go_at_call 20; (with_reducible refine (T4.out _).mono ?_); rintro e w9 ⟨rfl, hb9⟩)
    have b9 : Below w8.heap.size w8 (w9.alloc (.cells #[.int .i64 v1, .int .i64 v2] 39)) := below_a _ hb9
    have hV := C2.new w9 (.int .i64 v1) (.int .i64 v2) 39
    obtain ⟨l0, l1⟩ := HP.out.carry b9
    have hW9 := hW8.trans (b9.mono hW8.size)
    clear b9 hb9 hW8 k0' k1' k2' k3' k4'
    generalize (w9.alloc (.cells #[.int .i64 v1, .int .i64 v2] 39)) = W9 at *
    generalize w9.heap.size = B16 at *
    obtain ⟨l2, l3⟩ := hV
    go_wp2_with (go_at_call 21; (with_reducible refine (CM.out _).mono ?_); rintro e w10 ⟨rfl, hb10⟩)
    go_ret
    exact ⟨rfl, hW9.trans (hb10.mono hW9.size)⟩

set_option maxRecDepth 100000 in
set_option maxHeartbeats 16000000 in
theorem lawfaster_2 (d : Int) (m : Mv) (k q : Int) (k0 : 0 ≤ k) (k1 : k ≤ 65535) (q0 : 0 ≤ q) (_ : q ≤ 255) (hc : q % 4 = 2) (hr : readyP d m = true) (w : World) : Calls Try.prog 5 #[.int .i64 d, .agg #[.string m.name, .int .i64 m.to, .int .i64 m.spd, .int .i64 m.rise, .int .i64 m.fall], .int .u16 k, .int .u8 q] w fun e w' => e = .returned (.bool true) ∧ Below w.heap.size w w' := by
  obtain ⟨t, ht0⟩ := top_some d m
  obtain ⟨_, hg⟩ := ready_iff.1 hr
  have ht := ht0 hg
  obtain ⟨hv, hdd⟩ := given_ok hg
  obtain ⟨V0, V1, R0, R1, F0, F1⟩ := valid_bds hv
  obtain ⟨d1, d2⟩ := inB_iff.1 hdd
  have HR := Lib.hid hr
  have HG := Lib.hid hg
  have T1 := Lib.hid (Time_any d m t ht0)
  have T2 : Hid (∀ w : World, Calls Try.prog 20 #[.int .i64 d, .agg #[.string m.name, .int .i64 m.to, .int .i64 m.spd, .int .i64 m.fall, .int .i64 m.rise]] w fun e w' => e = .returned (.tuple #[.agg #[.int .i64 (timeP d m t).1, .int .i64 (timeP d m t).2], .int .i64 0]) ∧ Below w.heap.size w w') := Lib.hid fun w => by
    have h := Time_any d (turnedM m) t (fun _ => top_swap ht) w
    rw [turned_time hg, turned_given, hg] at h
    exact h
  obtain ⟨P0, P1, P2, P3⟩ := time_bd hg ht
  obtain ⟨b, hb⟩ : ∃ b, readyP d ⟨m.name, m.to, m.spd, m.rise, m.fall + k⟩ = b := ⟨_, rfl⟩
  have HB := Lib.hid hb
  have RN : Hid (∀ w : World, Calls Try.prog 19 #[.int .i64 d, .agg #[.string m.name, .int .i64 m.to, .int .i64 m.spd, .int .i64 m.rise, .int .i64 (m.fall + k)]] w fun e w' => e = .returned (.bool b) ∧ Below w.heap.size w w') := Lib.hid fun w => by
    have h := ready_any d ⟨m.name, m.to, m.spd, m.rise, m.fall + k⟩ w
    rw [hb] at h
    exact h
  have W4 : Hid (b = true → ∃ v1 v2 z : Int, 0 ≤ v1 ∧ v1 ≤ 1152921504606846976 ∧ 0 < v2 ∧ v2 ≤ 1152921504606846976 ∧ cmpP (v1 * (timeP d m t).2) ((timeP d m t).1 * v2) = z ∧ decide (cmpP (v1 * (timeP d m t).2) ((timeP d m t).1 * v2) ≤ 0) = true ∧ ∀ w : World, Calls Try.prog 20 #[.int .i64 d, .agg #[.string m.name, .int .i64 m.to, .int .i64 m.spd, .int .i64 m.rise, .int .i64 (m.fall + k)]] w fun e w' => e = .returned (.tuple #[.agg #[.int .i64 v1, .int .i64 v2], .int .i64 0]) ∧ Below w.heap.size w w') := Lib.hid fun h => by
    subst h
    obtain ⟨s, hs0⟩ := top_some d ⟨m.name, m.to, m.spd, m.rise, m.fall + k⟩
    obtain ⟨_, hg'⟩ := ready_iff.1 hb
    have hs := hs0 hg'
    obtain ⟨Q0, Q1, Q2, Q3⟩ := time_bd hg' hs
    refine ⟨_, _, _, Q0, Q1, Q2, Q3, rfl, ?_, fun w => ?_⟩
    · exact cmp_le (faster_cmp 2 (by decide) k0 hg ht hg' hs)
    · have h := Time_any d ⟨m.name, m.to, m.spd, m.rise, m.fall + k⟩ s hs0 w
      rw [hg'] at h
      exact h
  rw [HG.out] at T1
  generalize timeP d m t = P at *
  obtain ⟨p1, p2⟩ := P
  simp only at P0 P1 P2 P3 T1 T2 W4
  have c0 : (q % 4 == 0) = false := by rw [hc]; rfl
  have c1 : (q % 4 == 1) = false := by rw [hc]; rfl
  have c2 : (q % 4 == 2) = true := by rw [hc]; rfl
  have c3 : (q % 4 == 3) = false := by rw [hc]; rfl
  have c4 : (q % 4 != 3) = true := by rw [hc]; rfl
  have s1 : IntKind.i64.wrap k = k := IntWalk.i64_in _ (by omega)
  have s2 : IntKind.i64.wrap (m.fall + k) = m.fall + k := IntWalk.i64_in _ (by omega)
  have r1 : (p1 != p1) = false := by simp
  have r2 : (p2 != p2) = false := by simp
  clear hr ht0 hg ht hv hdd hb hc HB
  have HM := Lib.hid (MvAt.new w m 23)
  have hW0 := below_new w (.cells #[.string m.name, .int .i64 m.to, .int .i64 m.spd, .int .i64 m.rise, .int .i64 m.fall] 23)
  go_enter Try.func5, Try.ntmps5
  go_upto_region 1 with (fail)
  obtain ⟨Bm, hBm⟩ : ∃ b, w.heap.size = b := ⟨_, rfl⟩
  rw [hBm] at HM
  simp only [hBm]
  generalize w.alloc (.cells #[.string m.name, .int .i64 m.to, .int .i64 m.spd, .int .i64 m.rise, .int .i64 m.fall] 23) = W0 at *
  go_upto_region 5 with (first
    | (go_at_call 10; (with_reducible refine (awake_any _).mono ?_); rintro e w1 ⟨rfl, hB1⟩; obtain ⟨k0', k1', k2', k3', k4'⟩ := HM.out.carry hB1)
    | (go_at_call 19; (with_reducible refine (ready_any d m _).mono ?_); rintro e w2 ⟨rfl, hb2⟩; rw [HR.out]; have hB2 := hB1.trans (hb2.mono hB1.size); clear k0' k1' k2' k3' k4'; obtain ⟨k0', k1', k2', k3', k4'⟩ := HM.out.carry hB2))
  go_upto_region 14 with (fail)
  have b3 : Below W0.heap.size W0 (w2.alloc (.cells #[.string m.name, .int .i64 m.to, .int .i64 m.spd, .int .i64 m.rise, .int .i64 (m.fall + k)] 23)) := below_a _ hB2
  have hN : MvAt (w2.alloc (.cells #[.string m.name, .int .i64 m.to, .int .i64 m.spd, .int .i64 m.rise, .int .i64 (m.fall + k)] 23)) w2.heap.size ⟨m.name, m.to, m.spd, m.rise, m.fall + k⟩ := MvAt.new w2 ⟨m.name, m.to, m.spd, m.rise, m.fall + k⟩ _
  have hM := HM.out.carry b3
  have hW3 := hW0.trans (b3.mono hW0.size)
  clear HM hB1 hb2 hB2 b3 hW0 k0' k1' k2' k3' k4'
  generalize w2.alloc (.cells #[.string m.name, .int .i64 m.to, .int .i64 m.spd, .int .i64 m.rise, .int .i64 (m.fall + k)] 23) = W3 at *
  generalize w2.heap.size = B9 at *
  have hz1 : Bm < W3.heap.size := World.block_lt_of_cell? _ _ hM.1
  have hz2 : B9 < W3.heap.size := World.block_lt_of_cell? _ _ hN.1
  have HM := Lib.hid hM
  have HN := Lib.hid hN
  clear hN
  obtain ⟨k0', k1', k2', k3', k4'⟩ := hM
  go_upto_region 15 with (fail)
  go_region
  all_goals go_upto_region 16 with (fail)
  have b4 : Below W3.heap.size W3 (W3.alloc (.cells #[.string m.name, .int .i64 m.to, .int .i64 m.spd, .int .i64 m.fall, .int .i64 m.rise] 23)).drew := (below_new _ _).drew
  have hT : MvAt (W3.alloc (.cells #[.string m.name, .int .i64 m.to, .int .i64 m.spd, .int .i64 m.fall, .int .i64 m.rise] 23)).drew W3.heap.size ⟨m.name, m.to, m.spd, m.fall, m.rise⟩ := by
    have h := MvAt.new W3 ⟨m.name, m.to, m.spd, m.fall, m.rise⟩ 23
    exact ⟨(World.cell?_drew _ _).trans h.1, (World.cell?_drew _ _).trans h.2.1, (World.cell?_drew _ _).trans h.2.2.1, (World.cell?_drew _ _).trans h.2.2.2.1, (World.cell?_drew _ _).trans h.2.2.2.2⟩
  have HM := Lib.hid (HM.out.carry b4)
  have HN := Lib.hid (HN.out.carry b4)
  have hW4 := hW3.trans (b4.mono hW3.size)
  clear b4 hW3 hz1 hz2 k0' k1' k2' k3' k4'
  generalize (W3.alloc (.cells #[.string m.name, .int .i64 m.to, .int .i64 m.spd, .int .i64 m.fall, .int .i64 m.rise] 23)).drew = W5 at *
  generalize W3.heap.size = B11 at *
  have HT := Lib.hid hT
  clear hT
  obtain ⟨k0', k1', k2', k3', k4'⟩ := HM.out
  go_upto_region 17 with (go_at_call 20; (with_reducible refine (T1.out _).mono ?_); rintro e w6 ⟨rfl, hb6⟩)
  have b6 : Below W5.heap.size W5 (w6.alloc (.cells #[.int .i64 p1, .int .i64 p2] 39)) := below_a _ hb6
  have hP := C2.new w6 (.int .i64 p1) (.int .i64 p2) 39
  have HN := Lib.hid (HN.out.carry b6)
  have HT := Lib.hid (HT.out.carry b6)
  have hW6 := hW4.trans (b6.mono hW4.size)
  clear b6 hb6 hW4 HM k0' k1' k2' k3' k4'
  generalize (w6.alloc (.cells #[.int .i64 p1, .int .i64 p2] 39)) = W6 at *
  generalize w6.heap.size = B12 at *
  have HP := Lib.hid hP
  clear hP
  obtain ⟨k0', k1', k2', k3', k4'⟩ := HT.out
  try dsimp only at k0' k1' k2' k3' k4'
  go_upto_region 18 with (go_at_call 20; (with_reducible refine (T2.out _).mono ?_); rintro e w7 ⟨rfl, hb7⟩)
  have b7 : Below W6.heap.size W6 (w7.alloc (.cells #[.int .i64 p1, .int .i64 p2] 39)) := below_a _ hb7
  have hP2 := C2.new w7 (.int .i64 p1) (.int .i64 p2) 39
  have HN := Lib.hid (HN.out.carry b7)
  have HP := Lib.hid (HP.out.carry b7)
  have hW7 := hW6.trans (b7.mono hW6.size)
  clear b7 hb7 hW6 HT k0' k1' k2' k3' k4'
  generalize (w7.alloc (.cells #[.int .i64 p1, .int .i64 p2] 39)) = W7 at *
  generalize w7.heap.size = B14 at *
  obtain ⟨k0', k1', k2', k3', k4'⟩ := HN.out
  try dsimp only at k0' k1' k2' k3' k4'
  obtain ⟨l0, l1⟩ := HP.out
  obtain ⟨l2, l3⟩ := hP2
  go_upto_region 20 with (fail)
  cases b
  · go_wp2_with (go_at_call 19; (with_reducible refine (RN.out _).mono ?_); rintro e w8 ⟨rfl, hb8⟩)
    go_ret
    exact ⟨rfl, hW7.trans (hb8.mono hW7.size)⟩
  · obtain ⟨v1, v2, z, v10, v11, v20, v21, hz, hdz, T4⟩ := W4.out rfl
    rw [hz] at hdz
    have T4 := Lib.hid T4
    have CM : Hid (∀ w : World, Calls Try.prog 21 #[.agg #[.int .i64 v1, .int .i64 v2], .agg #[.int .i64 p1, .int .i64 p2]] w fun e w' => e = .returned (.int .i64 z) ∧ Below w.heap.size w w') := Lib.hid fun w => by
      have h := rcmp_any v1 v2 p1 p2 v10 (by omega) (by omega) (by omega) P0 (by omega) (by omega) (by omega) w
      rwa [hz] at h
    clear hz W4
    go_upto_region 22 with (go_at_call 19; (with_reducible refine (RN.out _).mono ?_); rintro e w8 ⟨rfl, hb8⟩)
    have HN := Lib.hid (HN.out.carry hb8)
    have HP := Lib.hid (HP.out.carry hb8)
    have hW8 := hW7.trans (hb8.mono hW7.size)
    clear hb8 hW7 k0' k1' k2' k3' k4' l0 l1 l2 l3
    obtain ⟨k0', k1', k2', k3', k4'⟩ := HN.out
    try dsimp only at k0' k1' k2' k3' k4'
    go_upto_region 25 with (go_at_call 20; (with_reducible refine (T4.out _).mono ?_); rintro e w9 ⟨rfl, hb9⟩)
    have b9 : Below w8.heap.size w8 (w9.alloc (.cells #[.int .i64 v1, .int .i64 v2] 39)) := below_a _ hb9
    have hV := C2.new w9 (.int .i64 v1) (.int .i64 v2) 39
    obtain ⟨l0, l1⟩ := HP.out.carry b9
    have hW9 := hW8.trans (b9.mono hW8.size)
    clear b9 hb9 hW8 k0' k1' k2' k3' k4'
    generalize (w9.alloc (.cells #[.int .i64 v1, .int .i64 v2] 39)) = W9 at *
    generalize w9.heap.size = B16 at *
    obtain ⟨l2, l3⟩ := hV
    go_wp2_with (go_at_call 21; (with_reducible refine (CM.out _).mono ?_); rintro e w10 ⟨rfl, hb10⟩)
    go_ret
    exact ⟨rfl, hW9.trans (hb10.mono hW9.size)⟩

set_option maxRecDepth 100000 in
set_option maxHeartbeats 16000000 in
theorem lawfaster_3 (d : Int) (m : Mv) (k q : Int) (k0 : 0 ≤ k) (k1 : k ≤ 65535) (q0 : 0 ≤ q) (_ : q ≤ 255) (hc : q % 4 = 3) (hr : readyP d m = true) (w : World) : Calls Try.prog 5 #[.int .i64 d, .agg #[.string m.name, .int .i64 m.to, .int .i64 m.spd, .int .i64 m.rise, .int .i64 m.fall], .int .u16 k, .int .u8 q] w fun e w' => e = .returned (.bool true) ∧ Below w.heap.size w w' := by
  obtain ⟨t, ht0⟩ := top_some d m
  obtain ⟨_, hg⟩ := ready_iff.1 hr
  have ht := ht0 hg
  obtain ⟨hv, hdd⟩ := given_ok hg
  obtain ⟨V0, V1, R0, R1, F0, F1⟩ := valid_bds hv
  obtain ⟨d1, d2⟩ := inB_iff.1 hdd
  have HR := Lib.hid hr
  have HG := Lib.hid hg
  have T1 := Lib.hid (Time_any d m t ht0)
  have T2 : Hid (∀ w : World, Calls Try.prog 20 #[.int .i64 d, .agg #[.string m.name, .int .i64 m.to, .int .i64 m.spd, .int .i64 m.fall, .int .i64 m.rise]] w fun e w' => e = .returned (.tuple #[.agg #[.int .i64 (timeP d m t).1, .int .i64 (timeP d m t).2], .int .i64 0]) ∧ Below w.heap.size w w') := Lib.hid fun w => by
    have h := Time_any d (turnedM m) t (fun _ => top_swap ht) w
    rw [turned_time hg, turned_given, hg] at h
    exact h
  obtain ⟨P0, P1, P2, P3⟩ := time_bd hg ht
  obtain ⟨b, hb⟩ : ∃ b, readyP (d + k) ⟨m.name, m.to, m.spd, m.rise, m.fall⟩ = b := ⟨_, rfl⟩
  have HB := Lib.hid hb
  have RN : Hid (∀ w : World, Calls Try.prog 19 #[.int .i64 (d + k), .agg #[.string m.name, .int .i64 m.to, .int .i64 m.spd, .int .i64 m.rise, .int .i64 m.fall]] w fun e w' => e = .returned (.bool b) ∧ Below w.heap.size w w') := Lib.hid fun w => by
    have h := ready_any (d + k) ⟨m.name, m.to, m.spd, m.rise, m.fall⟩ w
    rw [hb] at h
    exact h
  have W4 : Hid (b = true → ∃ v1 v2 z : Int, 0 ≤ v1 ∧ v1 ≤ 1152921504606846976 ∧ 0 < v2 ∧ v2 ≤ 1152921504606846976 ∧ cmpP (v1 * (timeP d m t).2) ((timeP d m t).1 * v2) = z ∧ decide (0 ≤ cmpP (v1 * (timeP d m t).2) ((timeP d m t).1 * v2)) = true ∧ ∀ w : World, Calls Try.prog 20 #[.int .i64 (d + k), .agg #[.string m.name, .int .i64 m.to, .int .i64 m.spd, .int .i64 m.rise, .int .i64 m.fall]] w fun e w' => e = .returned (.tuple #[.agg #[.int .i64 v1, .int .i64 v2], .int .i64 0]) ∧ Below w.heap.size w w') := Lib.hid fun h => by
    subst h
    obtain ⟨s, hs0⟩ := top_some (d + k) ⟨m.name, m.to, m.spd, m.rise, m.fall⟩
    obtain ⟨_, hg'⟩ := ready_iff.1 hb
    have hs := hs0 hg'
    obtain ⟨Q0, Q1, Q2, Q3⟩ := time_bd hg' hs
    refine ⟨_, _, _, Q0, Q1, Q2, Q3, rfl, ?_, fun w => ?_⟩
    · exact cmp_ge (farther_cmp k0 hg ht hg' hs)
    · have h := Time_any (d + k) ⟨m.name, m.to, m.spd, m.rise, m.fall⟩ s hs0 w
      rw [hg'] at h
      exact h
  rw [HG.out] at T1
  generalize timeP d m t = P at *
  obtain ⟨p1, p2⟩ := P
  simp only at P0 P1 P2 P3 T1 T2 W4
  have c0 : (q % 4 == 0) = false := by rw [hc]; rfl
  have c1 : (q % 4 == 1) = false := by rw [hc]; rfl
  have c2 : (q % 4 == 2) = false := by rw [hc]; rfl
  have c3 : (q % 4 == 3) = true := by rw [hc]; rfl
  have c4 : (q % 4 != 3) = false := by rw [hc]; rfl
  have s1 : IntKind.i64.wrap k = k := IntWalk.i64_in _ (by omega)
  have s2 : IntKind.i64.wrap (d + k) = d + k := IntWalk.i64_in _ (by omega)
  have r1 : (p1 != p1) = false := by simp
  have r2 : (p2 != p2) = false := by simp
  clear hr ht0 hg ht hv hdd hb hc HB
  have HM := Lib.hid (MvAt.new w m 23)
  have hW0 := below_new w (.cells #[.string m.name, .int .i64 m.to, .int .i64 m.spd, .int .i64 m.rise, .int .i64 m.fall] 23)
  go_enter Try.func5, Try.ntmps5
  go_upto_region 1 with (fail)
  obtain ⟨Bm, hBm⟩ : ∃ b, w.heap.size = b := ⟨_, rfl⟩
  rw [hBm] at HM
  simp only [hBm]
  generalize w.alloc (.cells #[.string m.name, .int .i64 m.to, .int .i64 m.spd, .int .i64 m.rise, .int .i64 m.fall] 23) = W0 at *
  go_upto_region 5 with (first
    | (go_at_call 10; (with_reducible refine (awake_any _).mono ?_); rintro e w1 ⟨rfl, hB1⟩; obtain ⟨k0', k1', k2', k3', k4'⟩ := HM.out.carry hB1)
    | (go_at_call 19; (with_reducible refine (ready_any d m _).mono ?_); rintro e w2 ⟨rfl, hb2⟩; rw [HR.out]; have hB2 := hB1.trans (hb2.mono hB1.size); clear k0' k1' k2' k3' k4'; obtain ⟨k0', k1', k2', k3', k4'⟩ := HM.out.carry hB2))
  go_upto_region 14 with (fail)
  have b3 : Below W0.heap.size W0 (w2.alloc (.cells #[.string m.name, .int .i64 m.to, .int .i64 m.spd, .int .i64 m.rise, .int .i64 m.fall] 23)) := below_a _ hB2
  have hN : MvAt (w2.alloc (.cells #[.string m.name, .int .i64 m.to, .int .i64 m.spd, .int .i64 m.rise, .int .i64 m.fall] 23)) w2.heap.size ⟨m.name, m.to, m.spd, m.rise, m.fall⟩ := MvAt.new w2 ⟨m.name, m.to, m.spd, m.rise, m.fall⟩ _
  have hM := HM.out.carry b3
  have hW3 := hW0.trans (b3.mono hW0.size)
  clear HM hB1 hb2 hB2 b3 hW0 k0' k1' k2' k3' k4'
  generalize w2.alloc (.cells #[.string m.name, .int .i64 m.to, .int .i64 m.spd, .int .i64 m.rise, .int .i64 m.fall] 23) = W3 at *
  generalize w2.heap.size = B9 at *
  have hz1 : Bm < W3.heap.size := World.block_lt_of_cell? _ _ hM.1
  have hz2 : B9 < W3.heap.size := World.block_lt_of_cell? _ _ hN.1
  have HM := Lib.hid hM
  have HN := Lib.hid hN
  clear hN
  obtain ⟨k0', k1', k2', k3', k4'⟩ := hM
  go_upto_region 15 with (fail)
  go_region
  all_goals go_upto_region 16 with (fail)
  have b4 : Below W3.heap.size W3 (W3.alloc (.cells #[.string m.name, .int .i64 m.to, .int .i64 m.spd, .int .i64 m.fall, .int .i64 m.rise] 23)).drew := (below_new _ _).drew
  have hT : MvAt (W3.alloc (.cells #[.string m.name, .int .i64 m.to, .int .i64 m.spd, .int .i64 m.fall, .int .i64 m.rise] 23)).drew W3.heap.size ⟨m.name, m.to, m.spd, m.fall, m.rise⟩ := by
    have h := MvAt.new W3 ⟨m.name, m.to, m.spd, m.fall, m.rise⟩ 23
    exact ⟨(World.cell?_drew _ _).trans h.1, (World.cell?_drew _ _).trans h.2.1, (World.cell?_drew _ _).trans h.2.2.1, (World.cell?_drew _ _).trans h.2.2.2.1, (World.cell?_drew _ _).trans h.2.2.2.2⟩
  have HM := Lib.hid (HM.out.carry b4)
  have HN := Lib.hid (HN.out.carry b4)
  have hW4 := hW3.trans (b4.mono hW3.size)
  clear b4 hW3 hz1 hz2 k0' k1' k2' k3' k4'
  generalize (W3.alloc (.cells #[.string m.name, .int .i64 m.to, .int .i64 m.spd, .int .i64 m.fall, .int .i64 m.rise] 23)).drew = W5 at *
  generalize W3.heap.size = B11 at *
  have HT := Lib.hid hT
  clear hT
  obtain ⟨k0', k1', k2', k3', k4'⟩ := HM.out
  go_upto_region 17 with (go_at_call 20; (with_reducible refine (T1.out _).mono ?_); rintro e w6 ⟨rfl, hb6⟩)
  have b6 : Below W5.heap.size W5 (w6.alloc (.cells #[.int .i64 p1, .int .i64 p2] 39)) := below_a _ hb6
  have hP := C2.new w6 (.int .i64 p1) (.int .i64 p2) 39
  have HN := Lib.hid (HN.out.carry b6)
  have HT := Lib.hid (HT.out.carry b6)
  have hW6 := hW4.trans (b6.mono hW4.size)
  clear b6 hb6 hW4 HM k0' k1' k2' k3' k4'
  generalize (w6.alloc (.cells #[.int .i64 p1, .int .i64 p2] 39)) = W6 at *
  generalize w6.heap.size = B12 at *
  have HP := Lib.hid hP
  clear hP
  obtain ⟨k0', k1', k2', k3', k4'⟩ := HT.out
  try dsimp only at k0' k1' k2' k3' k4'
  go_upto_region 18 with (go_at_call 20; (with_reducible refine (T2.out _).mono ?_); rintro e w7 ⟨rfl, hb7⟩)
  have b7 : Below W6.heap.size W6 (w7.alloc (.cells #[.int .i64 p1, .int .i64 p2] 39)) := below_a _ hb7
  have hP2 := C2.new w7 (.int .i64 p1) (.int .i64 p2) 39
  have HN := Lib.hid (HN.out.carry b7)
  have HP := Lib.hid (HP.out.carry b7)
  have hW7 := hW6.trans (b7.mono hW6.size)
  clear b7 hb7 hW6 HT k0' k1' k2' k3' k4'
  generalize (w7.alloc (.cells #[.int .i64 p1, .int .i64 p2] 39)) = W7 at *
  generalize w7.heap.size = B14 at *
  obtain ⟨k0', k1', k2', k3', k4'⟩ := HN.out
  try dsimp only at k0' k1' k2' k3' k4'
  obtain ⟨l0, l1⟩ := HP.out
  obtain ⟨l2, l3⟩ := hP2
  go_upto_region 20 with (fail)
  cases b
  · go_wp2_with (go_at_call 19; (with_reducible refine (RN.out _).mono ?_); rintro e w8 ⟨rfl, hb8⟩)
    go_ret
    exact ⟨rfl, hW7.trans (hb8.mono hW7.size)⟩
  · obtain ⟨v1, v2, z, v10, v11, v20, v21, hz, hdz, T4⟩ := W4.out rfl
    rw [hz] at hdz
    have T4 := Lib.hid T4
    have CM : Hid (∀ w : World, Calls Try.prog 21 #[.agg #[.int .i64 v1, .int .i64 v2], .agg #[.int .i64 p1, .int .i64 p2]] w fun e w' => e = .returned (.int .i64 z) ∧ Below w.heap.size w w') := Lib.hid fun w => by
      have h := rcmp_any v1 v2 p1 p2 v10 (by omega) (by omega) (by omega) P0 (by omega) (by omega) (by omega) w
      rwa [hz] at h
    clear hz W4
    go_upto_region 22 with (go_at_call 19; (with_reducible refine (RN.out _).mono ?_); rintro e w8 ⟨rfl, hb8⟩)
    have HN := Lib.hid (HN.out.carry hb8)
    have HP := Lib.hid (HP.out.carry hb8)
    have hW8 := hW7.trans (hb8.mono hW7.size)
    clear hb8 hW7 k0' k1' k2' k3' k4' l0 l1 l2 l3
    obtain ⟨k0', k1', k2', k3', k4'⟩ := HN.out
    try dsimp only at k0' k1' k2' k3' k4'
    go_upto_region 25 with (go_at_call 20; (with_reducible refine (T4.out _).mono ?_); rintro e w9 ⟨rfl, hb9⟩)
    have b9 : Below w8.heap.size w8 (w9.alloc (.cells #[.int .i64 v1, .int .i64 v2] 39)) := below_a _ hb9
    have hV := C2.new w9 (.int .i64 v1) (.int .i64 v2) 39
    obtain ⟨l0, l1⟩ := HP.out.carry b9
    have hW9 := hW8.trans (b9.mono hW8.size)
    clear b9 hb9 hW8 k0' k1' k2' k3' k4'
    generalize (w9.alloc (.cells #[.int .i64 v1, .int .i64 v2] 39)) = W9 at *
    generalize w9.heap.size = B16 at *
    obtain ⟨l2, l3⟩ := hV
    go_wp2_with (go_at_call 21; (with_reducible refine (CM.out _).mono ?_); rintro e w10 ⟨rfl, hb10⟩)
    go_ret
    exact ⟨rfl, hW9.trans (hb10.mono hW9.size)⟩

theorem lawfaster_law (d : Int) (m : Mv) (k q : Int) (k0 : 0 ≤ k) (k1 : k ≤ 65535) (q0 : 0 ≤ q) (q1 : q ≤ 255) (w : World) : Calls Try.prog 5 #[.int .i64 d, .agg #[.string m.name, .int .i64 m.to, .int .i64 m.spd, .int .i64 m.rise, .int .i64 m.fall], .int .u16 k, .int .u8 q] w fun e w' => e = .returned (.bool true) ∧ Below w.heap.size w w' := by
  cases hr : readyP d m
  · exact lawfaster_unready d m k q hr w
  · rcases (show q % 4 = 0 ∨ q % 4 = 1 ∨ q % 4 = 2 ∨ q % 4 = 3 by omega) with h | h | h | h
    · exact lawfaster_0 d m k q k0 k1 q0 q1 h hr w
    · exact lawfaster_1 d m k q k0 k1 q0 q1 h hr w
    · exact lawfaster_2 d m k q k0 k1 q0 q1 h hr w
    · exact lawfaster_3 d m k q k0 k1 q0 q1 h hr w
end Go.Proofs.Ytlgpolfbilkmbaa
