/-
  WHEN A LOG IS VALID (plain), and the walk of the reference's Valid.
-/
import Derived.Test.YtfojipgbenbigaaDoorRefAsk
import Derived.Test.YtfojipgbenbigaaDoorDec
import Derived.WalkSmall
namespace Go.Proofs.YtfojipgbenbigaaDoor
open Go.RowKit Go.Shelf

def headOK (L : List LogR) (k : Nat) : Bool :=
  isDayB (lg L k).day && (k == 0 || decide ((lg L (k - 1)).day ≤ (lg L k).day)) && isNameB (lg L k).rope && decide (1 ≤ (lg L k).kind ∧ (lg L k).kind ≤ 4)
def runsOK (L : List LogR) (k : Nat) : Bool := if (lg L k).kind = 3 then decide (1 ≤ (lg L k).runs ∧ (lg L k).runs ≤ 1000000) else (lg L k).runs == 0
def stateOK (L : List LogR) (k : Nat) : Bool := (lg L k).kind == 2 || !retTo L (lg L k).rope k
def vTo (L : List LogR) : Nat → Bool
  | 0 => true
  | k + 1 => vTo L k && (headOK L k && runsOK L k && stateOK L k)
def validB (L : List LogR) : Bool := decide (L.length ≤ 1000) && vTo L L.length

theorem vTo_false (L : List LogR) (k n : Nat) (h : vTo L k = false) (hk : k ≤ n) : vTo L n = false := by
  induction n with
  | zero => obtain rfl : k = 0 := by omega
            exact h
  | succ n ih =>
    rcases Nat.lt_or_ge k (n + 1) with l | l
    · simp only [vTo, ih (by omega), Bool.false_and]
    · obtain rfl : k = n + 1 := by omega
      exact h
theorem valid_no (L : List LogR) (k : Nat) (hk : k < L.length) (h : (headOK L k && runsOK L k && stateOK L k) = false) : validB L = false := by
  have : vTo L (k + 1) = false := by simp only [vTo, h, Bool.and_false]
  unfold validB
  rw [vTo_false L _ _ this (by omega), Bool.and_false]
theorem vTo_succ (L : List LogR) (k : Nat) (h0 : vTo L k = true) (h : (headOK L k && runsOK L k && stateOK L k) = true) : vTo L (k + 1) = true := by simp only [vTo, h0, h, Bool.and_true]
theorem vTo_at (L : List LogR) (n k : Nat) (h : vTo L n = true) (hk : k < n) : headOK L k = true ∧ runsOK L k = true ∧ stateOK L k = true ∧ vTo L k = true := by
  induction n with
  | zero => omega
  | succ n ih =>
    simp only [vTo, Bool.and_eq_true] at h
    rcases Nat.lt_or_ge k n with l | l
    · exact ih h.1 l
    · obtain rfl : k = n := by omega
      exact ⟨h.2.1.1, h.2.1.2, h.2.2, h.1⟩
theorem valid_tame (L : List LogR) (h : validB L = true) : Tame L ∧ L.length ≤ 1000 := by
  unfold validB at h
  simp only [Bool.and_eq_true, decide_eq_true_eq] at h
  refine ⟨fun i hi => ?_, h.1⟩
  obtain ⟨a, b, _, _⟩ := vTo_at L _ i h.2 hi
  simp only [headOK, isDayB, Bool.and_eq_true, decide_eq_true_eq] at a
  refine ⟨a.1.1.1.1, a.1.1.1.2, ?_⟩
  unfold runsOK at b
  split at b
  · simp at b; omega
  · simp at b; omega

set_option maxRecDepth 100000 in
set_option maxHeartbeats 4000000 in
theorem refvalid_any (a : Option Addr) (L : List LogR) (cap : Nat) (w : World) (hlen : L.length ≤ 1100) (hcap : L.length ≤ cap) (hI : Logs w.heap.size w a L) :
    Calls Tryd.prog 17 #[.slice a L.length cap] w fun e w' => e = .returned (.bool (validB L)) ∧ Below w.heap.size w w' := by
  have HI := Lib.hid hI; clear hI
  by_cases hbig : (1000 : Int) < L.length
  · have H : Hid (validB L = false) := Lib.hid (by unfold validB; rw [decide_eq_false (by omega)]; rfl)
    go_enter Tryd.func17, Tryd.ntmps17
    go_wp2
    go_ret
    exact ⟨ret_bool H.out.symm, Below.refl _ _⟩
  · go_enter Tryd.func17, Tryd.ntmps17
    go_wp2
    go_loopw [3] (fun i wr => ∃ k : Nat, k ≤ L.length ∧ i = .int .i64 k ∧ Below w.heap.size w wr ∧ Hid (vTo L k = true)) (fun i _ => L.length - (intOf i).toNat)
    case atStart => exact ⟨0, Nat.zero_le _, rfl, Below.refl _ _, Lib.hid rfl⟩
    case round =>
      obtain ⟨k, hk, rfl, hB, HA⟩ := hrel
      by_cases hlt : k < L.length
      · obtain ⟨b, off, rfl, hb, hcx⟩ := HI.out (by omega)
        obtain ⟨c0, c1, c2, c3⟩ := hcx k hlt
        have hbr : b < wr.heap.size := by have := hB.size; omega
        have d0 := (hB.cell (p := ⟨b, off + k * 4, none⟩) hb).trans c0
        have d1 := (hB.cell (p := ⟨b, off + k * 4 + 1, none⟩) hb).trans c1
        have d2 := (hB.cell (p := ⟨b, off + k * 4 + 2, none⟩) hb).trans c2
        have d3 := (hB.cell (p := ⟨b, off + k * 4 + 3, none⟩) hb).trans c3
        have hp : 0 < k → wr.cell? ⟨b, off + (k - 1) * 4, none⟩ = some (.int .i64 (lg L (k - 1)).day) := fun _ => (hB.cell (p := ⟨b, off + (k - 1) * 4, none⟩) hb).trans (hcx (k - 1) (by omega)).1
        have HP := Lib.hid hp
        clear c0 c1 c2 c3 hcx hp
        go_upto_region 7 with (fail)
        go_cut [56] (fun s wx => s = .bool (!headOK L k) ∧ Below w.heap.size w wx ∧ wx.cell? ⟨wr.heap.size, 0, none⟩ = some (.int .i64 (lg L k).day) ∧ wx.cell? ⟨wr.heap.size, 1, none⟩ = some (.string (lg L k).rope) ∧ wx.cell? ⟨wr.heap.size, 2, none⟩ = some (.int .i64 (lg L k).kind) ∧ wx.cell? ⟨wr.heap.size, 3, none⟩ = some (.int .i64 (lg L k).runs))
        case first =>
          have Hh : Hid (headOK L k = (isDayB (lg L k).day && (k == 0 || decide ((lg L (k - 1)).day ≤ (lg L k).day)) && isNameB (lg L k).rope && decide (1 ≤ (lg L k).kind ∧ (lg L k).kind ≤ 4))) := Lib.hid rfl
          by_cases q1 : (lg L k).day < 0
          · have H : Hid (headOK L k = false) := Lib.hid (by rw [Hh.out]; unfold isDayB; rw [decide_eq_false (show ¬ (0 ≤ (lg L k).day ∧ (lg L k).day ≤ 109572) by omega)]; rfl)
            have g1 := decide_eq_true q1
            clear q1
            go_quiet (fail)
            go_wp2_with fail
            go_meet
            exact ⟨by rw [H.out]; rfl, below_drewN (hB.alloc hB.size _) _, by simp [go_sem], by simp [go_sem], by simp [go_sem], by simp [go_sem]⟩
          · have g1 := decide_eq_false q1
            by_cases q2 : 109572 < (lg L k).day
            · have H : Hid (headOK L k = false) := Lib.hid (by rw [Hh.out]; unfold isDayB; rw [decide_eq_false (show ¬ (0 ≤ (lg L k).day ∧ (lg L k).day ≤ 109572) by omega)]; rfl)
              have g2 := decide_eq_true q2
              clear q1 q2
              go_quiet (fail)
              go_wp2_with fail
              go_meet
              exact ⟨by rw [H.out]; rfl, below_drewN (hB.alloc hB.size _) _, by simp [go_sem], by simp [go_sem], by simp [go_sem], by simp [go_sem]⟩
            · have g2 := decide_eq_false q2
              have HD : Hid (isDayB (lg L k).day = true) := Lib.hid (by unfold isDayB; exact decide_eq_true (by omega))
              by_cases q3 : 0 < k
              · have hp := HP.out q3
                have g3 : decide ((0 : Int) < (k : Int)) = true := decide_eq_true (by omega)
                have g3n : decide (0 < k) = true := decide_eq_true q3
                have k1 : IntKind.i64.wrap ((k : Int) - 1) = (k : Int) - 1 := IntWalk.i64_in _ (by omega)
                have k2 : 0 ≤ (k : Int) - 1 := by omega
                have k3 : ((k : Int) - 1).toNat = k - 1 := by omega
                have k4 : k - 1 < L.length := by omega
                by_cases q4 : (lg L k).day < (lg L (k - 1)).day
                · have H : Hid (headOK L k = false) := Lib.hid (by rw [Hh.out, HD.out, beq_eq_false_iff_ne.2 (show k ≠ 0 by omega), decide_eq_false (show ¬ (lg L (k - 1)).day ≤ (lg L k).day by omega)]; rfl)
                  have g4 := decide_eq_true q4
                  clear q1 q2 q3 q4
                  go_quiet (fail)
                  go_wp2_with fail
                  go_meet
                  exact ⟨by rw [H.out]; rfl, below_drewN (hB.alloc hB.size _) _, by simp [go_sem], by simp [go_sem], by simp [go_sem], by simp [go_sem]⟩
                · have HM : Hid ((k == 0 || decide ((lg L (k - 1)).day ≤ (lg L k).day)) = true) := Lib.hid (by rw [decide_eq_true (show (lg L (k - 1)).day ≤ (lg L k).day by omega), Bool.or_true])
                  have g4 := decide_eq_false q4
                  clear q1 q2 q3 q4
                  cases hn : isNameB (lg L k).rope
                  · have H : Hid (headOK L k = false) := Lib.hid (by rw [Hh.out, HD.out, HM.out, hn]; rfl)
                    go_quiet ((go_at_call 48; exact Calls.quiet_of_same ((refisName_any _ _).mono fun _ _ ⟨a, b⟩ => ⟨a, b.symm⟩)))
                    go_wp2_with fail
                    go_meet
                    exact ⟨by rw [H.out]; rfl, below_drewN (hB.alloc hB.size _) _, by simp [go_sem], by simp [go_sem], by simp [go_sem], by simp [go_sem]⟩
                  · by_cases q5 : (lg L k).kind < 1
                    · have H : Hid (headOK L k = false) := Lib.hid (by rw [Hh.out, HD.out, HM.out, hn, decide_eq_false (show ¬ (1 ≤ (lg L k).kind ∧ (lg L k).kind ≤ 4) by omega)]; rfl)
                      have g5 := decide_eq_true q5
                      clear q5
                      go_quiet ((go_at_call 48; exact Calls.quiet_of_same ((refisName_any _ _).mono fun _ _ ⟨a, b⟩ => ⟨a, b.symm⟩)))
                      go_wp2_with fail
                      go_meet
                      exact ⟨by rw [H.out]; rfl, below_drewN (hB.alloc hB.size _) _, by simp [go_sem], by simp [go_sem], by simp [go_sem], by simp [go_sem]⟩
                    · by_cases q6 : 4 < (lg L k).kind
                      · have H : Hid (headOK L k = false) := Lib.hid (by rw [Hh.out, HD.out, HM.out, hn, decide_eq_false (show ¬ (1 ≤ (lg L k).kind ∧ (lg L k).kind ≤ 4) by omega)]; rfl)
                        have g5 := decide_eq_false q5
                        have g6 := decide_eq_true q6
                        clear q5 q6
                        go_quiet ((go_at_call 48; exact Calls.quiet_of_same ((refisName_any _ _).mono fun _ _ ⟨a, b⟩ => ⟨a, b.symm⟩)))
                        go_wp2_with fail
                        go_meet
                        exact ⟨by rw [H.out]; rfl, below_drewN (hB.alloc hB.size _) _, by simp [go_sem], by simp [go_sem], by simp [go_sem], by simp [go_sem]⟩
                      · have H : Hid (headOK L k = true) := Lib.hid (by rw [Hh.out, HD.out, HM.out, hn, decide_eq_true (show (1 ≤ (lg L k).kind ∧ (lg L k).kind ≤ 4) by omega)]; rfl)
                        have g5 := decide_eq_false q5
                        have g6 := decide_eq_false q6
                        clear q5 q6
                        go_quiet ((go_at_call 48; exact Calls.quiet_of_same ((refisName_any _ _).mono fun _ _ ⟨a, b⟩ => ⟨a, b.symm⟩)))
                        go_wp2_with fail
                        go_meet
                        exact ⟨by rw [H.out]; rfl, below_drewN (hB.alloc hB.size _) _, by simp [go_sem], by simp [go_sem], by simp [go_sem], by simp [go_sem]⟩
              · have HM : Hid ((k == 0 || decide ((lg L (k - 1)).day ≤ (lg L k).day)) = true) := Lib.hid (by rw [beq_iff_eq.2 (show k = 0 by omega), Bool.true_or])
                have g3 : decide ((0 : Int) < (k : Int)) = false := decide_eq_false (by omega)
                have g3n : decide (0 < k) = false := decide_eq_false q3
                clear q1 q2 q3
                cases hn : isNameB (lg L k).rope
                · have H : Hid (headOK L k = false) := Lib.hid (by rw [Hh.out, HD.out, HM.out, hn]; rfl)
                  go_quiet ((go_at_call 48; exact Calls.quiet_of_same ((refisName_any _ _).mono fun _ _ ⟨a, b⟩ => ⟨a, b.symm⟩)))
                  go_wp2_with fail
                  go_meet
                  exact ⟨by rw [H.out]; rfl, below_drewN (hB.alloc hB.size _) _, by simp [go_sem], by simp [go_sem], by simp [go_sem], by simp [go_sem]⟩
                · by_cases q5 : (lg L k).kind < 1
                  · have H : Hid (headOK L k = false) := Lib.hid (by rw [Hh.out, HD.out, HM.out, hn, decide_eq_false (show ¬ (1 ≤ (lg L k).kind ∧ (lg L k).kind ≤ 4) by omega)]; rfl)
                    have g5 := decide_eq_true q5
                    clear q5
                    go_quiet ((go_at_call 48; exact Calls.quiet_of_same ((refisName_any _ _).mono fun _ _ ⟨a, b⟩ => ⟨a, b.symm⟩)))
                    go_wp2_with fail
                    go_meet
                    exact ⟨by rw [H.out]; rfl, below_drewN (hB.alloc hB.size _) _, by simp [go_sem], by simp [go_sem], by simp [go_sem], by simp [go_sem]⟩
                  · by_cases q6 : 4 < (lg L k).kind
                    · have H : Hid (headOK L k = false) := Lib.hid (by rw [Hh.out, HD.out, HM.out, hn, decide_eq_false (show ¬ (1 ≤ (lg L k).kind ∧ (lg L k).kind ≤ 4) by omega)]; rfl)
                      have g5 := decide_eq_false q5
                      have g6 := decide_eq_true q6
                      clear q5 q6
                      go_quiet ((go_at_call 48; exact Calls.quiet_of_same ((refisName_any _ _).mono fun _ _ ⟨a, b⟩ => ⟨a, b.symm⟩)))
                      go_wp2_with fail
                      go_meet
                      exact ⟨by rw [H.out]; rfl, below_drewN (hB.alloc hB.size _) _, by simp [go_sem], by simp [go_sem], by simp [go_sem], by simp [go_sem]⟩
                    · have H : Hid (headOK L k = true) := Lib.hid (by rw [Hh.out, HD.out, HM.out, hn, decide_eq_true (show (1 ≤ (lg L k).kind ∧ (lg L k).kind ≤ 4) by omega)]; rfl)
                      have g5 := decide_eq_false q5
                      have g6 := decide_eq_false q6
                      clear q5 q6
                      go_quiet ((go_at_call 48; exact Calls.quiet_of_same ((refisName_any _ _).mono fun _ _ ⟨a, b⟩ => ⟨a, b.symm⟩)))
                      go_wp2_with fail
                      go_meet
                      exact ⟨by rw [H.out]; rfl, below_drewN (hB.alloc hB.size _) _, by simp [go_sem], by simp [go_sem], by simp [go_sem], by simp [go_sem]⟩

        case rest =>
          obtain ⟨rfl, hBx, e0, e1, e2, e3⟩ := hcut
          obtain ⟨hv, hhv⟩ : ∃ hv, headOK L k = hv := ⟨_, rfl⟩
          rw [hhv]
          have Hh := Lib.hid hhv; clear hhv
          have HL : Hid (∀ n, Logs w.heap.size (wc.drewN n) (some ⟨b, off, none⟩) L) := Lib.hid fun n => HI.out.below (below_drewN hBx _)
          cases hv
          · have H : Hid (validB L = false) := Lib.hid (valid_no L k hlt (by rw [Hh.out]; rfl))
            go_wp2
            go_ret
            exact ⟨ret_bool H.out.symm, hBx⟩
          · by_cases r1 : (lg L k).kind = 3
            · have HK2 : Hid (((lg L k).kind == 2) = false) := Lib.hid (beq_eq_false_iff_ne.2 (by omega))
              have g1 : ((lg L k).kind == 3) = true := beq_iff_eq.2 r1
              have g1n : ((lg L k).kind != 3) = false := by rw [bne_eq_false_iff_eq]; exact r1
              have g3n : ((lg L k).kind != 2) = true := bne_iff_ne.2 (by omega)
              by_cases r2 : (lg L k).runs < 1
              · have H : Hid (validB L = false) := Lib.hid (valid_no L k hlt (by rw [Hh.out]; unfold runsOK; rw [if_pos r1, decide_eq_false (by omega)]; rfl))
                go_wp2
                go_ret
                exact ⟨ret_bool H.out.symm, hBx⟩
              · by_cases r3 : 1000000 < (lg L k).runs
                · have H : Hid (validB L = false) := Lib.hid (valid_no L k hlt (by rw [Hh.out]; unfold runsOK; rw [if_pos r1, decide_eq_false (by omega)]; rfl))
                  go_wp2
                  go_ret
                  exact ⟨ret_bool H.out.symm, hBx⟩
                · have HR : Hid (runsOK L k = true) := Lib.hid (by unfold runsOK; rw [if_pos r1]; exact decide_eq_true (by omega))
                  have g4 := decide_eq_false r2
                  have g5 := decide_eq_false r3
                  clear r1 r2 r3
                  obtain ⟨rb, hrb⟩ : ∃ rb, retTo L (lg L k).rope k = rb := ⟨_, rfl⟩
                  cases rb
                  · have H := Lib.hid (vTo_succ L k HA.out (by rw [Hh.out, HR.out]; unfold stateOK; rw [hrb, Bool.not_false, Bool.or_true]; rfl))
                    go_wp2_with fail
                    go_quiet ((go_at_call 23; exact Calls.quiet_of_same ((refret_any _ L k _ _ w.heap.size _ (by omega) hlen (HL.out _)).mono fun _ _ ⟨a, b⟩ => ⟨a, b.symm⟩)))
                    go_wp2
                    go_roundw
                    case rel => exact ⟨k + 1, by omega, by go_num, below_drewN hBx _, H⟩
                    case measure => simp [intOf]; omega
                  · have H : Hid (validB L = false) := Lib.hid (valid_no L k hlt (by rw [Hh.out, HR.out]; unfold stateOK; rw [hrb, HK2.out]; rfl))
                    go_wp2_with fail
                    go_quiet ((go_at_call 23; exact Calls.quiet_of_same ((refret_any _ L k _ _ w.heap.size _ (by omega) hlen (HL.out _)).mono fun _ _ ⟨a, b⟩ => ⟨a, b.symm⟩)))
                    go_wp2
                    go_ret
                    exact ⟨ret_bool H.out.symm, below_drewN hBx _⟩
            · have g1 : ((lg L k).kind == 3) = false := beq_eq_false_iff_ne.2 r1
              have g1n : ((lg L k).kind != 3) = true := bne_iff_ne.2 r1
              by_cases r2 : (lg L k).runs = 0
              · have HR : Hid (runsOK L k = true) := Lib.hid (by unfold runsOK; rw [if_neg r1]; exact beq_iff_eq.2 r2)
                have g4 : ((lg L k).runs != 0) = false := by rw [bne_eq_false_iff_eq]; exact r2
                by_cases r3 : (lg L k).kind = 2
                · have HK2 : Hid (((lg L k).kind == 2) = true) := Lib.hid (beq_iff_eq.2 r3)
                  have g3n : ((lg L k).kind != 2) = false := by rw [bne_eq_false_iff_eq]; exact r3
                  clear r1 r2 r3
                  have H := Lib.hid (vTo_succ L k HA.out (by rw [Hh.out, HR.out]; unfold stateOK; rw [HK2.out, Bool.true_or]; rfl))
                  go_wp2_with fail
                  go_quiet (fail)
                  go_wp2
                  go_roundw
                  case rel => exact ⟨k + 1, by omega, by go_num, below_drewN hBx _, H⟩
                  case measure => simp [intOf]; omega
                · have HK2 : Hid (((lg L k).kind == 2) = false) := Lib.hid (beq_eq_false_iff_ne.2 r3)
                  have g3n : ((lg L k).kind != 2) = true := bne_iff_ne.2 r3
                  clear r1 r2 r3
                  obtain ⟨rb, hrb⟩ : ∃ rb, retTo L (lg L k).rope k = rb := ⟨_, rfl⟩
                  cases rb
                  · have H := Lib.hid (vTo_succ L k HA.out (by rw [Hh.out, HR.out]; unfold stateOK; rw [hrb, Bool.not_false, Bool.or_true]; rfl))
                    go_wp2_with fail
                    go_quiet ((go_at_call 23; exact Calls.quiet_of_same ((refret_any _ L k _ _ w.heap.size _ (by omega) hlen (HL.out _)).mono fun _ _ ⟨a, b⟩ => ⟨a, b.symm⟩)))
                    go_wp2
                    go_roundw
                    case rel => exact ⟨k + 1, by omega, by go_num, below_drewN hBx _, H⟩
                    case measure => simp [intOf]; omega
                  · have H : Hid (validB L = false) := Lib.hid (valid_no L k hlt (by rw [Hh.out, HR.out]; unfold stateOK; rw [hrb, HK2.out]; rfl))
                    go_wp2_with fail
                    go_quiet ((go_at_call 23; exact Calls.quiet_of_same ((refret_any _ L k _ _ w.heap.size _ (by omega) hlen (HL.out _)).mono fun _ _ ⟨a, b⟩ => ⟨a, b.symm⟩)))
                    go_wp2
                    go_ret
                    exact ⟨ret_bool H.out.symm, below_drewN hBx _⟩
              · have g4 : ((lg L k).runs != 0) = true := bne_iff_ne.2 r2
                have H : Hid (validB L = false) := Lib.hid (valid_no L k hlt (by rw [Hh.out]; unfold runsOK; rw [if_neg r1, beq_eq_false_iff_ne.2 r2]; rfl))
                clear r1 r2
                go_wp2
                go_ret
                exact ⟨ret_bool H.out.symm, hBx⟩
      · obtain rfl : k = L.length := by omega
        have H : Hid (validB L = true) := Lib.hid (by unfold validB; rw [decide_eq_true (by omega), HA.out]; rfl)
        go_wp2
        go_ret
        exact ⟨ret_bool H.out.symm, hB⟩
end Go.Proofs.YtfojipgbenbigaaDoor
