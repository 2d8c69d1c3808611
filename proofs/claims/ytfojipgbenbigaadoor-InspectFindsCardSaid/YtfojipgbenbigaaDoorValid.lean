/-
  THE WALK of inspect.Valid: a log is valid as the reference says; a map of the ropes that are retired goes along.
-/
import Derived.Test.YtfojipgbenbigaaDoorValidR
import Derived.Test.YtfojipgbenbigaaDoorMapB
namespace Go.Proofs.YtfojipgbenbigaaDoor
open Go.RowKit Go.Shelf Go.Maps Go.WideMaps

def befI (L : List LogR) (k : Nat) : Int := if k = 0 then 0 else (lg L (k - 1)).day
theorem head_eq2 (L : List LogR) (k : Nat) : headOK L k = (isDayB (lg L k).day && decide (befI L k ≤ (lg L k).day) && isNameB (lg L k).rope && decide (1 ≤ (lg L k).kind ∧ (lg L k).kind ≤ 4)) := by
  unfold headOK befI
  by_cases h : k = 0
  · subst h
    cases hd : isDayB (lg L 0).day
    · rfl
    · have : 0 ≤ (lg L 0).day := by simp [isDayB] at hd; omega
      simp [this]
  · rw [if_neg h, beq_eq_false_iff_ne.2 h, Bool.false_or]
theorem ret_succ (L : List LogR) (k : Nat) (t : ByteArray) (hs : stateOK L k = true) :
    (if t = (lg L k).rope then ((lg L k).kind == 4) else retTo L t k) = retTo L t (k + 1) := by
  by_cases e : t = (lg L k).rope
  · subst e
    rw [if_pos rfl]
    by_cases h : (lg L k).kind = 2 ∨ (lg L k).kind = 4
    · have hm : mt L (lg L k).rope [2, 4] k = true := by
        unfold mt hasB
        rw [decide_eq_true rfl, decide_eq_true (by simp; omega)]
        rfl
      have : lastTo L (lg L k).rope [2, 4] (k + 1) = k := by
        show (if mt L (lg L k).rope [2, 4] k then (k : Int) else _) = _
        rw [if_pos hm]
      rw [ret_at L _ _ k this]
    · have hm : mt L (lg L k).rope [2, 4] k = false := by
        unfold mt hasB
        rw [decide_eq_true rfl, decide_eq_false (by simp; omega)]
        rfl
      have h4 : ((lg L k).kind == 4) = false := beq_eq_false_iff_ne.2 (fun h' => h (.inr h'))
      have : lastTo L (lg L k).rope [2, 4] (k + 1) = lastTo L (lg L k).rope [2, 4] k := by
        show (if mt L (lg L k).rope [2, 4] k then (k : Int) else _) = _
        rw [hm]; rfl
      unfold stateOK at hs
      rw [beq_eq_false_iff_ne.2 (fun h' => h (.inl h')), Bool.false_or] at hs
      have e2 : retTo L (lg L k).rope (k + 1) = retTo L (lg L k).rope k := by unfold retTo; rw [this]
      rw [h4, e2]
      cases hr : retTo L (lg L k).rope k
      · rfl
      · rw [hr] at hs; cases hs
  · rw [if_neg e]
    have hm : mt L t [2, 4] k = false := by
      unfold mt
      rw [decide_eq_false (fun h => e h.symm)]
      rfl
    have : lastTo L t [2, 4] (k + 1) = lastTo L t [2, 4] k := by
      show (if mt L t [2, 4] k then (k : Int) else _) = _
      rw [hm]; rfl
    unfold retTo
    rw [this]
theorem name_size (s : ByteArray) (h : isNameB s = true) : s.size ≤ 20 := by
  unfold isNameB at h
  simp only [Bool.and_eq_true, decide_eq_true_eq] at h
  exact h.1.1.2

set_option maxRecDepth 100000 in
set_option maxHeartbeats 4000000 in
theorem valid_any (a : Option Addr) (L : List LogR) (cap : Nat) (w : World) (hlen : L.length ≤ 1100) (hI : Logs w.heap.size w a L) :
    Calls Tryd.prog 27 #[.slice a L.length cap] w fun e w' => e = .returned (.bool (validB L)) ∧ Below w.heap.size w w' := by
  have HI := Lib.hid hI; clear hI
  have hmm := @run_makeMap Tryd.prog
  by_cases hbig : (1000 : Int) < L.length
  · have H : Hid (validB L = false) := Lib.hid (by unfold validB; rw [decide_eq_false (by omega)]; rfl)
    go_enter Tryd.func27, Tryd.ntmps27
    go_wp2
    go_ret
    exact ⟨ret_bool H.out.symm, Below.refl _ _⟩
  · go_enter Tryd.func27, Tryd.ntmps27
    go_wp2
    go_loopw [4, 14] (fun v i wr => ∃ k : Nat, k ≤ L.length ∧ i = .int .i64 k ∧ v = .int .i64 (befI L k) ∧ Below w.heap.size w wr ∧ Hid (BoolMap wr w.heap.size k (fun t => retTo L t k)) ∧ Hid (vTo L k = true)) (fun _ i _ => L.length - (intOf i).toNat)
    case atStart => exact ⟨0, Nat.zero_le _, rfl, rfl, (Below.refl _ _).alloc (Nat.le_refl _) _, Lib.hid (by have h := BoolMap.made w; exact h), Lib.hid rfl⟩
    case round =>
      obtain ⟨k, hk, rfl, rfl, hB, HM, HA⟩ := hrel
      by_cases hlt : k < L.length
      · obtain ⟨b, off, rfl, hb, hcx⟩ := HI.out (by omega)
        obtain ⟨c0, c1, c2, c3⟩ := hcx k hlt
        have hbr : b < wr.heap.size := by have := hB.size; omega
        have d0 := (hB.cell (p := ⟨b, off + k * 4, none⟩) hb).trans c0
        have d1 := (hB.cell (p := ⟨b, off + k * 4 + 1, none⟩) hb).trans c1
        have d2 := (hB.cell (p := ⟨b, off + k * 4 + 2, none⟩) hb).trans c2
        have d3 := (hB.cell (p := ⟨b, off + k * 4 + 3, none⟩) hb).trans c3
        clear c0 c1 c2 c3 hcx
        go_upto_region 8 with (fail)
        go_cut [7] (fun s wx => s = .bool (runsOK L k) ∧ wx = wr.alloc (.cells #[.int .i64 (lg L k).day, .string (lg L k).rope, .int .i64 (lg L k).kind, .int .i64 (lg L k).runs] 55))
        case first =>
          by_cases r1 : (lg L k).kind = 3
          · have H : Hid (runsOK L k = decide (1 ≤ (lg L k).runs ∧ (lg L k).runs ≤ 1000000)) := Lib.hid (by unfold runsOK; rw [if_pos r1])
            have g1 : ((lg L k).kind == 3) = true := beq_iff_eq.2 r1
            have g1n : ((lg L k).kind != 3) = false := by rw [bne_eq_false_iff_eq]; exact r1
            clear r1
            go_wp2_with fail
            all_goals
              go_meet
              exact ⟨congrArg Value.bool (by rw [H.out, Bool.eq_iff_iff]; simp; omega), rfl⟩
          · have H : Hid (runsOK L k = ((lg L k).runs == 0)) := Lib.hid (by unfold runsOK; rw [if_neg r1])
            have g1 : ((lg L k).kind == 3) = false := beq_eq_false_iff_ne.2 r1
            have g1n : ((lg L k).kind != 3) = true := bne_iff_ne.2 r1
            clear r1
            go_wp2_with fail
            all_goals
              go_meet
              exact ⟨by rw [H.out], rfl⟩
        case rest =>
          obtain ⟨rfl, rfl⟩ := hcut
          cases hd : isDayB (lg L k).day
          · have H : Hid (validB L = false) := Lib.hid (valid_no L k hlt (by rw [head_eq2, hd]; rfl))
            go_wp2_with (first | (go_at_call 45; refine (isDay_any _ _).mono ?_; rintro e w' ⟨rfl, rfl⟩) | (go_at_call 52; refine (isName_any _ _).mono ?_; rintro e w' ⟨rfl, rfl⟩))
            go_ret
            exact ⟨ret_bool H.out.symm, hB.alloc hB.size _⟩
          · by_cases q1 : (lg L k).day < befI L k
            · have H : Hid (validB L = false) := Lib.hid (valid_no L k hlt (by rw [head_eq2, hd, decide_eq_false (by omega)]; rfl))
              go_wp2_with (first | (go_at_call 45; refine (isDay_any _ _).mono ?_; rintro e w' ⟨rfl, rfl⟩) | (go_at_call 52; refine (isName_any _ _).mono ?_; rintro e w' ⟨rfl, rfl⟩))
              go_ret
              exact ⟨ret_bool H.out.symm, hB.alloc hB.size _⟩
            · have g1 := decide_eq_false q1
              have HQ : Hid (decide (befI L k ≤ (lg L k).day) = true) := Lib.hid (decide_eq_true (by omega))
              clear q1
              cases hn : isNameB (lg L k).rope
              · have H : Hid (validB L = false) := Lib.hid (valid_no L k hlt (by rw [head_eq2, hd, hn, HQ.out]; rfl))
                go_wp2_with (first | (go_at_call 45; refine (isDay_any _ _).mono ?_; rintro e w' ⟨rfl, rfl⟩) | (go_at_call 52; refine (isName_any _ _).mono ?_; rintro e w' ⟨rfl, rfl⟩))
                go_ret
                exact ⟨ret_bool H.out.symm, hB.alloc hB.size _⟩
              · by_cases q2 : (lg L k).kind < 1
                · have H : Hid (validB L = false) := Lib.hid (valid_no L k hlt (by rw [head_eq2, hd, hn, HQ.out, decide_eq_false (show ¬ (1 ≤ (lg L k).kind ∧ (lg L k).kind ≤ 4) by omega)]; rfl))
                  go_wp2_with (first | (go_at_call 45; refine (isDay_any _ _).mono ?_; rintro e w' ⟨rfl, rfl⟩) | (go_at_call 52; refine (isName_any _ _).mono ?_; rintro e w' ⟨rfl, rfl⟩))
                  go_ret
                  exact ⟨ret_bool H.out.symm, hB.alloc hB.size _⟩
                · by_cases q3 : 4 < (lg L k).kind
                  · have H : Hid (validB L = false) := Lib.hid (valid_no L k hlt (by rw [head_eq2, hd, hn, HQ.out, decide_eq_false (show ¬ (1 ≤ (lg L k).kind ∧ (lg L k).kind ≤ 4) by omega)]; rfl))
                    go_wp2_with (first | (go_at_call 45; refine (isDay_any _ _).mono ?_; rintro e w' ⟨rfl, rfl⟩) | (go_at_call 52; refine (isName_any _ _).mono ?_; rintro e w' ⟨rfl, rfl⟩))
                    go_ret
                    exact ⟨ret_bool H.out.symm, hB.alloc hB.size _⟩
                  · have g2 := decide_eq_false q2
                    have g3 := decide_eq_false q3
                    have HO : Hid (headOK L k = true) := Lib.hid (by rw [head_eq2, hd, HQ.out, hn, decide_eq_true (show (1 ≤ (lg L k).kind ∧ (lg L k).kind ≤ 4) by omega)]; rfl)
                    clear q2 q3
                    cases hr : runsOK L k
                    · have H : Hid (validB L = false) := Lib.hid (valid_no L k hlt (by rw [HO.out, hr]; rfl))
                      go_wp2_with (first | (go_at_call 45; refine (isDay_any _ _).mono ?_; rintro e w' ⟨rfl, rfl⟩) | (go_at_call 52; refine (isName_any _ _).mono ?_; rintro e w' ⟨rfl, rfl⟩))
                      go_ret
                      exact ⟨ret_bool H.out.symm, hB.alloc hB.size _⟩
                    · have HR := Lib.hid hr
                      have hsz := name_size _ hn
                      have hlook := (HM.out.alloc (.cells #[.int .i64 (lg L k).day, .string (lg L k).rope, .int .i64 (lg L k).kind, .int .i64 (lg L k).runs] 55)).look (lg L k).rope hsz
                      obtain ⟨D, hown, h2, h3⟩ := HM.out.alloc (.cells #[.int .i64 (lg L k).day, .string (lg L k).rope, .int .i64 (lg L k).kind, .int .i64 (lg L k).runs] 55)
                      have hkey := keyOf_string_mk Tryd.underlying9 (show (lg L k).rope.size ≤ maxLen by unfold maxLen; omega)
                      cases hret : retTo L (lg L k).rope k
                      · have HS : Hid (stateOK L k = true) := Lib.hid (by unfold stateOK; rw [hret, Bool.not_false, Bool.or_true])
                        rw [hret] at hlook
                        have H := Lib.hid (vTo_succ L k HA.out (by rw [HO.out, HR.out, HS.out]; rfl))
                        clear hret
                        go_wp2_with (first | (go_at_call 45; refine (isDay_any _ _).mono ?_; rintro e w' ⟨rfl, rfl⟩) | (go_at_call 52; refine (isName_any _ _).mono ?_; rintro e w' ⟨rfl, rfl⟩) | (at_mapUpdate; refine wpList_mapUpdate_own _ rfl _ _ _ 69 rfl 9 4 keyedS Tryd.underlying69 _ w.heap.size k D rfl hown (by unfold maxLen; omega) _ _ _ rfl rfl hkey _ [] (plainElem_bool Tryd.underlying4 _) ?_; intro w1 hown1 hgrow1))
                        go_roundw
                        case rel =>
                          refine ⟨k + 1, by omega, by go_num, by simp [befI], (hB.alloc hB.size _).grown hgrow1 (by have := hB.size; simp; omega) (fun j e => by cases e; exact Nat.le_refl _), Lib.hid ?_, H⟩
                          have hput := BoolMap.put hown1 h2 h3
                          have e : (fun t => if t = (lg L k).rope then ((lg L k).kind == 4) else retTo L t k) = fun t => retTo L t (k + 1) := funext fun t => ret_succ L k t HS.out
                          rw [e] at hput
                          exact hput
                        case measure => simp [intOf]; omega
                      · rw [hret] at hlook
                        by_cases q4 : (lg L k).kind = 2
                        · have HS : Hid (stateOK L k = true) := Lib.hid (by unfold stateOK; rw [beq_iff_eq.2 q4, Bool.true_or])
                          have g4 : ((lg L k).kind != 2) = false := by rw [bne_eq_false_iff_eq]; exact q4
                          clear q4
                          have H := Lib.hid (vTo_succ L k HA.out (by rw [HO.out, HR.out, HS.out]; rfl))
                          clear hret
                          go_wp2_with (first | (go_at_call 45; refine (isDay_any _ _).mono ?_; rintro e w' ⟨rfl, rfl⟩) | (go_at_call 52; refine (isName_any _ _).mono ?_; rintro e w' ⟨rfl, rfl⟩) | (at_mapUpdate; refine wpList_mapUpdate_own _ rfl _ _ _ 69 rfl 9 4 keyedS Tryd.underlying69 _ w.heap.size k D rfl hown (by unfold maxLen; omega) _ _ _ rfl rfl hkey _ [] (plainElem_bool Tryd.underlying4 _) ?_; intro w1 hown1 hgrow1))
                          go_roundw
                          case rel =>
                            refine ⟨k + 1, by omega, by go_num, by simp [befI], (hB.alloc hB.size _).grown hgrow1 (by have := hB.size; simp; omega) (fun j e => by cases e; exact Nat.le_refl _), Lib.hid ?_, H⟩
                            have hput := BoolMap.put hown1 h2 h3
                            have e : (fun t => if t = (lg L k).rope then ((lg L k).kind == 4) else retTo L t k) = fun t => retTo L t (k + 1) := funext fun t => ret_succ L k t HS.out
                            rw [e] at hput
                            exact hput
                          case measure => simp [intOf]; omega
                        · have g4 : ((lg L k).kind != 2) = true := bne_iff_ne.2 q4
                          have g5 : Hid (((lg L k).kind == 2) = false) := Lib.hid (beq_eq_false_iff_ne.2 q4)
                          clear q4
                          have H : Hid (validB L = false) := Lib.hid (valid_no L k hlt (by rw [HO.out, HR.out]; unfold stateOK; rw [hret, g5.out]; rfl))
                          go_wp2_with (first | (go_at_call 45; refine (isDay_any _ _).mono ?_; rintro e w' ⟨rfl, rfl⟩) | (go_at_call 52; refine (isName_any _ _).mono ?_; rintro e w' ⟨rfl, rfl⟩))
                          go_ret
                          exact ⟨ret_bool H.out.symm, hB.alloc hB.size _⟩
      · obtain rfl : k = L.length := by omega
        have H : Hid (validB L = true) := Lib.hid (by unfold validB; rw [decide_eq_true (by omega), HA.out]; rfl)
        go_wp2
        go_ret
        exact ⟨ret_bool H.out.symm, hB⟩
end Go.Proofs.YtfojipgbenbigaaDoor
