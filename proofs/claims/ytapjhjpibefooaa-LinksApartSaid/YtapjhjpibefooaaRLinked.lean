/-
  THE WALK of the reference's Linked.
-/
import Derived.Test.YtapjhjpibefooaaLinked
import Derived.Deep.RegionHeld3
namespace Go.Proofs.Ytapjhjpibefooaa
open Go.RowKit Go.Shelf

theorem held_next {wr W W' : World} (h : Below wr.heap.size wr W) (hb : Below W.heap.size W W') : Below wr.heap.size wr W' := h.trans (hb.mono h.size)
theorem within_time (n : Int) (w : World) : Calls Try.prog 58 #[.int .i64 n, .int .i64 2147483648] w fun e w' => e = .returned (.bool (timeB n)) ∧ w = w' := within_any n 2147483648 w
theorem findI_name (L : List CueR) (s : ByteArray) (h : 0 ≤ findI L s) : (findI L s).toNat < L.length ∧ (cg L (findI L s).toNat).name = s ∧ findI L s = ((findI L s).toNat : Int) := by
  rcases cue_first_cases L (fun r => decide (r.name = s)) with ⟨e, _⟩ | ⟨k, hk, e, h1, _⟩
  · exact absurd h (by show ¬ 0 ≤ cue_first L _; rw [e]; decide)
  · have e' : findI L s = k := e
    rw [e', Int.toNat_natCast]
    exact ⟨hk, of_decide_eq_true h1, rfl⟩
theorem pairBad_eq (L : List CueR) (x : ByteArray × ByteArray) : pairBad L x = (decide (findI L x.1 < 0) || decide (findI L x.2 < 0) || decide (findI L x.1 = findI L x.2)) := by
  unfold pairBad
  by_cases h1 : findI L x.1 < 0
  · rw [decide_eq_true h1, Bool.or_true]; rfl
  · by_cases h2 : findI L x.2 < 0
    · rw [decide_eq_true h2, Bool.or_true, Bool.or_true]; rfl
    · have e : decide (x.1 = x.2) = decide (findI L x.1 = findI L x.2) := by
        rw [Bool.eq_iff_iff, decide_eq_true_eq, decide_eq_true_eq]
        refine ⟨fun e => by rw [e], fun e => ?_⟩
        have a := (findI_name L x.1 (by omega)).2.1
        have b := (findI_name L x.2 (by omega)).2.1
        rw [e, b] at a
        exact a.symm
      rw [e, decide_eq_false h1, decide_eq_false h2]
      simp

set_option maxRecDepth 100000 in
set_option maxHeartbeats 16000000 in
theorem reflinked_any (ca pa : Option Addr) (L : List CueR) (A : List (ByteArray × ByteArray)) (cc pc : Nat) (w : World) (hlen : L.length ≤ 1100) (hI : Cues w.heap.size w ca L) (hP : Pairs w.heap.size w pa A) :
    Calls Try.prog 14 #[.agg #[.slice ca L.length cc, .slice pa A.length pc]] w fun e w' => e = .returned (.bool (linkedB L A)) ∧ Below w.heap.size w w' := by
  have hb0 : Below w.heap.size w (w.alloc (.cells #[.slice ca L.length cc, .slice pa A.length pc] 25)) := below_new w _
  have HI := Lib.hid (hI.grow hb0)
  have HP := Lib.hid (hP.grow hb0)
  have HB0 := Lib.hid hb0
  clear hb0 hI hP
  by_cases s1 : (60 : Int) < L.length
  · have HNO : Hid (linkedB L A = false) := Lib.hid (by unfold linkedB; rw [decide_eq_false (show ¬ L.length ≤ 60 by omega)]; rfl)
    have g := decide_eq_true s1
    go_enter Try.func14, Try.ntmps14
    go_wp2_with fail
    go_ret
    exact ⟨ret_bool HNO.out.symm, HB0.out⟩
  · by_cases s2 : (1000 : Int) < A.length
    · have HNO : Hid (linkedB L A = false) := Lib.hid (by unfold linkedB; rw [decide_eq_false (show ¬ A.length ≤ 1000 by omega), Bool.and_false]; rfl)
      have g := decide_eq_true s2
      go_enter Try.func14, Try.ntmps14
      go_wp2_with fail
      go_ret
      exact ⟨ret_bool HNO.out.symm, HB0.out⟩
    · have HL : Hid (linkedB L A = (okTo L L.length && !pair_any A (pairBad L))) := Lib.hid (by unfold linkedB; rw [decide_eq_true (show L.length ≤ 60 by omega), decide_eq_true (show A.length ≤ 1000 by omega)]; rfl)
      go_enter Try.func14, Try.ntmps14
      go_wp2_with fail
      go_loopw [3] (fun i wr => ∃ k : Nat, k ≤ L.length ∧ i = .int .i64 k ∧ Below (w.alloc (.cells #[.slice ca L.length cc, .slice pa A.length pc] 25)).heap.size (w.alloc (.cells #[.slice ca L.length cc, .slice pa A.length pc] 25)) wr ∧ Hid (okTo L k = true)) (fun i _ => L.length - (intOf i).toNat)
      case atStart => exact ⟨0, Nat.zero_le _, rfl, Below.refl _ _, Lib.hid rfl⟩
      case round =>
        obtain ⟨k, hk, rfl, hB, HO⟩ := hrel
        obtain ⟨z0, z1⟩ := box2 hB
        have hbz : w.heap.size < wr.heap.size := World.block_lt_of_cell? _ _ z0
        have HIR := Lib.hid (HI.out.grow hB)
        by_cases hlt : k < L.length
        · obtain ⟨b, off, rfl, hbl, hc⟩ := HIR.out (by omega)
          obtain ⟨d0, d1, d2, d3, d4, d5, d6⟩ := hc k hlt
          have hBa : Below wr.heap.size wr (wr.alloc (.cells #[.string (cg L k).name, .string (cg L k).after, .int .i64 (cg L k).link, .int .i64 (cg L k).delay, .slice (cg L k).ma (cg L k).ml (cg L k).mc, .int .i64 (cg L k).crew, .int .i64 (cg L k).power] 56)) := below_new wr _
          have HBA := Lib.hid hBa
          have HNOF : Hid (cueOK L k = false → Hid (linkedB L A = false)) := Lib.hid fun h => Lib.hid (by rw [HL.out, okTo_false L k _ hlt h]; rfl)
          have HYES : Hid (cueOK L k = true → Hid (okTo L (k + 1) = true)) := Lib.hid fun h => Lib.hid (by unfold okTo; rw [HO.out, h]; rfl)
          clear hc hBa
          cases hnm : isNameB (cg L k).name
          · have HNM := Lib.hid hnm
            have HNO : Hid (linkedB L A = false) := HNOF.out (by unfold cueOK; rw [hnm]; rfl)
            clear hnm
            go_wp2_with (first
              | (go_at_call 57; (with_reducible refine (refisName_any _ _).mono ?_); rintro e w' ⟨rfl, rfl⟩; rw [HNM.out]))
            go_ret
            exact ⟨ret_bool HNO.out.symm, mono_in _ (hB.trans (HBA.out.mono hB.size))⟩
          · have HNM := Lib.hid hnm
            by_cases g1 : findI L (cg L k).name = k
            · have HF1 := Lib.hid g1
              cases htm : timeB (cg L k).delay
              · have HTM := Lib.hid htm
                have HNO : Hid (linkedB L A = false) := HNOF.out (by unfold cueOK; rw [htm, Bool.and_false]; rfl)
                clear htm hnm g1
                go_wp2_with (first
                  | (go_at_call 57; (with_reducible refine (refisName_any _ _).mono ?_); rintro e w' ⟨rfl, rfl⟩; rw [HNM.out])
                  | (go_at_call 17; (with_reducible refine (reffind_any _ L _ _ (cg L k).name _ hlen (HIR.out.grow HBA.out)).mono ?_); rintro e w1 ⟨rfl, hb1⟩; rw [HF1.out]; have hB1 := HBA.out.trans (hb1.mono HBA.out.size); have x1 := (hb1.cell (p := ⟨wr.heap.size, 1, none⟩) (by simp)).trans (show _ = some (.string (cg L k).after) by simp); have x2 := (hb1.cell (p := ⟨wr.heap.size, 2, none⟩) (by simp)).trans (show _ = some (.int .i64 (cg L k).link) by simp); have x3 := (hb1.cell (p := ⟨wr.heap.size, 3, none⟩) (by simp)).trans (show _ = some (.int .i64 (cg L k).delay) by simp); obtain ⟨y0, y1⟩ := box2 (hB.trans (hB1.mono hB.size)))
                  | (go_at_call 58; (with_reducible refine (within_time _ _).mono ?_); rintro e w' ⟨rfl, rfl⟩; rw [HTM.out]))
                go_ret
                exact ⟨ret_bool HNO.out.symm, mono_in _ (hB.trans (hB1.mono hB.size))⟩
              · have HTM := Lib.hid htm
                have HC : Hid (cueOK L k = (if (cg L k).link = 1 then decide ((cg L k).after = ⟨#[]⟩) else if (cg L k).link = 2 ∨ (cg L k).link = 3 then decide (0 ≤ findI L (cg L k).after) && !(findI L (cg L k).after == k) else false)) := Lib.hid (by unfold cueOK; rw [hnm, htm, g1, beq_self_eq_true]; rfl)
                clear htm hnm g1
                by_cases l1 : (cg L k).link = 1
                · have m1 : ((cg L k).link == 1) = true := beq_iff_eq.2 l1
                  by_cases hs : (cg L k).after.toList = []
                  · have HOK := HYES.out (by rw [HC.out, if_pos l1]; exact decide_eq_true ((nil_iff _).1 hs))
                    have hs2 : (!(cg L k).after.toList.isEmpty) = false := by rw [hs]; rfl
                    clear l1 hs
                    go_wp2_with (first
                      | (go_at_call 57; (with_reducible refine (refisName_any _ _).mono ?_); rintro e w' ⟨rfl, rfl⟩; rw [HNM.out])
                      | (go_at_call 17; (with_reducible refine (reffind_any _ L _ _ (cg L k).name _ hlen (HIR.out.grow HBA.out)).mono ?_); rintro e w1 ⟨rfl, hb1⟩; rw [HF1.out]; have hB1 := HBA.out.trans (hb1.mono HBA.out.size); have x1 := (hb1.cell (p := ⟨wr.heap.size, 1, none⟩) (by simp)).trans (show _ = some (.string (cg L k).after) by simp); have x2 := (hb1.cell (p := ⟨wr.heap.size, 2, none⟩) (by simp)).trans (show _ = some (.int .i64 (cg L k).link) by simp); have x3 := (hb1.cell (p := ⟨wr.heap.size, 3, none⟩) (by simp)).trans (show _ = some (.int .i64 (cg L k).delay) by simp); obtain ⟨y0, y1⟩ := box2 (hB.trans (hB1.mono hB.size)))
                      | (go_at_call 58; (with_reducible refine (within_time _ _).mono ?_); rintro e w' ⟨rfl, rfl⟩; rw [HTM.out]))
                    go_roundw
                    case rel => exact ⟨k + 1, by omega, by go_num, hB.trans (hB1.mono hB.size), HOK⟩
                    case measure => simp [intOf]; omega
                  · have HNO := HNOF.out (by rw [HC.out, if_pos l1]; exact decide_eq_false (fun e => hs ((nil_iff _).2 e)))
                    have hs2 : (!(cg L k).after.toList.isEmpty) = true := by simpa using hs
                    clear l1 hs
                    go_wp2_with (first
                      | (go_at_call 57; (with_reducible refine (refisName_any _ _).mono ?_); rintro e w' ⟨rfl, rfl⟩; rw [HNM.out])
                      | (go_at_call 17; (with_reducible refine (reffind_any _ L _ _ (cg L k).name _ hlen (HIR.out.grow HBA.out)).mono ?_); rintro e w1 ⟨rfl, hb1⟩; rw [HF1.out]; have hB1 := HBA.out.trans (hb1.mono HBA.out.size); have x1 := (hb1.cell (p := ⟨wr.heap.size, 1, none⟩) (by simp)).trans (show _ = some (.string (cg L k).after) by simp); have x2 := (hb1.cell (p := ⟨wr.heap.size, 2, none⟩) (by simp)).trans (show _ = some (.int .i64 (cg L k).link) by simp); have x3 := (hb1.cell (p := ⟨wr.heap.size, 3, none⟩) (by simp)).trans (show _ = some (.int .i64 (cg L k).delay) by simp); obtain ⟨y0, y1⟩ := box2 (hB.trans (hB1.mono hB.size)))
                      | (go_at_call 58; (with_reducible refine (within_time _ _).mono ?_); rintro e w' ⟨rfl, rfl⟩; rw [HTM.out]))
                    go_ret
                    exact ⟨ret_bool HNO.out.symm, mono_in _ (hB.trans (hB1.mono hB.size))⟩
                · have m1 : ((cg L k).link == 1) = false := beq_eq_false_iff_ne.2 l1
                  obtain ⟨fa, hfa⟩ : ∃ fa, findI L (cg L k).after = fa := ⟨_, rfl⟩
                  have HF2 := Lib.hid hfa
                  have HC2 := Lib.hid HC.out
                  rw [if_neg l1, hfa] at HC2
                  clear hfa
                  by_cases l2 : (cg L k).link = 2
                  · have m2 : ((cg L k).link == 2) = true := beq_iff_eq.2 l2
                    have HC3 := Lib.hid HC2.out
                    rw [if_pos (.inl l2)] at HC3
                    clear l1 l2
                    by_cases f0 : fa < 0
                    · have HNO := HNOF.out (by rw [HC3.out, show decide (0 ≤ fa) = false from decide_eq_false (by omega)]; rfl)
                      go_wp2_with (first
                        | (go_at_call 57; (with_reducible refine (refisName_any _ _).mono ?_); rintro e w' ⟨rfl, rfl⟩; rw [HNM.out])
                        | (go_at_call 17; (with_reducible refine (reffind_any _ L _ _ (cg L k).after _ hlen (HIR.out.grow hB1)).mono ?_); rintro e w2 ⟨rfl, hb2⟩; rw [HF2.out]; have hB2 := hB1.trans (hb2.mono hB1.size))
                        | (go_at_call 17; (with_reducible refine (reffind_any _ L _ _ (cg L k).name _ hlen (HIR.out.grow HBA.out)).mono ?_); rintro e w1 ⟨rfl, hb1⟩; rw [HF1.out]; have hB1 := HBA.out.trans (hb1.mono HBA.out.size); have x1 := (hb1.cell (p := ⟨wr.heap.size, 1, none⟩) (by simp)).trans (show _ = some (.string (cg L k).after) by simp); have x2 := (hb1.cell (p := ⟨wr.heap.size, 2, none⟩) (by simp)).trans (show _ = some (.int .i64 (cg L k).link) by simp); have x3 := (hb1.cell (p := ⟨wr.heap.size, 3, none⟩) (by simp)).trans (show _ = some (.int .i64 (cg L k).delay) by simp); obtain ⟨y0, y1⟩ := box2 (hB.trans (hB1.mono hB.size)))
                        | (go_at_call 58; (with_reducible refine (within_time _ _).mono ?_); rintro e w' ⟨rfl, rfl⟩; rw [HTM.out]))
                      go_ret
                      exact ⟨ret_bool HNO.out.symm, mono_in _ (hB.trans (hB2.mono hB.size))⟩
                    · by_cases fk : fa = k
                      · have HNO := HNOF.out (by rw [HC3.out, show (fa == (k : Int)) = true from beq_iff_eq.2 fk, Bool.not_true, Bool.and_false])
                        have m4 : (fa == (k : Int)) = true := beq_iff_eq.2 fk
                        clear fk
                        go_wp2_with (first
                          | (go_at_call 57; (with_reducible refine (refisName_any _ _).mono ?_); rintro e w' ⟨rfl, rfl⟩; rw [HNM.out])
                          | (go_at_call 17; (with_reducible refine (reffind_any _ L _ _ (cg L k).after _ hlen (HIR.out.grow hB1)).mono ?_); rintro e w2 ⟨rfl, hb2⟩; rw [HF2.out]; have hB2 := hB1.trans (hb2.mono hB1.size))
                          | (go_at_call 17; (with_reducible refine (reffind_any _ L _ _ (cg L k).name _ hlen (HIR.out.grow HBA.out)).mono ?_); rintro e w1 ⟨rfl, hb1⟩; rw [HF1.out]; have hB1 := HBA.out.trans (hb1.mono HBA.out.size); have x1 := (hb1.cell (p := ⟨wr.heap.size, 1, none⟩) (by simp)).trans (show _ = some (.string (cg L k).after) by simp); have x2 := (hb1.cell (p := ⟨wr.heap.size, 2, none⟩) (by simp)).trans (show _ = some (.int .i64 (cg L k).link) by simp); have x3 := (hb1.cell (p := ⟨wr.heap.size, 3, none⟩) (by simp)).trans (show _ = some (.int .i64 (cg L k).delay) by simp); obtain ⟨y0, y1⟩ := box2 (hB.trans (hB1.mono hB.size)))
                          | (go_at_call 58; (with_reducible refine (within_time _ _).mono ?_); rintro e w' ⟨rfl, rfl⟩; rw [HTM.out]))
                        go_ret
                        exact ⟨ret_bool HNO.out.symm, mono_in _ (hB.trans (hB2.mono hB.size))⟩
                      · have m4 : (fa == (k : Int)) = false := beq_eq_false_iff_ne.2 fk
                        have HOK := HYES.out (by rw [HC3.out, m4, show decide (0 ≤ fa) = true from decide_eq_true (by omega)]; rfl)
                        clear fk
                        go_wp2_with (first
                          | (go_at_call 57; (with_reducible refine (refisName_any _ _).mono ?_); rintro e w' ⟨rfl, rfl⟩; rw [HNM.out])
                          | (go_at_call 17; (with_reducible refine (reffind_any _ L _ _ (cg L k).after _ hlen (HIR.out.grow hB1)).mono ?_); rintro e w2 ⟨rfl, hb2⟩; rw [HF2.out]; have hB2 := hB1.trans (hb2.mono hB1.size))
                          | (go_at_call 17; (with_reducible refine (reffind_any _ L _ _ (cg L k).name _ hlen (HIR.out.grow HBA.out)).mono ?_); rintro e w1 ⟨rfl, hb1⟩; rw [HF1.out]; have hB1 := HBA.out.trans (hb1.mono HBA.out.size); have x1 := (hb1.cell (p := ⟨wr.heap.size, 1, none⟩) (by simp)).trans (show _ = some (.string (cg L k).after) by simp); have x2 := (hb1.cell (p := ⟨wr.heap.size, 2, none⟩) (by simp)).trans (show _ = some (.int .i64 (cg L k).link) by simp); have x3 := (hb1.cell (p := ⟨wr.heap.size, 3, none⟩) (by simp)).trans (show _ = some (.int .i64 (cg L k).delay) by simp); obtain ⟨y0, y1⟩ := box2 (hB.trans (hB1.mono hB.size)))
                          | (go_at_call 58; (with_reducible refine (within_time _ _).mono ?_); rintro e w' ⟨rfl, rfl⟩; rw [HTM.out]))
                        go_roundw
                        case rel => exact ⟨k + 1, by omega, by go_num, hB.trans (hB2.mono hB.size), HOK⟩
                        case measure => simp [intOf]; omega
                  · have m2 : ((cg L k).link == 2) = false := beq_eq_false_iff_ne.2 l2
                    by_cases l3 : (cg L k).link = 3
                    · have m3 : ((cg L k).link == 3) = true := beq_iff_eq.2 l3
                      have HC3 := Lib.hid HC2.out
                      rw [if_pos (.inr l3)] at HC3
                      clear l1 l2 l3
                      by_cases f0 : fa < 0
                      · have HNO := HNOF.out (by rw [HC3.out, show decide (0 ≤ fa) = false from decide_eq_false (by omega)]; rfl)
                        go_wp2_with (first
                          | (go_at_call 57; (with_reducible refine (refisName_any _ _).mono ?_); rintro e w' ⟨rfl, rfl⟩; rw [HNM.out])
                          | (go_at_call 17; (with_reducible refine (reffind_any _ L _ _ (cg L k).after _ hlen (HIR.out.grow hB1)).mono ?_); rintro e w2 ⟨rfl, hb2⟩; rw [HF2.out]; have hB2 := hB1.trans (hb2.mono hB1.size))
                          | (go_at_call 17; (with_reducible refine (reffind_any _ L _ _ (cg L k).name _ hlen (HIR.out.grow HBA.out)).mono ?_); rintro e w1 ⟨rfl, hb1⟩; rw [HF1.out]; have hB1 := HBA.out.trans (hb1.mono HBA.out.size); have x1 := (hb1.cell (p := ⟨wr.heap.size, 1, none⟩) (by simp)).trans (show _ = some (.string (cg L k).after) by simp); have x2 := (hb1.cell (p := ⟨wr.heap.size, 2, none⟩) (by simp)).trans (show _ = some (.int .i64 (cg L k).link) by simp); have x3 := (hb1.cell (p := ⟨wr.heap.size, 3, none⟩) (by simp)).trans (show _ = some (.int .i64 (cg L k).delay) by simp); obtain ⟨y0, y1⟩ := box2 (hB.trans (hB1.mono hB.size)))
                          | (go_at_call 58; (with_reducible refine (within_time _ _).mono ?_); rintro e w' ⟨rfl, rfl⟩; rw [HTM.out]))
                        go_ret
                        exact ⟨ret_bool HNO.out.symm, mono_in _ (hB.trans (hB2.mono hB.size))⟩
                      · by_cases fk : fa = k
                        · have HNO := HNOF.out (by rw [HC3.out, show (fa == (k : Int)) = true from beq_iff_eq.2 fk, Bool.not_true, Bool.and_false])
                          have m4 : (fa == (k : Int)) = true := beq_iff_eq.2 fk
                          clear fk
                          go_wp2_with (first
                            | (go_at_call 57; (with_reducible refine (refisName_any _ _).mono ?_); rintro e w' ⟨rfl, rfl⟩; rw [HNM.out])
                            | (go_at_call 17; (with_reducible refine (reffind_any _ L _ _ (cg L k).after _ hlen (HIR.out.grow hB1)).mono ?_); rintro e w2 ⟨rfl, hb2⟩; rw [HF2.out]; have hB2 := hB1.trans (hb2.mono hB1.size))
                            | (go_at_call 17; (with_reducible refine (reffind_any _ L _ _ (cg L k).name _ hlen (HIR.out.grow HBA.out)).mono ?_); rintro e w1 ⟨rfl, hb1⟩; rw [HF1.out]; have hB1 := HBA.out.trans (hb1.mono HBA.out.size); have x1 := (hb1.cell (p := ⟨wr.heap.size, 1, none⟩) (by simp)).trans (show _ = some (.string (cg L k).after) by simp); have x2 := (hb1.cell (p := ⟨wr.heap.size, 2, none⟩) (by simp)).trans (show _ = some (.int .i64 (cg L k).link) by simp); have x3 := (hb1.cell (p := ⟨wr.heap.size, 3, none⟩) (by simp)).trans (show _ = some (.int .i64 (cg L k).delay) by simp); obtain ⟨y0, y1⟩ := box2 (hB.trans (hB1.mono hB.size)))
                            | (go_at_call 58; (with_reducible refine (within_time _ _).mono ?_); rintro e w' ⟨rfl, rfl⟩; rw [HTM.out]))
                          go_ret
                          exact ⟨ret_bool HNO.out.symm, mono_in _ (hB.trans (hB2.mono hB.size))⟩
                        · have m4 : (fa == (k : Int)) = false := beq_eq_false_iff_ne.2 fk
                          have HOK := HYES.out (by rw [HC3.out, m4, show decide (0 ≤ fa) = true from decide_eq_true (by omega)]; rfl)
                          clear fk
                          go_wp2_with (first
                            | (go_at_call 57; (with_reducible refine (refisName_any _ _).mono ?_); rintro e w' ⟨rfl, rfl⟩; rw [HNM.out])
                            | (go_at_call 17; (with_reducible refine (reffind_any _ L _ _ (cg L k).after _ hlen (HIR.out.grow hB1)).mono ?_); rintro e w2 ⟨rfl, hb2⟩; rw [HF2.out]; have hB2 := hB1.trans (hb2.mono hB1.size))
                            | (go_at_call 17; (with_reducible refine (reffind_any _ L _ _ (cg L k).name _ hlen (HIR.out.grow HBA.out)).mono ?_); rintro e w1 ⟨rfl, hb1⟩; rw [HF1.out]; have hB1 := HBA.out.trans (hb1.mono HBA.out.size); have x1 := (hb1.cell (p := ⟨wr.heap.size, 1, none⟩) (by simp)).trans (show _ = some (.string (cg L k).after) by simp); have x2 := (hb1.cell (p := ⟨wr.heap.size, 2, none⟩) (by simp)).trans (show _ = some (.int .i64 (cg L k).link) by simp); have x3 := (hb1.cell (p := ⟨wr.heap.size, 3, none⟩) (by simp)).trans (show _ = some (.int .i64 (cg L k).delay) by simp); obtain ⟨y0, y1⟩ := box2 (hB.trans (hB1.mono hB.size)))
                            | (go_at_call 58; (with_reducible refine (within_time _ _).mono ?_); rintro e w' ⟨rfl, rfl⟩; rw [HTM.out]))
                          go_roundw
                          case rel => exact ⟨k + 1, by omega, by go_num, hB.trans (hB2.mono hB.size), HOK⟩
                          case measure => simp [intOf]; omega
                    · have m3 : ((cg L k).link == 3) = false := beq_eq_false_iff_ne.2 l3
                      have HNO := HNOF.out (by rw [HC2.out, if_neg (by omega)])
                      clear l1 l2 l3
                      go_wp2_with (first
                        | (go_at_call 57; (with_reducible refine (refisName_any _ _).mono ?_); rintro e w' ⟨rfl, rfl⟩; rw [HNM.out])
                        | (go_at_call 17; (with_reducible refine (reffind_any _ L _ _ (cg L k).name _ hlen (HIR.out.grow HBA.out)).mono ?_); rintro e w1 ⟨rfl, hb1⟩; rw [HF1.out]; have hB1 := HBA.out.trans (hb1.mono HBA.out.size); have x1 := (hb1.cell (p := ⟨wr.heap.size, 1, none⟩) (by simp)).trans (show _ = some (.string (cg L k).after) by simp); have x2 := (hb1.cell (p := ⟨wr.heap.size, 2, none⟩) (by simp)).trans (show _ = some (.int .i64 (cg L k).link) by simp); have x3 := (hb1.cell (p := ⟨wr.heap.size, 3, none⟩) (by simp)).trans (show _ = some (.int .i64 (cg L k).delay) by simp); obtain ⟨y0, y1⟩ := box2 (hB.trans (hB1.mono hB.size)))
                        | (go_at_call 58; (with_reducible refine (within_time _ _).mono ?_); rintro e w' ⟨rfl, rfl⟩; rw [HTM.out]))
                      go_ret
                      exact ⟨ret_bool HNO.out.symm, mono_in _ (hB.trans (hB1.mono hB.size))⟩
            · obtain ⟨fi, hfi⟩ : ∃ fi, findI L (cg L k).name = fi := ⟨_, rfl⟩
              have HF1 := Lib.hid hfi
              have HNO : Hid (linkedB L A = false) := HNOF.out (by unfold cueOK; rw [beq_eq_false_iff_ne.2 g1, Bool.and_false]; rfl)
              rw [hfi] at g1
              have m0 : (fi != (k : Int)) = true := bne_iff_ne.2 g1
              clear hfi hnm g1
              go_wp2_with (first
                | (go_at_call 57; (with_reducible refine (refisName_any _ _).mono ?_); rintro e w' ⟨rfl, rfl⟩; rw [HNM.out])
                | (go_at_call 17; (with_reducible refine (reffind_any _ L _ _ (cg L k).name _ hlen (HIR.out.grow HBA.out)).mono ?_); rintro e w1 ⟨rfl, hb1⟩; rw [HF1.out]; have hB1 := HBA.out.trans (hb1.mono HBA.out.size); have x1 := (hb1.cell (p := ⟨wr.heap.size, 1, none⟩) (by simp)).trans (show _ = some (.string (cg L k).after) by simp); have x2 := (hb1.cell (p := ⟨wr.heap.size, 2, none⟩) (by simp)).trans (show _ = some (.int .i64 (cg L k).link) by simp); have x3 := (hb1.cell (p := ⟨wr.heap.size, 3, none⟩) (by simp)).trans (show _ = some (.int .i64 (cg L k).delay) by simp); obtain ⟨y0, y1⟩ := box2 (hB.trans (hB1.mono hB.size))))
              go_ret
              exact ⟨ret_bool HNO.out.symm, mono_in _ (hB.trans (hB1.mono hB.size))⟩
        · obtain rfl : k = L.length := by omega
          have HLL : Hid (linkedB L A = !pair_any A (pairBad L)) := Lib.hid (by rw [HL.out, HO.out]; rfl)
          have hlA : A.length ≤ 1100 := by omega
          clear hlt hk HO
          go_wp2_with fail
          go_loopw [6] (fun i wr => ∃ k : Nat, k ≤ A.length ∧ i = .int .i64 k ∧ Below (w.alloc (.cells #[.slice ca L.length cc, .slice pa A.length pc] 25)).heap.size (w.alloc (.cells #[.slice ca L.length cc, .slice pa A.length pc] 25)) wr ∧ Hid (∀ i, i < k → pairBad L (pg A i) = false)) (fun i _ => A.length - (intOf i).toNat)
          case atStart => exact ⟨0, Nat.zero_le _, rfl, hB, Lib.hid fun _ h => absurd h (Nat.not_lt_zero _)⟩
          case round =>
            clear hB z0 z1 hbz HIR
            obtain ⟨j, hj, rfl, hB, HO2⟩ := hrel
            obtain ⟨z0, z1⟩ := box2 hB
            have hbz : w.heap.size < wr.heap.size := World.block_lt_of_cell? _ _ z0
            have HIR := Lib.hid (HI.out.grow hB)
            by_cases hlt : j < A.length
            · obtain ⟨b, off, rfl, hbl, hc⟩ := HP.out (by omega)
              obtain ⟨c0, c1⟩ := hc j hlt
              have p0 := (hB.cell (p := ⟨b, off + j * 2, none⟩) hbl).trans c0
              have p1 := (hB.cell (p := ⟨b, off + j * 2 + 1, none⟩) hbl).trans c1
              clear hc c0 c1
              obtain ⟨fa, hfa⟩ : ∃ f, findI L (pg A j).1 = f := ⟨_, rfl⟩
              obtain ⟨fb, hfb⟩ : ∃ f, findI L (pg A j).2 = f := ⟨_, rfl⟩
              have HBAD : Hid (pairBad L (pg A j) = (decide (fa < 0) || decide (fb < 0) || decide (fa = fb))) := Lib.hid (by rw [pairBad_eq, hfa, hfb])
              have HFA := Lib.hid hfa
              have HFB := Lib.hid hfb
              have HS : Hid (∀ W', Below wr.heap.size wr W' → Below wr.heap.size wr W' ∧ W'.cell? ⟨w.heap.size, 0, none⟩ = some (.slice ca L.length cc) ∧ W'.cell? ⟨w.heap.size, 1, none⟩ = some (.slice (some ⟨b, off, none⟩) A.length pc) ∧ W'.cell? ⟨b, off + j * 2, none⟩ = some (.string (pg A j).1) ∧ W'.cell? ⟨b, off + j * 2 + 1, none⟩ = some (.string (pg A j).2)) := Lib.hid fun W' h =>
                ⟨h, (h.cell (p := ⟨w.heap.size, 0, none⟩) (World.block_lt_of_cell? _ _ z0)).trans z0, (h.cell (p := ⟨w.heap.size, 1, none⟩) (World.block_lt_of_cell? _ _ z1)).trans z1, (h.cell (p := ⟨b, off + j * 2, none⟩) (World.block_lt_of_cell? _ _ p0)).trans p0, (h.cell (p := ⟨b, off + j * 2 + 1, none⟩) (World.block_lt_of_cell? _ _ p1)).trans p1⟩
              have hbr := Below.refl wr.heap.size wr
              clear hfa hfb
              go_wp2_with fail
              go_region_held3 (fun w' => Below wr.heap.size wr w' ∧ w'.cell? ⟨w.heap.size, 0, none⟩ = some (.slice ca L.length cc) ∧ w'.cell? ⟨w.heap.size, 1, none⟩ = some (.slice (some ⟨b, off, none⟩) A.length pc) ∧ w'.cell? ⟨b, off + j * 2, none⟩ = some (.string (pg A j).1) ∧ w'.cell? ⟨b, off + j * 2 + 1, none⟩ = some (.string (pg A j).2))
                (first | exact HS.out _ hbn | exact HS.out _ hbr.drew | go_keep)
                (first
                  | (go_at_call 17; go_split_ands; (with_reducible refine (reffind_any _ L _ _ (pg A j).1 _ hlen ?_).mono ?_); (next => exact HIR.out.grow (by assumption)); rintro e w2 ⟨rfl, hb2⟩; rw [HFA.out]; have hbn := held_next (wr := wr) (by assumption) hb2)
                  | (go_at_call 17; go_split_ands; (with_reducible refine (reffind_any _ L _ _ (pg A j).2 _ hlen ?_).mono ?_); (next => exact HIR.out.grow (by assumption)); rintro e w2 ⟨rfl, hb2⟩; rw [HFB.out]; have hbn := held_next (wr := wr) (by assumption) hb2))
              have HNO2 : Hid (pairBad L (pg A j) = true → Hid (linkedB L A = false)) := Lib.hid fun h => Lib.hid (by
                rw [HLL.out, pair_any_eq, Bool.not_eq_false', List.any_eq_true]
                exact ⟨_, by rw [pg_eq A j hlt]; exact List.getElem_mem hlt, h⟩)
              have HYES2 : Hid (pairBad L (pg A j) = false → Hid (∀ i, i < j + 1 → pairBad L (pg A i) = false)) := Lib.hid fun h => Lib.hid fun i hi => by
                rcases Nat.lt_or_ge i j with l | l
                · exact HO2.out i l
                · obtain rfl : i = j := by omega
                  exact h
              by_cases q1 : fa < 0
              · have HNO := HNO2.out (by rw [HBAD.out, decide_eq_true q1]; rfl)
                go_wp2_with fail
                go_ret
                exact ⟨ret_bool HNO.out.symm, mono_in _ (hB.trans (hbn.mono hB.size))⟩
              · by_cases q2 : fb < 0
                · have HNO := HNO2.out (by rw [HBAD.out, decide_eq_true q2, Bool.or_true]; rfl)
                  go_wp2_with fail
                  go_ret
                  exact ⟨ret_bool HNO.out.symm, mono_in _ (hB.trans (hbn.mono hB.size))⟩
                · by_cases q3 : fa = fb
                  · have HNO := HNO2.out (by rw [HBAD.out, decide_eq_true q3, Bool.or_true])
                    have m3 : (fa == fb) = true := beq_iff_eq.2 q3
                    clear q3
                    go_wp2_with fail
                    go_ret
                    exact ⟨ret_bool HNO.out.symm, mono_in _ (hB.trans (hbn.mono hB.size))⟩
                  · have HOK := HYES2.out (by rw [HBAD.out, decide_eq_false q1, decide_eq_false q2, decide_eq_false q3]; rfl)
                    have m3 : (fa == fb) = false := beq_eq_false_iff_ne.2 q3
                    clear q3
                    go_wp2_with fail
                    go_roundw
                    case rel => exact ⟨j + 1, by omega, by go_num, hB.trans (hbn.mono hB.size), HOK⟩
                    case measure => simp [intOf]; omega
            · obtain rfl : j = A.length := by omega
              have HEND : Hid (linkedB L A = true) := Lib.hid (by
                rw [HLL.out, pair_any_eq, Bool.not_eq_true', List.any_eq_false]
                intro x hx
                obtain ⟨i, hi, e⟩ := List.getElem_of_mem hx
                have := HO2.out i hi
                rw [pg_eq A i hi, e] at this
                rw [this]; decide)
              go_wp2_with fail
              go_ret
              exact ⟨ret_bool HEND.out.symm, mono_in _ hB⟩

end Go.Proofs.Ytapjhjpibefooaa
