/-
  THE WALKS of linked (package links) and of the reference's Linked.
-/
import Derived.Test.YtapjhjpibefooaaFind
namespace Go.Proofs.Ytapjhjpibefooaa
open Go.RowKit Go.Shelf

def cueOK (L : List CueR) (k : Nat) : Bool := isNameB (cg L k).name && (findI L (cg L k).name == k) && timeB (cg L k).delay &&
  (if (cg L k).link = 1 then decide ((cg L k).after = ⟨#[]⟩) else if (cg L k).link = 2 ∨ (cg L k).link = 3 then decide (0 ≤ findI L (cg L k).after) && !(findI L (cg L k).after == k) else false)
def okTo (L : List CueR) : Nat → Bool
  | 0 => true
  | k + 1 => okTo L k && cueOK L k
theorem okTo_false (L : List CueR) (k n : Nat) (hk : k < n) (h : cueOK L k = false) : okTo L n = false := by
  induction n with
  | zero => omega
  | succ n ih =>
    simp only [okTo]
    rcases Nat.lt_or_ge k n with l | l
    · rw [ih l]; rfl
    · obtain rfl : k = n := by omega
      rw [h, Bool.and_false]
theorem okTo_at (L : List CueR) (n : Nat) (h : okTo L n = true) (k : Nat) (hk : k < n) : cueOK L k = true := by
  cases e : cueOK L k
  · rw [okTo_false L k n hk e] at h; cases h
  · rfl
def pairBad (L : List CueR) (x : ByteArray × ByteArray) : Bool := decide (x.1 = x.2) || decide (findI L x.1 < 0) || decide (findI L x.2 < 0)
def linkedB (L : List CueR) (A : List (ByteArray × ByteArray)) : Bool := decide (L.length ≤ 60) && decide (A.length ≤ 1000) && okTo L L.length && !pair_any A (pairBad L)
theorem nil_iff (s : ByteArray) : s.toList = [] ↔ s = ⟨#[]⟩ := by
  rw [ByteArray.toList_eq]
  obtain ⟨⟨x⟩⟩ := s
  simp

set_option maxHeartbeats 2000000 in
theorem asks_linked (bx : Nat) (ca pa : Option Addr) (L : List CueR) (A : List (ByteArray × ByteArray)) (cc pc n₀ : Nat) (w : World) (hlen : L.length ≤ 1100) (hn : n₀ ≤ w.heap.size) (hbx : bx < n₀) (c0 : w.cell? ⟨bx, 0, none⟩ = some (.slice ca L.length cc)) (c1 : w.cell? ⟨bx, 1, none⟩ = some (.slice pa A.length pc)) (hI : Cues n₀ w ca L) :
    AsksP 65 #[.pointer (some ⟨bx, 0, none⟩)] n₀ w (pairBad L) := by
  intro W r hB
  have d0 := (hB.cell (p := ⟨bx, 0, none⟩) hbx).trans c0
  have d1 := (hB.cell (p := ⟨bx, 1, none⟩) hbx).trans c1
  have hl := World.block_lt_of_cell? W _ d0
  have hb0 : Below W.heap.size W (W.alloc (.cells #[.string r.1, .string r.2] 52)) := below_new W _
  have e0 := (hb0.cell (p := ⟨bx, 0, none⟩) hl).trans d0
  have e1 := (hb0.cell (p := ⟨bx, 1, none⟩) hl).trans d1
  have hz := hB.size
  have HI : Hid (Cues W.heap.size (W.alloc (.cells #[.string r.1, .string r.2] 52)) ca L) := Lib.hid (((hI.below hB).mono (by omega)).below hb0)
  have HB0 := Lib.hid hb0
  have hs := str_eq r.1 r.2
  obtain ⟨f1, hf1⟩ : ∃ f, findI L r.1 = f := ⟨_, rfl⟩
  obtain ⟨f2, hf2⟩ : ∃ f, findI L r.2 = f := ⟨_, rfl⟩
  have H1 := Lib.hid hf1
  have H2 := Lib.hid hf2
  have HP : Hid (pairBad L r = (decide (r.1 = r.2) || decide (f1 < 0) || decide (f2 < 0))) := Lib.hid (by unfold pairBad; rw [hf1, hf2])
  clear hf1 hf2 hb0 hI c0 c1 d0 d1 hB
  show Calls _ _ #[pairV r, .pointer (some ⟨bx, 0, none⟩)] _ _
  unfold pairV
  by_cases q0 : r.1 = r.2
  · have HE : Hid (pairBad L r = true) := Lib.hid (by rw [HP.out, decide_eq_true q0]; rfl)
    rw [decide_eq_true q0] at hs
    clear q0
    go_enter Try.func65, Try.ntmps65
    go_wp2_with fail
    go_ret
    exact ⟨ret_bool HE.out.symm, HB0.out⟩
  · rw [decide_eq_false q0] at hs
    by_cases q1 : f1 < 0
    · have HE : Hid (pairBad L r = true) := Lib.hid (by rw [HP.out, decide_eq_true q1, Bool.or_true]; rfl)
      clear q0
      go_enter Try.func65, Try.ntmps65
      go_wp2_with (go_at_call 53; (with_reducible refine (find_any _ L _ _ r.1 _ hlen (HI.out.mono (below_new W _).size)).mono ?_); rintro e w1 ⟨rfl, hb1⟩; rw [H1.out])
      go_ret
      exact ⟨ret_bool HE.out.symm, HB0.out.trans (hb1.mono HB0.out.size)⟩
    · have HE : Hid (pairBad L r = decide (f2 < 0)) := Lib.hid (by rw [HP.out, decide_eq_false q0, decide_eq_false q1]; rfl)
      clear q0
      go_enter Try.func65, Try.ntmps65
      go_wp2_with (first
        | (go_at_call 53; (with_reducible refine (find_any _ L _ _ r.2 _ hlen ((HI.out.mono (below_new W _).size).grow hb1)).mono ?_); rintro e w2 ⟨rfl, hb2⟩; rw [H2.out])
        | (go_at_call 53; (with_reducible refine (find_any _ L _ _ r.1 _ hlen (HI.out.mono (below_new W _).size)).mono ?_); rintro e w1 ⟨rfl, hb1⟩; rw [H1.out]; have g0 := (hb1.cell (p := ⟨bx, 0, none⟩) (World.block_lt_of_cell? _ _ e0)).trans e0; have g1 := (hb1.cell (p := ⟨bx, 1, none⟩) (World.block_lt_of_cell? _ _ e1)).trans e1; have x1 := (hb1.cell (p := ⟨W.heap.size, 1, none⟩) (by simp)).trans (show _ = some (.string r.2) by simp)))
      all_goals
        go_ret
        exact ⟨ret_bool (by rw [HE.out]; first | rfl | (rw [show decide (f1 < 0) = false from decide_eq_false (by omega)]; rfl)), HB0.out.trans ((hb1.mono HB0.out.size).trans (hb2.mono (by have := HB0.out.size; have := hb1.size; omega)))⟩

set_option maxRecDepth 100000 in
set_option maxHeartbeats 16000000 in
theorem linked_any (ca pa : Option Addr) (L : List CueR) (A : List (ByteArray × ByteArray)) (cc pc : Nat) (w : World) (hlen : L.length ≤ 1100) (hI : Cues w.heap.size w ca L) (hP : Pairs w.heap.size w pa A) :
    Calls Try.prog 48 #[.agg #[.slice ca L.length cc, .slice pa A.length pc]] w fun e w' => e = .returned (.bool (linkedB L A)) ∧ Below w.heap.size w w' := by
  have hb0 : Below w.heap.size w (w.alloc (.cells #[.slice ca L.length cc, .slice pa A.length pc] 25)) := below_new w _
  have HI := Lib.hid (hI.grow hb0)
  have HP := Lib.hid (hP.grow hb0)
  have HB0 := Lib.hid hb0
  clear hb0 hI hP
  by_cases s1 : (60 : Int) < L.length
  · have HNO : Hid (linkedB L A = false) := Lib.hid (by unfold linkedB; rw [decide_eq_false (show ¬ L.length ≤ 60 by omega)]; rfl)
    have g := decide_eq_true s1
    go_enter Try.func48, Try.ntmps48
    go_wp2_with fail
    go_ret
    exact ⟨ret_bool HNO.out.symm, HB0.out⟩
  · by_cases s2 : (1000 : Int) < A.length
    · have HNO : Hid (linkedB L A = false) := Lib.hid (by unfold linkedB; rw [decide_eq_false (show ¬ A.length ≤ 1000 by omega), Bool.and_false]; rfl)
      have g := decide_eq_true s2
      go_enter Try.func48, Try.ntmps48
      go_wp2_with fail
      go_ret
      exact ⟨ret_bool HNO.out.symm, HB0.out⟩
    · have HL : Hid (linkedB L A = (okTo L L.length && !pair_any A (pairBad L))) := Lib.hid (by unfold linkedB; rw [decide_eq_true (show L.length ≤ 60 by omega), decide_eq_true (show A.length ≤ 1000 by omega)]; rfl)
      go_enter Try.func48, Try.ntmps48
      go_wp2_with fail
      go_loopw [19] (fun i wr => ∃ k : Nat, k ≤ L.length ∧ i = .int .i64 k ∧ Below (w.alloc (.cells #[.slice ca L.length cc, .slice pa A.length pc] 25)).heap.size (w.alloc (.cells #[.slice ca L.length cc, .slice pa A.length pc] 25)) wr ∧ Hid (okTo L k = true)) (fun i _ => L.length - (intOf i).toNat)
      case atStart => exact ⟨0, Nat.zero_le _, rfl, Below.refl _ _, Lib.hid rfl⟩
      case round =>
        obtain ⟨k, hk, rfl, hB, HO⟩ := hrel
        obtain ⟨z0, z1⟩ := box2 hB
        have hbz : w.heap.size < wr.heap.size := World.block_lt_of_cell? _ _ z0
        have HIR := Lib.hid (HI.out.grow hB)
        by_cases hlt : k < L.length
        · obtain ⟨b, off, rfl, hbl, hc⟩ := HIR.out (by omega)
          obtain ⟨d0, d1, d2, d3, d4, d5, d6⟩ := hc k hlt
          have hBa : Below wr.heap.size wr (wr.alloc (.cells #[.string (cg L k).name, .string (cg L k).after, .int .i64 (cg L k).link, .int .i64 (cg L k).delay, .slice (cg L k).ma (cg L k).ml (cg L k).mc, .int .i64 (cg L k).crew, .int .i64 (cg L k).power] 56)) := below_new wr _
          have HBA := Lib.hid hBa
          have HNOF : Hid (cueOK L k = false → Hid (linkedB L A = false)) := Lib.hid fun h => Lib.hid (by rw [HL.out, okTo_false L k _ hlt h]; rfl)
          have HYES : Hid (cueOK L k = true → Hid (okTo L (k + 1) = true)) := Lib.hid fun h => Lib.hid (by unfold okTo; rw [HO.out, h]; rfl)
          clear hc hBa
          cases hnm : isNameB (cg L k).name
          · have HNM := Lib.hid hnm
            have HNO : Hid (linkedB L A = false) := HNOF.out (by unfold cueOK; rw [hnm]; rfl)
            clear hnm
            go_wp2_with (first
              | (go_at_call 64; (with_reducible refine (isName_any _ _).mono ?_); rintro e w' ⟨rfl, rfl⟩; rw [HNM.out]))
            go_ret
            exact ⟨ret_bool HNO.out.symm, mono_in _ (hB.trans (HBA.out.mono hB.size))⟩
          · have HNM := Lib.hid hnm
            by_cases g1 : findI L (cg L k).name = k
            · have HF1 := Lib.hid g1
              cases htm : timeB (cg L k).delay
              · have HTM := Lib.hid htm
                have HNO : Hid (linkedB L A = false) := HNOF.out (by unfold cueOK; rw [htm, Bool.and_false]; rfl)
                clear htm hnm g1
                go_wp2_with (first
                  | (go_at_call 64; (with_reducible refine (isName_any _ _).mono ?_); rintro e w' ⟨rfl, rfl⟩; rw [HNM.out])
                  | (go_at_call 53; (with_reducible refine (find_any _ L _ _ (cg L k).name _ hlen (HIR.out.grow HBA.out)).mono ?_); rintro e w1 ⟨rfl, hb1⟩; rw [HF1.out]; have hB1 := HBA.out.trans (hb1.mono HBA.out.size); have x1 := (hb1.cell (p := ⟨wr.heap.size, 1, none⟩) (by simp)).trans (show _ = some (.string (cg L k).after) by simp); have x2 := (hb1.cell (p := ⟨wr.heap.size, 2, none⟩) (by simp)).trans (show _ = some (.int .i64 (cg L k).link) by simp); have x3 := (hb1.cell (p := ⟨wr.heap.size, 3, none⟩) (by simp)).trans (show _ = some (.int .i64 (cg L k).delay) by simp); obtain ⟨y0, y1⟩ := box2 (hB.trans (hB1.mono hB.size)))
                  | (go_at_call 50; (with_reducible refine (time_any _ _).mono ?_); rintro e w' ⟨rfl, rfl⟩; rw [HTM.out]))
                go_ret
                exact ⟨ret_bool HNO.out.symm, mono_in _ (hB.trans (hB1.mono hB.size))⟩
              · have HTM := Lib.hid htm
                have HC : Hid (cueOK L k = (if (cg L k).link = 1 then decide ((cg L k).after = ⟨#[]⟩) else if (cg L k).link = 2 ∨ (cg L k).link = 3 then decide (0 ≤ findI L (cg L k).after) && !(findI L (cg L k).after == k) else false)) := Lib.hid (by unfold cueOK; rw [hnm, htm, g1, beq_self_eq_true]; rfl)
                clear htm hnm g1
                by_cases l1 : (cg L k).link = 1
                · have m1 : ((cg L k).link == 1) = true := beq_iff_eq.2 l1
                  by_cases hs : (cg L k).after.toList = []
                  · have HOK := HYES.out (by rw [HC.out, if_pos l1]; exact decide_eq_true ((nil_iff _).1 hs))
                    have hs2 : (!(cg L k).after.toList.isEmpty) = false := by rw [hs]; rfl
                    clear l1 hs
                    go_wp2_with (first
                      | (go_at_call 64; (with_reducible refine (isName_any _ _).mono ?_); rintro e w' ⟨rfl, rfl⟩; rw [HNM.out])
                      | (go_at_call 53; (with_reducible refine (find_any _ L _ _ (cg L k).name _ hlen (HIR.out.grow HBA.out)).mono ?_); rintro e w1 ⟨rfl, hb1⟩; rw [HF1.out]; have hB1 := HBA.out.trans (hb1.mono HBA.out.size); have x1 := (hb1.cell (p := ⟨wr.heap.size, 1, none⟩) (by simp)).trans (show _ = some (.string (cg L k).after) by simp); have x2 := (hb1.cell (p := ⟨wr.heap.size, 2, none⟩) (by simp)).trans (show _ = some (.int .i64 (cg L k).link) by simp); have x3 := (hb1.cell (p := ⟨wr.heap.size, 3, none⟩) (by simp)).trans (show _ = some (.int .i64 (cg L k).delay) by simp); obtain ⟨y0, y1⟩ := box2 (hB.trans (hB1.mono hB.size)))
                      | (go_at_call 50; (with_reducible refine (time_any _ _).mono ?_); rintro e w' ⟨rfl, rfl⟩; rw [HTM.out]))
                    go_roundw
                    case rel => exact ⟨k + 1, by omega, by go_num, hB.trans (hB1.mono hB.size), HOK⟩
                    case measure => simp [intOf]; omega
                  · have HNO := HNOF.out (by rw [HC.out, if_pos l1]; exact decide_eq_false (fun e => hs ((nil_iff _).2 e)))
                    have hs2 : (!(cg L k).after.toList.isEmpty) = true := by simpa using hs
                    clear l1 hs
                    go_wp2_with (first
                      | (go_at_call 64; (with_reducible refine (isName_any _ _).mono ?_); rintro e w' ⟨rfl, rfl⟩; rw [HNM.out])
                      | (go_at_call 53; (with_reducible refine (find_any _ L _ _ (cg L k).name _ hlen (HIR.out.grow HBA.out)).mono ?_); rintro e w1 ⟨rfl, hb1⟩; rw [HF1.out]; have hB1 := HBA.out.trans (hb1.mono HBA.out.size); have x1 := (hb1.cell (p := ⟨wr.heap.size, 1, none⟩) (by simp)).trans (show _ = some (.string (cg L k).after) by simp); have x2 := (hb1.cell (p := ⟨wr.heap.size, 2, none⟩) (by simp)).trans (show _ = some (.int .i64 (cg L k).link) by simp); have x3 := (hb1.cell (p := ⟨wr.heap.size, 3, none⟩) (by simp)).trans (show _ = some (.int .i64 (cg L k).delay) by simp); obtain ⟨y0, y1⟩ := box2 (hB.trans (hB1.mono hB.size)))
                      | (go_at_call 50; (with_reducible refine (time_any _ _).mono ?_); rintro e w' ⟨rfl, rfl⟩; rw [HTM.out]))
                    go_ret
                    exact ⟨ret_bool HNO.out.symm, mono_in _ (hB.trans (hB1.mono hB.size))⟩
                · have m1 : ((cg L k).link == 1) = false := beq_eq_false_iff_ne.2 l1
                  obtain ⟨fa, hfa⟩ : ∃ fa, findI L (cg L k).after = fa := ⟨_, rfl⟩
                  have HF2 := Lib.hid hfa
                  have HC2 := Lib.hid HC.out
                  rw [if_neg l1, hfa] at HC2
                  clear hfa
                  by_cases l2 : (cg L k).link = 2
                  · have m2 : ((cg L k).link == 2) = true := beq_iff_eq.2 l2
                    have HC3 := Lib.hid HC2.out
                    rw [if_pos (.inl l2)] at HC3
                    clear l1 l2
                    by_cases f0 : fa < 0
                    · have HNO := HNOF.out (by rw [HC3.out, show decide (0 ≤ fa) = false from decide_eq_false (by omega)]; rfl)
                      go_wp2_with (first
                        | (go_at_call 64; (with_reducible refine (isName_any _ _).mono ?_); rintro e w' ⟨rfl, rfl⟩; rw [HNM.out])
                        | (go_at_call 53; (with_reducible refine (find_any _ L _ _ (cg L k).after _ hlen (HIR.out.grow hB1)).mono ?_); rintro e w2 ⟨rfl, hb2⟩; rw [HF2.out]; have hB2 := hB1.trans (hb2.mono hB1.size))
                        | (go_at_call 53; (with_reducible refine (find_any _ L _ _ (cg L k).name _ hlen (HIR.out.grow HBA.out)).mono ?_); rintro e w1 ⟨rfl, hb1⟩; rw [HF1.out]; have hB1 := HBA.out.trans (hb1.mono HBA.out.size); have x1 := (hb1.cell (p := ⟨wr.heap.size, 1, none⟩) (by simp)).trans (show _ = some (.string (cg L k).after) by simp); have x2 := (hb1.cell (p := ⟨wr.heap.size, 2, none⟩) (by simp)).trans (show _ = some (.int .i64 (cg L k).link) by simp); have x3 := (hb1.cell (p := ⟨wr.heap.size, 3, none⟩) (by simp)).trans (show _ = some (.int .i64 (cg L k).delay) by simp); obtain ⟨y0, y1⟩ := box2 (hB.trans (hB1.mono hB.size)))
                        | (go_at_call 50; (with_reducible refine (time_any _ _).mono ?_); rintro e w' ⟨rfl, rfl⟩; rw [HTM.out]))
                      go_ret
                      exact ⟨ret_bool HNO.out.symm, mono_in _ (hB.trans (hB2.mono hB.size))⟩
                    · by_cases fk : fa = k
                      · have HNO := HNOF.out (by rw [HC3.out, show (fa == (k : Int)) = true from beq_iff_eq.2 fk, Bool.not_true, Bool.and_false])
                        have m4 : (fa == (k : Int)) = true := beq_iff_eq.2 fk
                        clear fk
                        go_wp2_with (first
                          | (go_at_call 64; (with_reducible refine (isName_any _ _).mono ?_); rintro e w' ⟨rfl, rfl⟩; rw [HNM.out])
                          | (go_at_call 53; (with_reducible refine (find_any _ L _ _ (cg L k).after _ hlen (HIR.out.grow hB1)).mono ?_); rintro e w2 ⟨rfl, hb2⟩; rw [HF2.out]; have hB2 := hB1.trans (hb2.mono hB1.size))
                          | (go_at_call 53; (with_reducible refine (find_any _ L _ _ (cg L k).name _ hlen (HIR.out.grow HBA.out)).mono ?_); rintro e w1 ⟨rfl, hb1⟩; rw [HF1.out]; have hB1 := HBA.out.trans (hb1.mono HBA.out.size); have x1 := (hb1.cell (p := ⟨wr.heap.size, 1, none⟩) (by simp)).trans (show _ = some (.string (cg L k).after) by simp); have x2 := (hb1.cell (p := ⟨wr.heap.size, 2, none⟩) (by simp)).trans (show _ = some (.int .i64 (cg L k).link) by simp); have x3 := (hb1.cell (p := ⟨wr.heap.size, 3, none⟩) (by simp)).trans (show _ = some (.int .i64 (cg L k).delay) by simp); obtain ⟨y0, y1⟩ := box2 (hB.trans (hB1.mono hB.size)))
                          | (go_at_call 50; (with_reducible refine (time_any _ _).mono ?_); rintro e w' ⟨rfl, rfl⟩; rw [HTM.out]))
                        go_ret
                        exact ⟨ret_bool HNO.out.symm, mono_in _ (hB.trans (hB2.mono hB.size))⟩
                      · have m4 : (fa == (k : Int)) = false := beq_eq_false_iff_ne.2 fk
                        have HOK := HYES.out (by rw [HC3.out, m4, show decide (0 ≤ fa) = true from decide_eq_true (by omega)]; rfl)
                        clear fk
                        go_wp2_with (first
                          | (go_at_call 64; (with_reducible refine (isName_any _ _).mono ?_); rintro e w' ⟨rfl, rfl⟩; rw [HNM.out])
                          | (go_at_call 53; (with_reducible refine (find_any _ L _ _ (cg L k).after _ hlen (HIR.out.grow hB1)).mono ?_); rintro e w2 ⟨rfl, hb2⟩; rw [HF2.out]; have hB2 := hB1.trans (hb2.mono hB1.size))
                          | (go_at_call 53; (with_reducible refine (find_any _ L _ _ (cg L k).name _ hlen (HIR.out.grow HBA.out)).mono ?_); rintro e w1 ⟨rfl, hb1⟩; rw [HF1.out]; have hB1 := HBA.out.trans (hb1.mono HBA.out.size); have x1 := (hb1.cell (p := ⟨wr.heap.size, 1, none⟩) (by simp)).trans (show _ = some (.string (cg L k).after) by simp); have x2 := (hb1.cell (p := ⟨wr.heap.size, 2, none⟩) (by simp)).trans (show _ = some (.int .i64 (cg L k).link) by simp); have x3 := (hb1.cell (p := ⟨wr.heap.size, 3, none⟩) (by simp)).trans (show _ = some (.int .i64 (cg L k).delay) by simp); obtain ⟨y0, y1⟩ := box2 (hB.trans (hB1.mono hB.size)))
                          | (go_at_call 50; (with_reducible refine (time_any _ _).mono ?_); rintro e w' ⟨rfl, rfl⟩; rw [HTM.out]))
                        go_roundw
                        case rel => exact ⟨k + 1, by omega, by go_num, hB.trans (hB2.mono hB.size), HOK⟩
                        case measure => simp [intOf]; omega
                  · have m2 : ((cg L k).link == 2) = false := beq_eq_false_iff_ne.2 l2
                    by_cases l3 : (cg L k).link = 3
                    · have m3 : ((cg L k).link == 3) = true := beq_iff_eq.2 l3
                      have HC3 := Lib.hid HC2.out
                      rw [if_pos (.inr l3)] at HC3
                      clear l1 l2 l3
                      by_cases f0 : fa < 0
                      · have HNO := HNOF.out (by rw [HC3.out, show decide (0 ≤ fa) = false from decide_eq_false (by omega)]; rfl)
                        go_wp2_with (first
                          | (go_at_call 64; (with_reducible refine (isName_any _ _).mono ?_); rintro e w' ⟨rfl, rfl⟩; rw [HNM.out])
                          | (go_at_call 53; (with_reducible refine (find_any _ L _ _ (cg L k).after _ hlen (HIR.out.grow hB1)).mono ?_); rintro e w2 ⟨rfl, hb2⟩; rw [HF2.out]; have hB2 := hB1.trans (hb2.mono hB1.size))
                          | (go_at_call 53; (with_reducible refine (find_any _ L _ _ (cg L k).name _ hlen (HIR.out.grow HBA.out)).mono ?_); rintro e w1 ⟨rfl, hb1⟩; rw [HF1.out]; have hB1 := HBA.out.trans (hb1.mono HBA.out.size); have x1 := (hb1.cell (p := ⟨wr.heap.size, 1, none⟩) (by simp)).trans (show _ = some (.string (cg L k).after) by simp); have x2 := (hb1.cell (p := ⟨wr.heap.size, 2, none⟩) (by simp)).trans (show _ = some (.int .i64 (cg L k).link) by simp); have x3 := (hb1.cell (p := ⟨wr.heap.size, 3, none⟩) (by simp)).trans (show _ = some (.int .i64 (cg L k).delay) by simp); obtain ⟨y0, y1⟩ := box2 (hB.trans (hB1.mono hB.size)))
                          | (go_at_call 50; (with_reducible refine (time_any _ _).mono ?_); rintro e w' ⟨rfl, rfl⟩; rw [HTM.out]))
                        go_ret
                        exact ⟨ret_bool HNO.out.symm, mono_in _ (hB.trans (hB2.mono hB.size))⟩
                      · by_cases fk : fa = k
                        · have HNO := HNOF.out (by rw [HC3.out, show (fa == (k : Int)) = true from beq_iff_eq.2 fk, Bool.not_true, Bool.and_false])
                          have m4 : (fa == (k : Int)) = true := beq_iff_eq.2 fk
                          clear fk
                          go_wp2_with (first
                            | (go_at_call 64; (with_reducible refine (isName_any _ _).mono ?_); rintro e w' ⟨rfl, rfl⟩; rw [HNM.out])
                            | (go_at_call 53; (with_reducible refine (find_any _ L _ _ (cg L k).after _ hlen (HIR.out.grow hB1)).mono ?_); rintro e w2 ⟨rfl, hb2⟩; rw [HF2.out]; have hB2 := hB1.trans (hb2.mono hB1.size))
                            | (go_at_call 53; (with_reducible refine (find_any _ L _ _ (cg L k).name _ hlen (HIR.out.grow HBA.out)).mono ?_); rintro e w1 ⟨rfl, hb1⟩; rw [HF1.out]; have hB1 := HBA.out.trans (hb1.mono HBA.out.size); have x1 := (hb1.cell (p := ⟨wr.heap.size, 1, none⟩) (by simp)).trans (show _ = some (.string (cg L k).after) by simp); have x2 := (hb1.cell (p := ⟨wr.heap.size, 2, none⟩) (by simp)).trans (show _ = some (.int .i64 (cg L k).link) by simp); have x3 := (hb1.cell (p := ⟨wr.heap.size, 3, none⟩) (by simp)).trans (show _ = some (.int .i64 (cg L k).delay) by simp); obtain ⟨y0, y1⟩ := box2 (hB.trans (hB1.mono hB.size)))
                            | (go_at_call 50; (with_reducible refine (time_any _ _).mono ?_); rintro e w' ⟨rfl, rfl⟩; rw [HTM.out]))
                          go_ret
                          exact ⟨ret_bool HNO.out.symm, mono_in _ (hB.trans (hB2.mono hB.size))⟩
                        · have m4 : (fa == (k : Int)) = false := beq_eq_false_iff_ne.2 fk
                          have HOK := HYES.out (by rw [HC3.out, m4, show decide (0 ≤ fa) = true from decide_eq_true (by omega)]; rfl)
                          clear fk
                          go_wp2_with (first
                            | (go_at_call 64; (with_reducible refine (isName_any _ _).mono ?_); rintro e w' ⟨rfl, rfl⟩; rw [HNM.out])
                            | (go_at_call 53; (with_reducible refine (find_any _ L _ _ (cg L k).after _ hlen (HIR.out.grow hB1)).mono ?_); rintro e w2 ⟨rfl, hb2⟩; rw [HF2.out]; have hB2 := hB1.trans (hb2.mono hB1.size))
                            | (go_at_call 53; (with_reducible refine (find_any _ L _ _ (cg L k).name _ hlen (HIR.out.grow HBA.out)).mono ?_); rintro e w1 ⟨rfl, hb1⟩; rw [HF1.out]; have hB1 := HBA.out.trans (hb1.mono HBA.out.size); have x1 := (hb1.cell (p := ⟨wr.heap.size, 1, none⟩) (by simp)).trans (show _ = some (.string (cg L k).after) by simp); have x2 := (hb1.cell (p := ⟨wr.heap.size, 2, none⟩) (by simp)).trans (show _ = some (.int .i64 (cg L k).link) by simp); have x3 := (hb1.cell (p := ⟨wr.heap.size, 3, none⟩) (by simp)).trans (show _ = some (.int .i64 (cg L k).delay) by simp); obtain ⟨y0, y1⟩ := box2 (hB.trans (hB1.mono hB.size)))
                            | (go_at_call 50; (with_reducible refine (time_any _ _).mono ?_); rintro e w' ⟨rfl, rfl⟩; rw [HTM.out]))
                          go_roundw
                          case rel => exact ⟨k + 1, by omega, by go_num, hB.trans (hB2.mono hB.size), HOK⟩
                          case measure => simp [intOf]; omega
                    · have m3 : ((cg L k).link == 3) = false := beq_eq_false_iff_ne.2 l3
                      have HNO := HNOF.out (by rw [HC2.out, if_neg (by omega)])
                      clear l1 l2 l3
                      go_wp2_with (first
                        | (go_at_call 64; (with_reducible refine (isName_any _ _).mono ?_); rintro e w' ⟨rfl, rfl⟩; rw [HNM.out])
                        | (go_at_call 53; (with_reducible refine (find_any _ L _ _ (cg L k).name _ hlen (HIR.out.grow HBA.out)).mono ?_); rintro e w1 ⟨rfl, hb1⟩; rw [HF1.out]; have hB1 := HBA.out.trans (hb1.mono HBA.out.size); have x1 := (hb1.cell (p := ⟨wr.heap.size, 1, none⟩) (by simp)).trans (show _ = some (.string (cg L k).after) by simp); have x2 := (hb1.cell (p := ⟨wr.heap.size, 2, none⟩) (by simp)).trans (show _ = some (.int .i64 (cg L k).link) by simp); have x3 := (hb1.cell (p := ⟨wr.heap.size, 3, none⟩) (by simp)).trans (show _ = some (.int .i64 (cg L k).delay) by simp); obtain ⟨y0, y1⟩ := box2 (hB.trans (hB1.mono hB.size)))
                        | (go_at_call 50; (with_reducible refine (time_any _ _).mono ?_); rintro e w' ⟨rfl, rfl⟩; rw [HTM.out]))
                      go_ret
                      exact ⟨ret_bool HNO.out.symm, mono_in _ (hB.trans (hB1.mono hB.size))⟩
            · obtain ⟨fi, hfi⟩ : ∃ fi, findI L (cg L k).name = fi := ⟨_, rfl⟩
              have HF1 := Lib.hid hfi
              have HNO : Hid (linkedB L A = false) := HNOF.out (by unfold cueOK; rw [beq_eq_false_iff_ne.2 g1, Bool.and_false]; rfl)
              rw [hfi] at g1
              have m0 : (fi != (k : Int)) = true := bne_iff_ne.2 g1
              clear hfi hnm g1
              go_wp2_with (first
                | (go_at_call 64; (with_reducible refine (isName_any _ _).mono ?_); rintro e w' ⟨rfl, rfl⟩; rw [HNM.out])
                | (go_at_call 53; (with_reducible refine (find_any _ L _ _ (cg L k).name _ hlen (HIR.out.grow HBA.out)).mono ?_); rintro e w1 ⟨rfl, hb1⟩; rw [HF1.out]; have hB1 := HBA.out.trans (hb1.mono HBA.out.size); have x1 := (hb1.cell (p := ⟨wr.heap.size, 1, none⟩) (by simp)).trans (show _ = some (.string (cg L k).after) by simp); have x2 := (hb1.cell (p := ⟨wr.heap.size, 2, none⟩) (by simp)).trans (show _ = some (.int .i64 (cg L k).link) by simp); have x3 := (hb1.cell (p := ⟨wr.heap.size, 3, none⟩) (by simp)).trans (show _ = some (.int .i64 (cg L k).delay) by simp); obtain ⟨y0, y1⟩ := box2 (hB.trans (hB1.mono hB.size))))
              go_ret
              exact ⟨ret_bool HNO.out.symm, mono_in _ (hB.trans (hB1.mono hB.size))⟩
        · obtain rfl : k = L.length := by omega
          have HLL : Hid (linkedB L A = !pair_any A (pairBad L)) := Lib.hid (by rw [HL.out, HO.out]; rfl)
          have hlA : A.length ≤ 1100 := by omega
          go_wp2_with (go_at_call 46; (refine (pair_containsFunc _ A _ _ _ _ (pairBad L) _ (enters_of Try.func65 (by kernel_rfl) rfl) hlA (Nat.le_refl _) (HP.out.grow hB) (asks_linked w.heap.size ca pa L A cc pc _ _ hlen (Nat.le_refl _) (World.block_lt_of_cell? _ _ z0) z0 z1 HIR.out)).mono ?_); rintro e w4 ⟨rfl, hb4⟩)
          go_ret
          exact ⟨ret_bool HLL.out.symm, mono_in _ (hB.trans (hb4.mono hB.size))⟩

end Go.Proofs.Ytapjhjpibefooaa
