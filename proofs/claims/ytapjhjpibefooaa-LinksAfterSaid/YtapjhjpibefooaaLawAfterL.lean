/-
  THE WALK of the law LinksAfter: a loop is found; the sheet is not linked; it is large.
-/
import Derived.Test.YtapjhjpibefooaaLawAfter
import Derived.Test.YtapjhjpibefooaaAfterN
import Derived.IntWalk
import Derived.BigQuiet
import Derived.Deep.QuietTactic
namespace Go.Proofs.Ytapjhjpibefooaa
open Go.RowKit Go.Shelf

set_option maxRecDepth 100000 in
set_option maxHeartbeats 16000000 in
theorem after_loop (ca pa : Option Addr) (L : List CueR) (A : List (ByteArray × ByteArray)) (cc pc : Nat) (w : World) (hI : Cues w.heap.size w ca L) (hP : Pairs w.heap.size w pa A) (hlb : largeB L A = false) (hlk : linkedB L A = true) (ho : (ordP (hangs L)).length < L.length) :
    Calls Try.prog 8 #[.agg #[.slice ca L.length cc, .slice pa A.length pc]] w fun e w' => e = .returned (.bool true) ∧ Below w.heap.size w w' := by
  have hb0 : Below w.heap.size w (w.alloc (.cells #[.slice ca L.length cc, .slice pa A.length pc] 25)) := below_new w _
  have HI := Lib.hid (hI.grow hb0)
  have HP := Lib.hid (hP.grow hb0)
  have HX : Hid (∀ wr, Below (w.alloc (.cells #[.slice ca L.length cc, .slice pa A.length pc] 25)).heap.size (w.alloc (.cells #[.slice ca L.length cc, .slice pa A.length pc] 25)) wr → Below w.heap.size w wr ∧ wr.cell? ⟨w.heap.size, 0, none⟩ = some (.slice ca L.length cc) ∧ wr.cell? ⟨w.heap.size, 1, none⟩ = some (.slice pa A.length pc)) := Lib.hid fun wr h => ⟨mono_in _ h, box2 h⟩
  clear hb0 hI hP
  have HLB := Lib.hid hlb
  obtain ⟨hl1, hl2, hl3⟩ := large_len hlb
  have HLK := Lib.hid hlk
  have HOP : Hid (orderP L A = ([], 23)) := Lib.hid (by unfold orderP; rw [hlk, if_pos rfl, if_pos ho])
  have hne := loop_of_short (hang_ok L) (by rw [hangs_len]; exact ho)
  obtain ⟨i, hi⟩ : ∃ i, loopI (hangs L) = some i := by
    cases h : loopI (hangs L) with
    | none => exact absurd h hne
    | some i => exact ⟨i, rfl⟩
  have HN := Lib.hid (loop_names hlk hi).2.2
  have ht2 := (loop_names hlk hi).1
  have htn := (loop_names hlk hi).2.1
  obtain ⟨T, hT⟩ : ∃ T, namesOf L (chainP (hangs L) (i : Int)).1 = T := ⟨_, rfl⟩
  have HLP : Hid (loopP L A = (T, 0)) := Lib.hid (by unfold loopP; rw [hlk, hi, if_pos rfl]; exact congrArg (fun z => (z, (0 : Int))) hT)
  rw [hT] at HN ht2 htn
  have g1 : decide (L.length < T.length) = false := decide_eq_false (by omega)
  have g2 : decide ((T.length : Int) < 2) = false := decide_eq_false (by omega)
  have g3 : decide ((L.length : Int) < (T.length : Int)) = false := decide_eq_false (by omega)
  clear hlb hlk hne ho hi hT
  go_enter Try.func8, Try.ntmps8
  go_wp2_with (first
    | (go_at_call 10; (with_reducible refine (awake_any _).mono ?_); rintro e w1 ⟨rfl, hb1⟩; obtain ⟨_, z10, z11⟩ := HX.out _ hb1)
    | (go_at_call 11; (with_reducible refine (large_any _ _ L A _ _ _ (HI.out.grow hb1) (HP.out.grow hb1)).mono ?_); rintro e w2 ⟨rfl, hb2⟩; rw [HLB.out]; have hB2 := hb1.trans (hb2.mono hb1.size); obtain ⟨_, z20, z21⟩ := HX.out _ hB2)
    | (go_at_call 36; (with_reducible refine (orderE_any _ _ L A _ _ _ (by omega) (HI.out.grow hB2) (HP.out.grow hB2)).mono ?_); rintro e w3 hx; obtain ⟨v3, rfl, hr3, hb3⟩ := hx.out; rw [HOP.out] at hr3; rw [HOP.out]; have hB3 := hB2.trans (hb3.mono hB2.size); obtain ⟨a3, c3, rfl, _, _, _, hf3⟩ := num_of_row hr3; have HF3 := Lib.hid hf3; obtain ⟨_, z30, z31⟩ := HX.out _ hB3; clear hx hr3 hf3)
    | (go_at_call 37; (with_reducible refine (loop_any _ _ L A _ _ _ (by omega) (HI.out.grow hB3) (HP.out.grow hB3)).mono ?_); rintro e w4 hx; obtain ⟨v4, rfl, hr4, hb4⟩ := hx.out; rw [HLP.out] at hr4; rw [HLP.out]; have hB4 := hB3.trans (hb4.mono hB3.size); obtain ⟨a4, c4, rfl, _, _, _, hf4⟩ := str_of_row hr4; have HF4 := Lib.hid hf4; obtain ⟨_, z40, z41⟩ := HX.out _ hB4; clear hx hr4 hf4))
  have hIf := HI.out.grow hB4
  have HI9 := Lib.hid hIf
  have hw4 : w.heap.size < w4.heap.size := World.block_lt_of_cell? _ _ z40
  have HZ0 := Lib.hid z40
  have HZ1 := Lib.hid z41
  have HFIN : Hid (∀ wr, Below w4.heap.size w4 wr → Below w.heap.size w wr) := Lib.hid fun wr h => (HX.out _ (hB4.trans (h.mono hB4.size))).1
  clear hb1 hb2 hb3 hb4 hB2 hB3 hB4 z10 z11 z20 z21 z30 z31 z40 z41 HF3 HI HP hIf
  go_loopw [164] (fun i wr => ∃ k : Nat, k ≤ T.length ∧ i = .int .i64 k ∧ Below w4.heap.size w4 wr) (fun i _ => T.length - (intOf i).toNat)
  case atStart => exact ⟨0, Nat.zero_le _, rfl, Below.refl _ _⟩
  case round =>
    obtain ⟨k, hk, rfl, hC⟩ := hrel
    by_cases hlt : k < T.length
    · obtain ⟨tb, to, rfl, htb, htc⟩ := HF4.out (by omega)
      obtain ⟨b, off, rfl, hb, hc⟩ := HI9.out (by omega)
      obtain ⟨m, hm, hm1, hm2, hm3⟩ := HN.out k hlt
      have hmod : (k + 1) % T.length < T.length := Nat.mod_lt _ (by omega)
      have hm0 : ((k : Int) + 1).tmod (T.length : Int) = (((k + 1) % T.length : Nat) : Int) := by rw [Int.tmod_eq_emod_of_nonneg (by omega)]; simp
      have s0 := (hC.cell (p := ⟨tb, to + k, none⟩) (show tb < w4.heap.size by omega)).trans (htc k hlt)
      have s1 := (hC.cell (p := ⟨tb, to + (k + 1) % T.length, none⟩) (show tb < w4.heap.size by omega)).trans (htc _ hmod)
      have d1 := (hC.cell (p := ⟨b, off + m * 7 + 1, none⟩) (show b < w4.heap.size by omega)).trans (hc m hm).2.1
      rw [hm2] at d1
      have y0 := (hC.cell (p := ⟨w.heap.size, 0, none⟩) (show w.heap.size < w4.heap.size by omega)).trans HZ0.out
      have y1 := (hC.cell (p := ⟨w.heap.size, 1, none⟩) (show w.heap.size < w4.heap.size by omega)).trans HZ1.out
      have htr : tb < wr.heap.size := Nat.lt_of_lt_of_le htb hC.size
      have hbr : b < wr.heap.size := Nat.lt_of_lt_of_le hb hC.size
      have hwr : w.heap.size < wr.heap.size := Nat.lt_of_lt_of_le hw4 hC.size
      have HM1 := Lib.hid hm1
      have HM3 := Lib.hid hm3
      have HIN : Hid (∀ o, Cues (wr.alloc o).heap.size (wr.alloc o) (some ⟨b, off, none⟩) L) := Lib.hid fun o => (HI9.out.grow hC).grow (below_new wr o)
      have HTN : Hid (Strs w4.heap.size w4 (some ⟨tb, to, none⟩) T) := Lib.hid (HF4.out)
      clear hm1 hm2 hm3 hc htc
      generalize (k + 1) % T.length = k2 at *
      have q1 : ((sg T k2).toList != (sg T k2).toList) = false := bne_self_eq_false _
      have q2 : ((k : Int) != (k : Int)) = false := bne_self_eq_false _
      have q3 : IntKind.i64.wrap ((k : Int) + 1) = (k : Int) + 1 := IntWalk.i64_in _ (by omega)
      have q5 : ¬ T = [] := fun e => by rw [e] at htn ht2; simp at ht2
      have q6 : ((T.length : Int) == 0) = false := beq_eq_false_iff_ne.2 (by omega)
      have q7 : ¬ (T.length : Int) = 0 := by omega
      have q8 : ¬ T.length = 0 := by omega
      have q9 : IntKind.i64.wrap (k2 : Int) = (k2 : Int) := IntWalk.i64_in _ (by omega)
      have q4 : ((k2 : Nat) : Int).toNat = k2 := Int.toNat_natCast _
      go_wp2_with (first
        | (go_at_call 24; (with_reducible refine (cue_indexFunc (some ⟨b, off, none⟩) L _ _ _ _ (fun r => decide (r.name = sg T k)) _ ent_after2 (by omega) (Nat.le_refl _) (HIN.out _) (asks_after2 wr.heap.size (sg T k) _ _ (by simp) (by simp))).mono ?_); rintro e w6 ⟨rfl, hb6⟩; rw [HM1.out]; have y2 : w6.cell? ⟨wr.heap.size, 0, none⟩ = some (.string (sg T k)) := (hb6.cell (p := ⟨wr.heap.size, 0, none⟩) (by simp)).trans (by simp); have hbw := mono_in _ hb6; have hW := hC.trans (hbw.mono hC.size); have hu0 := (hbw.cell (p := ⟨w.heap.size, 0, none⟩) hwr).trans y0; have hu1 := (hbw.cell (p := ⟨w.heap.size, 1, none⟩) hwr).trans y1; have b0 := (hbw.cell (p := ⟨tb, to + k2, none⟩) htr).trans s1; have b1 := (hbw.cell (p := ⟨b, off + m * 7 + 1, none⟩) hbr).trans d1; have HTW : Hid (∀ n, Strs w4.heap.size (w6.drewN n) (some ⟨tb, to, none⟩) T) := Lib.hid fun n => HTN.out.below (below_drewN hW n); clear hb6))
      go_quiet ((go_at_call 35; exact Calls.quiet_of_same (v := .int .i64 (k : Int)) ((str_index (some ⟨tb, to, none⟩) T _ (sg T k) _ _ (by omega) (HTW.out _)).mono fun e w' h => ⟨h.1.trans (by rw [HM3.out]), h.2.symm⟩)))
      clear q1 q2 q3 q4 q5 q6 q7 q8 q9 hm0
      go_wp2_with fail
      go_roundw
      case rel => exact ⟨k + 1, by omega, by go_num, below_drewN hW _⟩
      case measure => first | (simp [intOf]; done) | (simp [intOf]; omega)
    · obtain rfl : k = T.length := by omega
      go_wp2_with fail
      go_ret
      exact ⟨rfl, HFIN.out _ hC⟩

set_option maxRecDepth 100000 in
set_option maxHeartbeats 16000000 in
theorem after_law (ca pa : Option Addr) (L : List CueR) (A : List (ByteArray × ByteArray)) (cc pc : Nat) (w : World) (hI : Cues w.heap.size w ca L) (hP : Pairs w.heap.size w pa A) :
    Calls Try.prog 8 #[.agg #[.slice ca L.length cc, .slice pa A.length pc]] w fun e w' => e = .returned (.bool true) ∧ Below w.heap.size w w' := by
  have hI0 := hI
  have hP0 := hP
  have hb0 : Below w.heap.size w (w.alloc (.cells #[.slice ca L.length cc, .slice pa A.length pc] 25)) := below_new w _
  have HI := Lib.hid (hI.grow hb0)
  have HP := Lib.hid (hP.grow hb0)
  have HX : Hid (∀ wr, Below (w.alloc (.cells #[.slice ca L.length cc, .slice pa A.length pc] 25)).heap.size (w.alloc (.cells #[.slice ca L.length cc, .slice pa A.length pc] 25)) wr → Below w.heap.size w wr ∧ wr.cell? ⟨w.heap.size, 0, none⟩ = some (.slice ca L.length cc) ∧ wr.cell? ⟨w.heap.size, 1, none⟩ = some (.slice pa A.length pc)) := Lib.hid fun wr h => ⟨mono_in _ h, box2 h⟩
  clear hb0
  cases hlb : largeB L A
  · cases hlk : linkedB L A
    · have HLB := Lib.hid hlb
      obtain ⟨hl1, hl2, hl3⟩ := large_len hlb
      have HOP : Hid (orderP L A = ([], 1)) := Lib.hid (by unfold orderP; rw [hlk]; rfl)
      have HLP : Hid (loopP L A = ([], 1)) := Lib.hid (by unfold loopP; rw [hlk]; rfl)
      clear hlb hlk hI hP hI0 hP0
      go_enter Try.func8, Try.ntmps8
      go_wp2_with (first
        | (go_at_call 10; (with_reducible refine (awake_any _).mono ?_); rintro e w1 ⟨rfl, hb1⟩; obtain ⟨_, z10, z11⟩ := HX.out _ hb1)
        | (go_at_call 11; (with_reducible refine (large_any _ _ L A _ _ _ (HI.out.grow hb1) (HP.out.grow hb1)).mono ?_); rintro e w2 ⟨rfl, hb2⟩; rw [HLB.out]; have hB2 := hb1.trans (hb2.mono hb1.size); obtain ⟨_, z20, z21⟩ := HX.out _ hB2)
        | (go_at_call 36; (with_reducible refine (orderE_any _ _ L A _ _ _ (by omega) (HI.out.grow hB2) (HP.out.grow hB2)).mono ?_); rintro e w3 hx; obtain ⟨v3, rfl, hr3, hb3⟩ := hx.out; rw [HOP.out] at hr3; rw [HOP.out]; have hB3 := hB2.trans (hb3.mono hB2.size); obtain ⟨a3, c3, rfl, _, _, _, hf3⟩ := num_of_row hr3; have HF3 := Lib.hid hf3; obtain ⟨_, z30, z31⟩ := HX.out _ hB3; clear hx hr3 hf3)
        | (go_at_call 37; (with_reducible refine (loop_any _ _ L A _ _ _ (by omega) (HI.out.grow hB3) (HP.out.grow hB3)).mono ?_); rintro e w4 hx; obtain ⟨v4, rfl, hr4, hb4⟩ := hx.out; rw [HLP.out] at hr4; rw [HLP.out]; have hB4 := hB3.trans (hb4.mono hB3.size); obtain ⟨a4, c4, rfl, _, _, _, hf4⟩ := str_of_row hr4; have HF4 := Lib.hid hf4; obtain ⟨_, z40, z41⟩ := HX.out _ hB4; clear hx hr4 hf4))
      go_ret
      exact ⟨rfl, (HX.out _ hB4).1⟩
    · by_cases ho : (ordP (hangs L)).length < L.length
      · exact after_loop ca pa L A cc pc w hI0 hP0 hlb hlk ho
      · exact after_full ca pa L A cc pc w hI0 hP0 hlb hlk ho
  · have HLB := Lib.hid hlb
    clear hlb hI hP hI0 hP0
    go_enter Try.func8, Try.ntmps8
    go_wp2_with (first
      | (go_at_call 10; (with_reducible refine (awake_any _).mono ?_); rintro e w1 ⟨rfl, hb1⟩; obtain ⟨_, z10, z11⟩ := HX.out _ hb1)
      | (go_at_call 11; (with_reducible refine (large_any _ _ L A _ _ _ (HI.out.grow hb1) (HP.out.grow hb1)).mono ?_); rintro e w2 ⟨rfl, hb2⟩; rw [HLB.out]; have hB2 := hb1.trans (hb2.mono hb1.size); obtain ⟨_, z20, z21⟩ := HX.out _ hB2))
    go_ret
    exact ⟨rfl, (HX.out _ hB2).1⟩
end Go.Proofs.Ytapjhjpibefooaa
