/-
  THE WALKS of large; of the law LinksClash.
-/
import Derived.Test.YtapjhjpibefooaaAwake
import Derived.Test.YtapjhjpibefooaaRClash
namespace Go.Proofs.Ytapjhjpibefooaa
open Go.RowKit Go.Shelf

def longC (r : CueR) : Bool := decide ((60 : Int) < r.name.size) || decide ((60 : Int) < r.after.size)
def longP (r : ByteArray × ByteArray) : Bool := decide ((60 : Int) < r.1.size) || decide ((60 : Int) < r.2.size)
def largeB (L : List CueR) (A : List (ByteArray × ByteArray)) : Bool := decide (20 < L.length ∧ L.length ≤ 60) || decide (63 < L.length) || decide (30 < A.length) || cue_any L longC || pair_any A longP
theorem large_len {L : List CueR} {A : List (ByteArray × ByteArray)} (h : largeB L A = false) : L.length ≤ 63 ∧ A.length ≤ 30 ∧ (60 < L.length ∨ L.length ≤ 20) := by
  unfold largeB at h
  simp only [Bool.or_eq_false_iff, decide_eq_false_iff_not] at h
  omega
set_option maxHeartbeats 1000000 in
theorem asks_longC (n₀ : Nat) (w : World) : AsksC 45 #[] n₀ w longC := by
  intro W r hB
  show Calls _ _ #[cueV r] _ _
  unfold cueV
  go_enter Try.func45, Try.ntmps45
  go_wp2
  all_goals (go_ret; exact ⟨ret_bool (by rw [Bool.eq_iff_iff]; simp [longC]; try omega), below_new _ _⟩)
set_option maxHeartbeats 1000000 in
theorem asks_longP (n₀ : Nat) (w : World) : AsksP 47 #[] n₀ w longP := by
  intro W r hB
  show Calls _ _ #[pairV r] _ _
  unfold pairV
  go_enter Try.func47, Try.ntmps47
  go_wp2
  all_goals (go_ret; exact ⟨ret_bool (by rw [Bool.eq_iff_iff]; simp [longP]; try omega), below_new _ _⟩)
theorem ent_longC (args : Array Value) (w : World) : (callFunc 45 args).run Try.prog w = .ok (.enter 45 args) w := enters_of Try.func45 (by kernel_rfl) rfl args w
theorem ent_longP (args : Array Value) (w : World) : (callFunc 47 args).run Try.prog w = .ok (.enter 47 args) w := enters_of Try.func47 (by kernel_rfl) rfl args w

set_option maxRecDepth 100000 in
set_option maxHeartbeats 4000000 in
theorem large_any (ca pa : Option Addr) (L : List CueR) (A : List (ByteArray × ByteArray)) (cc pc : Nat) (w : World) (hI : Cues w.heap.size w ca L) (hP : Pairs w.heap.size w pa A) :
    Calls Try.prog 11 #[.agg #[.slice ca L.length cc, .slice pa A.length pc]] w fun e w' => e = .returned (.bool (largeB L A)) ∧ Below w.heap.size w w' := by
  have hb0 : Below w.heap.size w (w.alloc (.cells #[.slice ca L.length cc, .slice pa A.length pc] 25)) := below_new w _
  have HI := Lib.hid (hI.grow hb0)
  have HP := Lib.hid (hP.grow hb0)
  have HB0 := Lib.hid hb0
  clear hb0 hI hP
  by_cases c1 : (20 : Int) < L.length ∧ (L.length : Int) ≤ 60
  · have H : Hid (largeB L A = true) := Lib.hid (by unfold largeB; rw [decide_eq_true (show 20 < L.length ∧ L.length ≤ 60 by omega)]; rfl)
    have g1 := decide_eq_true c1.1
    have g2 := decide_eq_true c1.2
    clear c1
    go_enter Try.func11, Try.ntmps11
    go_wp2_with fail
    go_ret
    exact ⟨ret_bool H.out.symm, HB0.out⟩
  · by_cases c2 : (63 : Int) < L.length
    · have H : Hid (largeB L A = true) := Lib.hid (by unfold largeB; rw [decide_eq_true (show 63 < L.length by omega), Bool.or_true]; rfl)
      have g1 : decide ((20 : Int) < L.length) = true := decide_eq_true (by omega)
      have g2 : decide ((L.length : Int) ≤ 60) = false := decide_eq_false (by omega)
      have g3 := decide_eq_true c2
      clear c1 c2
      go_enter Try.func11, Try.ntmps11
      go_wp2_with fail
      go_ret
      exact ⟨ret_bool H.out.symm, HB0.out⟩
    · by_cases c3 : (30 : Int) < A.length
      · have H : Hid (largeB L A = true) := Lib.hid (by unfold largeB; rw [decide_eq_true (show 30 < A.length by omega), Bool.or_true]; rfl)
        by_cases c4 : (20 : Int) < L.length
        · have g1 := decide_eq_true c4
          have g2 : decide ((L.length : Int) ≤ 60) = false := decide_eq_false (by omega)
          have g3 := decide_eq_false c2
          clear c1 c4
          have g4 := decide_eq_true c3
          go_enter Try.func11, Try.ntmps11
          go_wp2_with fail
          go_ret
          exact ⟨ret_bool H.out.symm, HB0.out⟩
        · have g1 := decide_eq_false c4
          have g3 := decide_eq_false c2
          clear c1 c4
          have g4 := decide_eq_true c3
          go_enter Try.func11, Try.ntmps11
          go_wp2_with fail
          go_ret
          exact ⟨ret_bool H.out.symm, HB0.out⟩
      · have H : Hid (largeB L A = (cue_any L longC || pair_any A longP)) := Lib.hid (by unfold largeB; rw [decide_eq_false (show ¬ (20 < L.length ∧ L.length ≤ 60) by omega), decide_eq_false (show ¬ 63 < L.length by omega), decide_eq_false (show ¬ 30 < A.length by omega)]; rfl)
        have hl : L.length ≤ 1000 := by omega
        have hla : A.length ≤ 1000 := by omega
        cases hc : cue_any L longC
        · have HC := Lib.hid hc
          have H2 : Hid (largeB L A = pair_any A longP) := Lib.hid (by rw [H.out, hc]; rfl)
          clear hc
          by_cases c4 : (20 : Int) < L.length
          · have g1 := decide_eq_true c4
            have g2 : decide ((L.length : Int) ≤ 60) = false := decide_eq_false (by omega)
            have g3 := decide_eq_false c2
            clear c1 c4
            have g4 := decide_eq_false c3
            go_enter Try.func11, Try.ntmps11
            go_wp2_with (first
              | (go_at_call 46; (with_reducible refine (pair_containsFunc pa A _ _ _ _ longP _ ent_longP (by omega) (Nat.le_refl _) (HP.out.grow hb2) (asks_longP _ _)).mono ?_); rintro e w3 ⟨rfl, hb3⟩; have hB3 := hB2.trans (hb3.mono hB2.size))
              | (go_at_call 44; (with_reducible refine (cue_containsFunc ca L _ _ _ _ longC _ ent_longC (by omega) (Nat.le_refl _) HI.out (asks_longC _ _)).mono ?_); rintro e w2 ⟨rfl, hb2⟩; rw [HC.out]; have hB2 := HB0.out.trans (hb2.mono HB0.out.size); obtain ⟨y0, y1⟩ := box2 hb2))
            go_ret
            exact ⟨ret_bool H2.out.symm, hB3⟩
          · have g1 := decide_eq_false c4
            have g3 := decide_eq_false c2
            clear c1 c4
            have g4 := decide_eq_false c3
            go_enter Try.func11, Try.ntmps11
            go_wp2_with (first
              | (go_at_call 46; (with_reducible refine (pair_containsFunc pa A _ _ _ _ longP _ ent_longP (by omega) (Nat.le_refl _) (HP.out.grow hb2) (asks_longP _ _)).mono ?_); rintro e w3 ⟨rfl, hb3⟩; have hB3 := hB2.trans (hb3.mono hB2.size))
              | (go_at_call 44; (with_reducible refine (cue_containsFunc ca L _ _ _ _ longC _ ent_longC (by omega) (Nat.le_refl _) HI.out (asks_longC _ _)).mono ?_); rintro e w2 ⟨rfl, hb2⟩; rw [HC.out]; have hB2 := HB0.out.trans (hb2.mono HB0.out.size); obtain ⟨y0, y1⟩ := box2 hb2))
            go_ret
            exact ⟨ret_bool H2.out.symm, hB3⟩
        · have HC := Lib.hid hc
          have H2 : Hid (largeB L A = true) := Lib.hid (by rw [H.out, hc]; rfl)
          clear hc
          by_cases c4 : (20 : Int) < L.length
          · have g1 := decide_eq_true c4
            have g2 : decide ((L.length : Int) ≤ 60) = false := decide_eq_false (by omega)
            have g3 := decide_eq_false c2
            clear c1 c4
            have g4 := decide_eq_false c3
            go_enter Try.func11, Try.ntmps11
            go_wp2_with (go_at_call 44; (with_reducible refine (cue_containsFunc ca L _ _ _ _ longC _ ent_longC (by omega) (Nat.le_refl _) HI.out (asks_longC _ _)).mono ?_); rintro e w2 ⟨rfl, hb2⟩; rw [HC.out]; have hB2 := HB0.out.trans (hb2.mono HB0.out.size); obtain ⟨y0, y1⟩ := box2 hb2)
            go_ret
            exact ⟨ret_bool H2.out.symm, hB2⟩
          · have g1 := decide_eq_false c4
            have g3 := decide_eq_false c2
            clear c1 c4
            have g4 := decide_eq_false c3
            go_enter Try.func11, Try.ntmps11
            go_wp2_with (go_at_call 44; (with_reducible refine (cue_containsFunc ca L _ _ _ _ longC _ ent_longC (by omega) (Nat.le_refl _) HI.out (asks_longC _ _)).mono ?_); rintro e w2 ⟨rfl, hb2⟩; rw [HC.out]; have hB2 := HB0.out.trans (hb2.mono HB0.out.size); obtain ⟨y0, y1⟩ := box2 hb2)
            go_ret
            exact ⟨ret_bool H2.out.symm, hB2⟩

theorem fin_equal_same (a1 a2 : Option Addr) (F : List (Int × ByteArray)) (c1 c2 : Nat) (w : World) (hl : F.length ≤ 1100) (h1 : Finds w.heap.size w a1 F) (h2 : Finds w.heap.size w a2 F) :
    Calls Try.prog 22 #[.slice a1 F.length c1, .slice a2 F.length c2] w fun e w' => e = .returned (.bool true) ∧ Below w.heap.size w w' :=
  (fin_equal a1 a2 F F c1 c2 w hl h1 h2 hl).mono fun e w' h => by rw [decide_eq_true rfl] at h; exact h
theorem clashP_len (L : List CueR) (A : List (ByteArray × ByteArray)) (S N : List Int) : (clashP L A S N).1.length ≤ A.length := by
  unfold clashP
  split
  · split
    · split
      · exact Nat.zero_le _
      · exact clashTo_len _ _ _ _ _
    · exact Nat.zero_le _
  · exact Nat.zero_le _

set_option maxRecDepth 100000 in
set_option maxHeartbeats 8000000 in
theorem clash_law (ca pa sa na : Option Addr) (L : List CueR) (A : List (ByteArray × ByteArray)) (S N : List Int) (cc pc sc nc : Nat) (w : World) (hI : Cues w.heap.size w ca L) (hP : Pairs w.heap.size w pa A) (hS : Nums w.heap.size w sa S) (hN : Nums w.heap.size w na N) :
    Calls Try.prog 4 #[.agg #[.slice ca L.length cc, .slice pa A.length pc], .slice sa S.length sc, .slice na N.length nc] w fun e w' => e = .returned (.bool true) ∧ Below w.heap.size w w' := by
  have hb0 : Below w.heap.size w (w.alloc (.cells #[.slice ca L.length cc, .slice pa A.length pc] 25)) := below_new w _
  have HI := Lib.hid (hI.grow hb0)
  have HP := Lib.hid (hP.grow hb0)
  have HS := Lib.hid (hS.grow hb0)
  have HN := Lib.hid (hN.grow hb0)
  have HX : Hid (∀ wr, Below (w.alloc (.cells #[.slice ca L.length cc, .slice pa A.length pc] 25)).heap.size (w.alloc (.cells #[.slice ca L.length cc, .slice pa A.length pc] 25)) wr → Below w.heap.size w wr ∧ wr.cell? ⟨w.heap.size, 0, none⟩ = some (.slice ca L.length cc) ∧ wr.cell? ⟨w.heap.size, 1, none⟩ = some (.slice pa A.length pc)) := Lib.hid fun wr h => ⟨mono_in _ h, box2 h⟩
  clear hb0 hI hP hS hN
  cases hlb : largeB L A
  · have HLB := Lib.hid hlb
    obtain ⟨hl1, hl2, hl3⟩ := large_len hlb
    clear hlb
    by_cases q1 : (100 : Int) < S.length
    · have g1 := decide_eq_true q1
      go_enter Try.func4, Try.ntmps4
      go_wp2_with (first
        | (go_at_call 10; (with_reducible refine (awake_any _).mono ?_); rintro e w1 ⟨rfl, hb1⟩; obtain ⟨_, z10, z11⟩ := HX.out _ hb1)
        | (go_at_call 11; (with_reducible refine (large_any _ _ L A _ _ _ (HI.out.grow hb1) (HP.out.grow hb1)).mono ?_); rintro e w2 ⟨rfl, hb2⟩; rw [HLB.out]; have hB2 := hb1.trans (hb2.mono hb1.size); obtain ⟨_, z20, z21⟩ := HX.out _ hB2))
      go_ret
      exact ⟨rfl, (HX.out _ hB2).1⟩
    · by_cases q2 : (100 : Int) < N.length
      · have g1 := decide_eq_false q1
        have g2 := decide_eq_true q2
        go_enter Try.func4, Try.ntmps4
        go_wp2_with (first
          | (go_at_call 10; (with_reducible refine (awake_any _).mono ?_); rintro e w1 ⟨rfl, hb1⟩; obtain ⟨_, z10, z11⟩ := HX.out _ hb1)
          | (go_at_call 11; (with_reducible refine (large_any _ _ L A _ _ _ (HI.out.grow hb1) (HP.out.grow hb1)).mono ?_); rintro e w2 ⟨rfl, hb2⟩; rw [HLB.out]; have hB2 := hb1.trans (hb2.mono hb1.size); obtain ⟨_, z20, z21⟩ := HX.out _ hB2))
        go_ret
        exact ⟨rfl, (HX.out _ hB2).1⟩
      · have g1 := decide_eq_false q1
        have g2 := decide_eq_false q2
        have hsl : S.length ≤ 100 := by omega
        have hnl : N.length ≤ 100 := by omega
        clear q1 q2
        obtain ⟨F, ec, hcp⟩ : ∃ F ec, clashP L A S N = (F, ec) := ⟨_, _, rfl⟩
        have hfl : F.length ≤ 1000 := by have := clashP_len L A S N; rw [hcp] at this; have h2 : F.length ≤ A.length := this; omega
        cases hlk : linkedB L A
        · have HLK := Lib.hid hlk
          obtain ⟨rfl, rfl⟩ : [] = F ∧ 1 = ec := by
            have : clashP L A S N = ([], 1) := by unfold clashP; rw [hlk]; rfl
            rw [this] at hcp
            simpa using hcp
          have HCP := Lib.hid hcp
          clear hcp hlk hfl
          go_enter Try.func4, Try.ntmps4
          go_wp2_with (first
            | (go_at_call 10; (with_reducible refine (awake_any _).mono ?_); rintro e w1 ⟨rfl, hb1⟩; obtain ⟨_, z10, z11⟩ := HX.out _ hb1)
            | (go_at_call 11; (with_reducible refine (large_any _ _ L A _ _ _ (HI.out.grow hb1) (HP.out.grow hb1)).mono ?_); rintro e w2 ⟨rfl, hb2⟩; rw [HLB.out]; have hB2 := hb1.trans (hb2.mono hb1.size); obtain ⟨_, z20, z21⟩ := HX.out _ hB2)
            | (go_at_call 20; (with_reducible refine (clash_any _ _ _ _ L A S N _ _ _ _ _ (by omega) (by omega) (by omega) (HI.out.grow hB2) (HP.out.grow hB2) (HS.out.grow hB2) (HN.out.grow hB2)).mono ?_); rintro e w3 hx; obtain ⟨v3, rfl, hr3, hb3⟩ := hx.out; rw [HCP.out] at hr3; rw [HCP.out]; have hB3 := hB2.trans (hb3.mono hB2.size); obtain ⟨a3, c3, rfl, _, _, _, hf3⟩ := fin_of_row hr3; have HF3 := Lib.hid hf3; obtain ⟨_, z30, z31⟩ := HX.out _ hB3; clear hx hr3 hf3)
            | (go_at_call 14; (with_reducible refine (reflinked_any _ _ L A _ _ _ (by omega) (HI.out.grow hB3) (HP.out.grow hB3)).mono ?_); rintro e w4 ⟨rfl, hb4⟩; rw [HLK.out]; have hB4 := hB3.trans (hb4.mono hB3.size); obtain ⟨_, z40, z41⟩ := HX.out _ hB4))
          go_ret
          exact ⟨rfl, (HX.out _ hB4).1⟩
        · have HLK := Lib.hid hlk
          have HCP := Lib.hid hcp
          clear hcp hlk
          go_enter Try.func4, Try.ntmps4
          go_wp2_with (first
            | (go_at_call 10; (with_reducible refine (awake_any _).mono ?_); rintro e w1 ⟨rfl, hb1⟩; obtain ⟨_, z10, z11⟩ := HX.out _ hb1)
            | (go_at_call 11; (with_reducible refine (large_any _ _ L A _ _ _ (HI.out.grow hb1) (HP.out.grow hb1)).mono ?_); rintro e w2 ⟨rfl, hb2⟩; rw [HLB.out]; have hB2 := hb1.trans (hb2.mono hb1.size); obtain ⟨_, z20, z21⟩ := HX.out _ hB2)
            | (go_at_call 20; (with_reducible refine (clash_any _ _ _ _ L A S N _ _ _ _ _ (by omega) (by omega) (by omega) (HI.out.grow hB2) (HP.out.grow hB2) (HS.out.grow hB2) (HN.out.grow hB2)).mono ?_); rintro e w3 hx; obtain ⟨v3, rfl, hr3, hb3⟩ := hx.out; rw [HCP.out] at hr3; rw [HCP.out]; have hB3 := hB2.trans (hb3.mono hB2.size); obtain ⟨a3, c3, rfl, _, _, _, hf3⟩ := fin_of_row hr3; have HF3 := Lib.hid hf3; obtain ⟨_, z30, z31⟩ := HX.out _ hB3; clear hx hr3 hf3)
            | (go_at_call 14; (with_reducible refine (reflinked_any _ _ L A _ _ _ (by omega) (HI.out.grow hB3) (HP.out.grow hB3)).mono ?_); rintro e w4 ⟨rfl, hb4⟩; rw [HLK.out]; have hB4 := hB3.trans (hb4.mono hB3.size); obtain ⟨_, z40, z41⟩ := HX.out _ hB4)
            | (go_at_call 21; (with_reducible refine (refclash_any _ _ _ _ L A S N _ _ _ _ _ HLK.out (by omega) (by omega) (HI.out.grow hB4) (HP.out.grow hB4) (HS.out.grow hB4) (HN.out.grow hB4)).mono ?_); rintro e w5 hx; obtain ⟨v5, rfl, hr5, hb5⟩ := hx.out; rw [HCP.out] at hr5; rw [HCP.out]; have hB5 := hB4.trans (hb5.mono hB4.size); obtain ⟨a5, c5, rfl, _, _, _, hf5⟩ := fin_of_row hr5; have HF5 := Lib.hid hf5; have HF35 := Lib.hid ((HF3.out.grow hb4).grow hb5); clear hx hr5 hf5)
            | (go_at_call 22; (with_reducible refine (fin_equal_same _ _ F _ _ _ (by omega) HF35.out HF5.out).mono ?_); rintro e w6 ⟨rfl, hb6⟩; have hB6 := hB5.trans (hb6.mono hB5.size)))
          go_ret
          exact ⟨rfl, (HX.out _ hB6).1⟩
  · have HLB := Lib.hid hlb
    clear hlb
    go_enter Try.func4, Try.ntmps4
    go_wp2_with (first
      | (go_at_call 10; (with_reducible refine (awake_any _).mono ?_); rintro e w1 ⟨rfl, hb1⟩; obtain ⟨_, z10, z11⟩ := HX.out _ hb1)
      | (go_at_call 11; (with_reducible refine (large_any _ _ L A _ _ _ (HI.out.grow hb1) (HP.out.grow hb1)).mono ?_); rintro e w2 ⟨rfl, hb2⟩; rw [HLB.out]; have hB2 := hb1.trans (hb2.mono hb1.size); obtain ⟨_, z20, z21⟩ := HX.out _ hB2))
    go_ret
    exact ⟨rfl, (HX.out _ hB2).1⟩
end Go.Proofs.Ytapjhjpibefooaa
