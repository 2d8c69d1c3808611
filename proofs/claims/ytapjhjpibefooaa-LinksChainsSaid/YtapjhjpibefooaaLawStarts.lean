/-
  THE WALK of the law LinksStarts.
-/
import Derived.Test.YtapjhjpibefooaaLawClash
import Derived.Test.YtapjhjpibefooaaRStarts
import Derived.Test.YtapjhjpibefooaaRChain
namespace Go.Proofs.Ytapjhjpibefooaa
open Go.RowKit Go.Shelf

theorem num_equal_same (a1 a2 : Option Addr) (F : List Int) (c1 c2 : Nat) (w : World) (hl : F.length ≤ 1100) (h1 : Nums w.heap.size w a1 F) (h2 : Nums w.heap.size w a2 F) :
    Calls Try.prog 16 #[.slice a1 F.length c1, .slice a2 F.length c2] w fun e w' => e = .returned (.bool true) ∧ Below w.heap.size w w' :=
  (num_equal a1 a2 F F c1 c2 w hl h1 h2 hl).mono fun e w' h => by rw [decide_eq_true rfl] at h; exact h
theorem str_equal_same (a1 a2 : Option Addr) (F : List ByteArray) (c1 c2 : Nat) (w : World) (hl : F.length ≤ 1100) (h1 : Strs w.heap.size w a1 F) (h2 : Strs w.heap.size w a2 F) :
    Calls Try.prog 19 #[.slice a1 F.length c1, .slice a2 F.length c2] w fun e w' => e = .returned (.bool true) ∧ Below w.heap.size w w' :=
  (str_equal a1 a2 F F c1 c2 w hl h1 h2 hl).mono fun e w' h => by rw [decide_eq_true rfl] at h; exact h
theorem startsP_len (L : List CueR) (A : List (ByteArray × ByteArray)) (N G : List Int) : (startsP L A N G).1.length ≤ L.length := by
  unfold startsP
  split
  · split
    · split
      · exact Nat.zero_le _
      · split
        · exact Nat.zero_le _
        · unfold startsV; rw [pass2_len]; exact Nat.le_refl _
    · exact Nat.zero_le _
  · exact Nat.zero_le _

set_option maxRecDepth 100000 in
set_option maxHeartbeats 16000000 in
theorem starts_law (ca pa na ga : Option Addr) (L : List CueR) (A : List (ByteArray × ByteArray)) (N G : List Int) (name : ByteArray) (cc pc nc gc : Nat) (w : World) (hI : Cues w.heap.size w ca L) (hP : Pairs w.heap.size w pa A) (hN : Nums w.heap.size w na N) (hG : Nums w.heap.size w ga G) :
    Calls Try.prog 3 #[.agg #[.slice ca L.length cc, .slice pa A.length pc], .slice na N.length nc, .slice ga G.length gc, .string name] w fun e w' => e = .returned (.bool true) ∧ Below w.heap.size w w' := by
  have hb0 : Below w.heap.size w (w.alloc (.cells #[.slice ca L.length cc, .slice pa A.length pc] 25)) := below_new w _
  have HI := Lib.hid (hI.grow hb0)
  have HP := Lib.hid (hP.grow hb0)
  have HN := Lib.hid (hN.grow hb0)
  have HG := Lib.hid (hG.grow hb0)
  have HX : Hid (∀ wr, Below (w.alloc (.cells #[.slice ca L.length cc, .slice pa A.length pc] 25)).heap.size (w.alloc (.cells #[.slice ca L.length cc, .slice pa A.length pc] 25)) wr → Below w.heap.size w wr ∧ wr.cell? ⟨w.heap.size, 0, none⟩ = some (.slice ca L.length cc) ∧ wr.cell? ⟨w.heap.size, 1, none⟩ = some (.slice pa A.length pc)) := Lib.hid fun wr h => ⟨mono_in _ h, box2 h⟩
  clear hb0 hI hP hN hG
  cases hlb : largeB L A
  · have HLB := Lib.hid hlb
    obtain ⟨hl1, hl2, hl3⟩ := large_len hlb
    clear hlb
    by_cases q1 : (100 : Int) < N.length
    · have g1 := decide_eq_true q1
      go_enter Try.func3, Try.ntmps3
      go_wp2_with (first
        | (go_at_call 10; (with_reducible refine (awake_any _).mono ?_); rintro e w1 ⟨rfl, hb1⟩; obtain ⟨_, z10, z11⟩ := HX.out _ hb1)
        | (go_at_call 11; (with_reducible refine (large_any _ _ L A _ _ _ (HI.out.grow hb1) (HP.out.grow hb1)).mono ?_); rintro e w2 ⟨rfl, hb2⟩; rw [HLB.out]; have hB2 := hb1.trans (hb2.mono hb1.size); obtain ⟨_, z20, z21⟩ := HX.out _ hB2))
      go_ret
      exact ⟨rfl, (HX.out _ hB2).1⟩
    · have g1 := decide_eq_false q1
      by_cases q2 : (100 : Int) < G.length
      · have g2 := decide_eq_true q2
        go_enter Try.func3, Try.ntmps3
        go_wp2_with (first
          | (go_at_call 10; (with_reducible refine (awake_any _).mono ?_); rintro e w1 ⟨rfl, hb1⟩; obtain ⟨_, z10, z11⟩ := HX.out _ hb1)
          | (go_at_call 11; (with_reducible refine (large_any _ _ L A _ _ _ (HI.out.grow hb1) (HP.out.grow hb1)).mono ?_); rintro e w2 ⟨rfl, hb2⟩; rw [HLB.out]; have hB2 := hb1.trans (hb2.mono hb1.size); obtain ⟨_, z20, z21⟩ := HX.out _ hB2))
        go_ret
        exact ⟨rfl, (HX.out _ hB2).1⟩
      · have g2 := decide_eq_false q2
        by_cases q3 : (60 : Int) < name.size
        · have g3 := decide_eq_true q3
          go_enter Try.func3, Try.ntmps3
          go_wp2_with (first
            | (go_at_call 10; (with_reducible refine (awake_any _).mono ?_); rintro e w1 ⟨rfl, hb1⟩; obtain ⟨_, z10, z11⟩ := HX.out _ hb1)
            | (go_at_call 11; (with_reducible refine (large_any _ _ L A _ _ _ (HI.out.grow hb1) (HP.out.grow hb1)).mono ?_); rintro e w2 ⟨rfl, hb2⟩; rw [HLB.out]; have hB2 := hb1.trans (hb2.mono hb1.size); obtain ⟨_, z20, z21⟩ := HX.out _ hB2))
          go_ret
          exact ⟨rfl, (HX.out _ hB2).1⟩
        · have g3 := decide_eq_false q3
          have hsl : N.length ≤ 100 := by omega
          have hnl : G.length ≤ 100 := by omega
          clear q1 q2 q3
          cases hlk : linkedB L A
          · have HLK := Lib.hid hlk
            have HSP : Hid (startsP L A N G = ([], 1)) := Lib.hid (by unfold startsP; rw [hlk]; rfl)
            have HCP : Hid (chainNP L A name = ([], 1)) := Lib.hid (by unfold chainNP; rw [hlk]; rfl)
            clear hlk
            go_enter Try.func3, Try.ntmps3
            go_wp2_with (first
              | (go_at_call 10; (with_reducible refine (awake_any _).mono ?_); rintro e w1 ⟨rfl, hb1⟩; obtain ⟨_, z10, z11⟩ := HX.out _ hb1)
              | (go_at_call 11; (with_reducible refine (large_any _ _ L A _ _ _ (HI.out.grow hb1) (HP.out.grow hb1)).mono ?_); rintro e w2 ⟨rfl, hb2⟩; rw [HLB.out]; have hB2 := hb1.trans (hb2.mono hb1.size); obtain ⟨_, z20, z21⟩ := HX.out _ hB2)
              | (go_at_call 12; (with_reducible refine (starts_any _ _ _ _ L A N G _ _ _ _ _ (by omega) (by omega) (by omega) (HI.out.grow hB2) (HP.out.grow hB2) (HN.out.grow hB2) (HG.out.grow hB2)).mono ?_); rintro e w3 hx; obtain ⟨v3, rfl, hr3, hb3⟩ := hx.out; rw [HSP.out] at hr3; rw [HSP.out]; have hB3 := hB2.trans (hb3.mono hB2.size); obtain ⟨a3, c3, rfl, _, _, _, hf3⟩ := num_of_row hr3; have HF3 := Lib.hid hf3; obtain ⟨_, z30, z31⟩ := HX.out _ hB3; clear hx hr3 hf3)
              | (go_at_call 13; (with_reducible refine (chainN_any _ _ L A _ _ name _ (by omega) (HI.out.grow hB3) (HP.out.grow hB3)).mono ?_); rintro e w4 hx; obtain ⟨v4, rfl, hr4, hb4⟩ := hx.out; rw [HCP.out] at hr4; rw [HCP.out]; have hB4 := hB3.trans (hb4.mono hB3.size); obtain ⟨a4, c4, rfl, _, _, _, hf4⟩ := str_of_row hr4; have HF4 := Lib.hid hf4; have HF34 := Lib.hid (HF3.out.grow hb4); obtain ⟨_, z40, z41⟩ := HX.out _ hB4; clear hx hr4 hf4)
              | (go_at_call 14; (with_reducible refine (reflinked_any _ _ L A _ _ _ (by omega) (HI.out.grow hB4) (HP.out.grow hB4)).mono ?_); rintro e w5 ⟨rfl, hb5⟩; rw [HLK.out]; have hB5 := hB4.trans (hb5.mono hB4.size); obtain ⟨_, z50, z51⟩ := HX.out _ hB5))
            go_ret
            exact ⟨rfl, (HX.out _ hB5).1⟩
          · have HLK := Lib.hid hlk
            obtain ⟨V, ec, hsp⟩ : ∃ V ec, startsP L A N G = (V, ec) := ⟨_, _, rfl⟩
            have hvl : V.length ≤ 1000 := by have := startsP_len L A N G; rw [hsp] at this; have h2 : V.length ≤ L.length := this; omega
            have HSP := Lib.hid hsp
            obtain ⟨fi, hfi⟩ : ∃ fi, findI L name = fi := ⟨_, rfl⟩
            have HC1 : Hid (chainNP L A name = if fi < 0 then ([], 9) else if (chainP (hangs L) fi).2 then (namesOf L (chainP (hangs L) fi).1, 0) else ([], 23)) := Lib.hid (by unfold chainNP; rw [hlk, hfi]; rfl)
            have HFI := Lib.hid hfi
            by_cases h0 : fi < 0
            · have HCP : Hid (chainNP L A name = ([], 9)) := Lib.hid (by rw [HC1.out, if_pos h0])
              clear hlk hsp hfi
              go_enter Try.func3, Try.ntmps3
              go_wp2_with (first
                | (go_at_call 10; (with_reducible refine (awake_any _).mono ?_); rintro e w1 ⟨rfl, hb1⟩; obtain ⟨_, z10, z11⟩ := HX.out _ hb1)
                | (go_at_call 11; (with_reducible refine (large_any _ _ L A _ _ _ (HI.out.grow hb1) (HP.out.grow hb1)).mono ?_); rintro e w2 ⟨rfl, hb2⟩; rw [HLB.out]; have hB2 := hb1.trans (hb2.mono hb1.size); obtain ⟨_, z20, z21⟩ := HX.out _ hB2)
                | (go_at_call 12; (with_reducible refine (starts_any _ _ _ _ L A N G _ _ _ _ _ (by omega) (by omega) (by omega) (HI.out.grow hB2) (HP.out.grow hB2) (HN.out.grow hB2) (HG.out.grow hB2)).mono ?_); rintro e w3 hx; obtain ⟨v3, rfl, hr3, hb3⟩ := hx.out; rw [HSP.out] at hr3; rw [HSP.out]; have hB3 := hB2.trans (hb3.mono hB2.size); obtain ⟨a3, c3, rfl, _, _, _, hf3⟩ := num_of_row hr3; have HF3 := Lib.hid hf3; obtain ⟨_, z30, z31⟩ := HX.out _ hB3; clear hx hr3 hf3)
                | (go_at_call 13; (with_reducible refine (chainN_any _ _ L A _ _ name _ (by omega) (HI.out.grow hB3) (HP.out.grow hB3)).mono ?_); rintro e w4 hx; obtain ⟨v4, rfl, hr4, hb4⟩ := hx.out; rw [HCP.out] at hr4; rw [HCP.out]; have hB4 := hB3.trans (hb4.mono hB3.size); obtain ⟨a4, c4, rfl, _, _, _, hf4⟩ := str_of_row hr4; have HF4 := Lib.hid hf4; have HF34 := Lib.hid (HF3.out.grow hb4); obtain ⟨_, z40, z41⟩ := HX.out _ hB4; clear hx hr4 hf4)
                | (go_at_call 14; (with_reducible refine (reflinked_any _ _ L A _ _ _ (by omega) (HI.out.grow hB4) (HP.out.grow hB4)).mono ?_); rintro e w5 ⟨rfl, hb5⟩; rw [HLK.out]; have hB5 := hB4.trans (hb5.mono hB4.size); obtain ⟨_, z50, z51⟩ := HX.out _ hB5)
                | (go_at_call 15; (with_reducible refine (refstarts_any _ _ _ _ L A N G _ _ _ _ _ HLK.out (by omega) (by omega) (HI.out.grow hB5) (HN.out.grow hB5) (HG.out.grow hB5)).mono ?_); rintro e w6 hx; obtain ⟨v6, rfl, hr6, hb6⟩ := hx.out; rw [HSP.out] at hr6; rw [HSP.out]; have hB6 := hB5.trans (hb6.mono hB5.size); obtain ⟨a6, c6, rfl, _, _, _, hf6⟩ := num_of_row hr6; have HF6 := Lib.hid hf6; have HF36 := Lib.hid ((HF34.out.grow hb5).grow hb6); have HF46 := Lib.hid ((HF4.out.grow hb5).grow hb6); obtain ⟨_, z60, z61⟩ := HX.out _ hB6; clear hx hr6 hf6)
                | (go_at_call 16; (with_reducible refine (num_equal_same _ _ V _ _ _ (by omega) HF36.out HF6.out).mono ?_); rintro e w7 ⟨rfl, hb7⟩; have hB7 := hB6.trans (hb7.mono hB6.size); obtain ⟨_, z70, z71⟩ := HX.out _ hB7)
                | (go_at_call 17; (with_reducible refine (reffind_any _ L _ _ name _ (by omega) (HI.out.grow hB7)).mono ?_); rintro e w8 ⟨rfl, hb8⟩; rw [HFI.out]; have hB8 := hB7.trans (hb8.mono hB7.size); obtain ⟨_, z80, z81⟩ := HX.out _ hB8))
              go_ret
              exact ⟨rfl, (HX.out _ hB8).1⟩
            · have hfl := (findI_name L name (by omega)).1
              rw [hfi] at hfl
              obtain ⟨i, rfl⟩ : ∃ i : Nat, fi = i := ⟨fi.toNat, by omega⟩
              have hiL : i < L.length := by simpa using hfl
              have HC2 : Hid (chainNP L A name = if (chainP (hangs L) i).2 then (namesOf L (chainP (hangs L) i).1, 0) else ([], 23)) := Lib.hid (by rw [HC1.out, if_neg h0])
              have HR2 : Hid (chainR L i = if (chainP (hangs L) i).2 then (namesOf L (chainP (hangs L) i).1, true) else ([], false)) := Lib.hid rfl
              have htl : (chainP (hangs L) i).1.length ≤ L.length := by
                have := chain_len _ (hang_ok L) (i : Int) (by omega) (by rw [hangs_len]; omega)
                rwa [hangs_len] at this
              clear hlk hsp hfi hfl
              cases hok : (chainP (hangs L) i).2
              · have HCP : Hid (chainNP L A name = ([], 23)) := Lib.hid (by rw [HC2.out, hok]; rfl)
                have HCR : Hid (chainR L i = ([], false)) := Lib.hid (by rw [HR2.out, hok]; rfl)
                clear hok htl
                go_enter Try.func3, Try.ntmps3
                go_wp2_with (first
                  | (go_at_call 10; (with_reducible refine (awake_any _).mono ?_); rintro e w1 ⟨rfl, hb1⟩; obtain ⟨_, z10, z11⟩ := HX.out _ hb1)
                  | (go_at_call 11; (with_reducible refine (large_any _ _ L A _ _ _ (HI.out.grow hb1) (HP.out.grow hb1)).mono ?_); rintro e w2 ⟨rfl, hb2⟩; rw [HLB.out]; have hB2 := hb1.trans (hb2.mono hb1.size); obtain ⟨_, z20, z21⟩ := HX.out _ hB2)
                  | (go_at_call 12; (with_reducible refine (starts_any _ _ _ _ L A N G _ _ _ _ _ (by omega) (by omega) (by omega) (HI.out.grow hB2) (HP.out.grow hB2) (HN.out.grow hB2) (HG.out.grow hB2)).mono ?_); rintro e w3 hx; obtain ⟨v3, rfl, hr3, hb3⟩ := hx.out; rw [HSP.out] at hr3; rw [HSP.out]; have hB3 := hB2.trans (hb3.mono hB2.size); obtain ⟨a3, c3, rfl, _, _, _, hf3⟩ := num_of_row hr3; have HF3 := Lib.hid hf3; obtain ⟨_, z30, z31⟩ := HX.out _ hB3; clear hx hr3 hf3)
                  | (go_at_call 13; (with_reducible refine (chainN_any _ _ L A _ _ name _ (by omega) (HI.out.grow hB3) (HP.out.grow hB3)).mono ?_); rintro e w4 hx; obtain ⟨v4, rfl, hr4, hb4⟩ := hx.out; rw [HCP.out] at hr4; rw [HCP.out]; have hB4 := hB3.trans (hb4.mono hB3.size); obtain ⟨a4, c4, rfl, _, _, _, hf4⟩ := str_of_row hr4; have HF4 := Lib.hid hf4; have HF34 := Lib.hid (HF3.out.grow hb4); obtain ⟨_, z40, z41⟩ := HX.out _ hB4; clear hx hr4 hf4)
                  | (go_at_call 14; (with_reducible refine (reflinked_any _ _ L A _ _ _ (by omega) (HI.out.grow hB4) (HP.out.grow hB4)).mono ?_); rintro e w5 ⟨rfl, hb5⟩; rw [HLK.out]; have hB5 := hB4.trans (hb5.mono hB4.size); obtain ⟨_, z50, z51⟩ := HX.out _ hB5)
                  | (go_at_call 15; (with_reducible refine (refstarts_any _ _ _ _ L A N G _ _ _ _ _ HLK.out (by omega) (by omega) (HI.out.grow hB5) (HN.out.grow hB5) (HG.out.grow hB5)).mono ?_); rintro e w6 hx; obtain ⟨v6, rfl, hr6, hb6⟩ := hx.out; rw [HSP.out] at hr6; rw [HSP.out]; have hB6 := hB5.trans (hb6.mono hB5.size); obtain ⟨a6, c6, rfl, _, _, _, hf6⟩ := num_of_row hr6; have HF6 := Lib.hid hf6; have HF36 := Lib.hid ((HF34.out.grow hb5).grow hb6); have HF46 := Lib.hid ((HF4.out.grow hb5).grow hb6); obtain ⟨_, z60, z61⟩ := HX.out _ hB6; clear hx hr6 hf6)
                  | (go_at_call 16; (with_reducible refine (num_equal_same _ _ V _ _ _ (by omega) HF36.out HF6.out).mono ?_); rintro e w7 ⟨rfl, hb7⟩; have hB7 := hB6.trans (hb7.mono hB6.size); obtain ⟨_, z70, z71⟩ := HX.out _ hB7)
                  | (go_at_call 17; (with_reducible refine (reffind_any _ L _ _ name _ (by omega) (HI.out.grow hB7)).mono ?_); rintro e w8 ⟨rfl, hb8⟩; rw [HFI.out]; have hB8 := hB7.trans (hb8.mono hB7.size); obtain ⟨_, z80, z81⟩ := HX.out _ hB8)
                  | (go_at_call 18; (with_reducible refine (refchain_any _ _ L A _ _ i _ HLK.out hiL (HI.out.grow hB8)).mono ?_); rintro e w9 hx; obtain ⟨v9, rfl, hr9, hb9⟩ := hx.out; rw [HCR.out] at hr9; rw [HCR.out]; have hB9 := hB8.trans (hb9.mono hB8.size); obtain ⟨a9, c9, rfl, _, _, _, hf9⟩ := str_of_row hr9; have HF9 := Lib.hid hf9; have HF49 := Lib.hid (((HF46.out.grow hb7).grow hb8).grow hb9); clear hx hr9 hf9))
                go_ret
                exact ⟨rfl, (HX.out _ hB9).1⟩
              · obtain ⟨T, hT⟩ : ∃ T, namesOf L (chainP (hangs L) i).1 = T := ⟨_, rfl⟩
                have htl2 : T.length ≤ 1000 := by rw [← hT, namesOf_len]; omega
                have HCP : Hid (chainNP L A name = (T, 0)) := Lib.hid (by rw [HC2.out, hok, hT]; rfl)
                have HCR : Hid (chainR L i = (T, true)) := Lib.hid (by rw [HR2.out, hok, hT]; rfl)
                clear hok htl hT
                go_enter Try.func3, Try.ntmps3
                go_wp2_with (first
                  | (go_at_call 10; (with_reducible refine (awake_any _).mono ?_); rintro e w1 ⟨rfl, hb1⟩; obtain ⟨_, z10, z11⟩ := HX.out _ hb1)
                  | (go_at_call 11; (with_reducible refine (large_any _ _ L A _ _ _ (HI.out.grow hb1) (HP.out.grow hb1)).mono ?_); rintro e w2 ⟨rfl, hb2⟩; rw [HLB.out]; have hB2 := hb1.trans (hb2.mono hb1.size); obtain ⟨_, z20, z21⟩ := HX.out _ hB2)
                  | (go_at_call 12; (with_reducible refine (starts_any _ _ _ _ L A N G _ _ _ _ _ (by omega) (by omega) (by omega) (HI.out.grow hB2) (HP.out.grow hB2) (HN.out.grow hB2) (HG.out.grow hB2)).mono ?_); rintro e w3 hx; obtain ⟨v3, rfl, hr3, hb3⟩ := hx.out; rw [HSP.out] at hr3; rw [HSP.out]; have hB3 := hB2.trans (hb3.mono hB2.size); obtain ⟨a3, c3, rfl, _, _, _, hf3⟩ := num_of_row hr3; have HF3 := Lib.hid hf3; obtain ⟨_, z30, z31⟩ := HX.out _ hB3; clear hx hr3 hf3)
                  | (go_at_call 13; (with_reducible refine (chainN_any _ _ L A _ _ name _ (by omega) (HI.out.grow hB3) (HP.out.grow hB3)).mono ?_); rintro e w4 hx; obtain ⟨v4, rfl, hr4, hb4⟩ := hx.out; rw [HCP.out] at hr4; rw [HCP.out]; have hB4 := hB3.trans (hb4.mono hB3.size); obtain ⟨a4, c4, rfl, _, _, _, hf4⟩ := str_of_row hr4; have HF4 := Lib.hid hf4; have HF34 := Lib.hid (HF3.out.grow hb4); obtain ⟨_, z40, z41⟩ := HX.out _ hB4; clear hx hr4 hf4)
                  | (go_at_call 14; (with_reducible refine (reflinked_any _ _ L A _ _ _ (by omega) (HI.out.grow hB4) (HP.out.grow hB4)).mono ?_); rintro e w5 ⟨rfl, hb5⟩; rw [HLK.out]; have hB5 := hB4.trans (hb5.mono hB4.size); obtain ⟨_, z50, z51⟩ := HX.out _ hB5)
                  | (go_at_call 15; (with_reducible refine (refstarts_any _ _ _ _ L A N G _ _ _ _ _ HLK.out (by omega) (by omega) (HI.out.grow hB5) (HN.out.grow hB5) (HG.out.grow hB5)).mono ?_); rintro e w6 hx; obtain ⟨v6, rfl, hr6, hb6⟩ := hx.out; rw [HSP.out] at hr6; rw [HSP.out]; have hB6 := hB5.trans (hb6.mono hB5.size); obtain ⟨a6, c6, rfl, _, _, _, hf6⟩ := num_of_row hr6; have HF6 := Lib.hid hf6; have HF36 := Lib.hid ((HF34.out.grow hb5).grow hb6); have HF46 := Lib.hid ((HF4.out.grow hb5).grow hb6); obtain ⟨_, z60, z61⟩ := HX.out _ hB6; clear hx hr6 hf6)
                  | (go_at_call 16; (with_reducible refine (num_equal_same _ _ V _ _ _ (by omega) HF36.out HF6.out).mono ?_); rintro e w7 ⟨rfl, hb7⟩; have hB7 := hB6.trans (hb7.mono hB6.size); obtain ⟨_, z70, z71⟩ := HX.out _ hB7)
                  | (go_at_call 17; (with_reducible refine (reffind_any _ L _ _ name _ (by omega) (HI.out.grow hB7)).mono ?_); rintro e w8 ⟨rfl, hb8⟩; rw [HFI.out]; have hB8 := hB7.trans (hb8.mono hB7.size); obtain ⟨_, z80, z81⟩ := HX.out _ hB8)
                  | (go_at_call 18; (with_reducible refine (refchain_any _ _ L A _ _ i _ HLK.out hiL (HI.out.grow hB8)).mono ?_); rintro e w9 hx; obtain ⟨v9, rfl, hr9, hb9⟩ := hx.out; rw [HCR.out] at hr9; rw [HCR.out]; have hB9 := hB8.trans (hb9.mono hB8.size); obtain ⟨a9, c9, rfl, _, _, _, hf9⟩ := str_of_row hr9; have HF9 := Lib.hid hf9; have HF49 := Lib.hid (((HF46.out.grow hb7).grow hb8).grow hb9); clear hx hr9 hf9)
                  | (go_at_call 19; (with_reducible refine (str_equal_same _ _ T _ _ _ (by omega) HF49.out HF9.out).mono ?_); rintro e w10 ⟨rfl, hb10⟩; have hB10 := hB9.trans (hb10.mono hB9.size)))
                go_ret
                exact ⟨rfl, (HX.out _ hB10).1⟩
  · have HLB := Lib.hid hlb
    clear hlb
    go_enter Try.func3, Try.ntmps3
    go_wp2_with (first
      | (go_at_call 10; (with_reducible refine (awake_any _).mono ?_); rintro e w1 ⟨rfl, hb1⟩; obtain ⟨_, z10, z11⟩ := HX.out _ hb1)
      | (go_at_call 11; (with_reducible refine (large_any _ _ L A _ _ _ (HI.out.grow hb1) (HP.out.grow hb1)).mono ?_); rintro e w2 ⟨rfl, hb2⟩; rw [HLB.out]; have hB2 := hb1.trans (hb2.mono hb1.size); obtain ⟨_, z20, z21⟩ := HX.out _ hB2))
    go_ret
    exact ⟨rfl, (HX.out _ hB2).1⟩
end Go.Proofs.Ytapjhjpibefooaa
