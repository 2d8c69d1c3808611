/-
  THE WALK of the law LinksOrder.
-/
import Derived.Test.YtapjhjpibefooaaLawStarts
import Derived.Test.YtapjhjpibefooaaRoots
import Derived.Test.YtapjhjpibefooaaLoop
import Derived.Test.YtapjhjpibefooaaRLoop
import Derived.Test.YtapjhjpibefooaaOrdLoop
namespace Go.Proofs.Ytapjhjpibefooaa
open Go.RowKit Go.Shelf

set_option maxRecDepth 100000 in
set_option maxHeartbeats 16000000 in
theorem order_law (ca pa : Option Addr) (L : List CueR) (A : List (ByteArray × ByteArray)) (cc pc : Nat) (w : World) (hI : Cues w.heap.size w ca L) (hP : Pairs w.heap.size w pa A) :
    Calls Try.prog 9 #[.agg #[.slice ca L.length cc, .slice pa A.length pc]] w fun e w' => e = .returned (.bool true) ∧ Below w.heap.size w w' := by
  have hb0 : Below w.heap.size w (w.alloc (.cells #[.slice ca L.length cc, .slice pa A.length pc] 25)) := below_new w _
  have HI := Lib.hid (hI.grow hb0)
  have HP := Lib.hid (hP.grow hb0)
  have HX : Hid (∀ wr, Below (w.alloc (.cells #[.slice ca L.length cc, .slice pa A.length pc] 25)).heap.size (w.alloc (.cells #[.slice ca L.length cc, .slice pa A.length pc] 25)) wr → Below w.heap.size w wr ∧ wr.cell? ⟨w.heap.size, 0, none⟩ = some (.slice ca L.length cc) ∧ wr.cell? ⟨w.heap.size, 1, none⟩ = some (.slice pa A.length pc)) := Lib.hid fun wr h => ⟨mono_in _ h, box2 h⟩
  clear hb0 hI hP
  cases hlb : largeB L A
  · have HLB := Lib.hid hlb
    obtain ⟨hl1, hl2, hl3⟩ := large_len hlb
    clear hlb
    cases hlk : linkedB L A
    · have HLK := Lib.hid hlk
      have HOP : Hid (orderP L A = ([], 1)) := Lib.hid (by unfold orderP; rw [hlk]; rfl)
      have HLP : Hid (loopP L A = ([], 1)) := Lib.hid (by unfold loopP; rw [hlk]; rfl)
      have HRP : Hid (rootsP L A = ([], 1)) := Lib.hid (by unfold rootsP; rw [hlk]; rfl)
      clear hlk
      go_enter Try.func9, Try.ntmps9
      go_wp2_with (first
        | (go_at_call 10; (with_reducible refine (awake_any _).mono ?_); rintro e w1 ⟨rfl, hb1⟩; obtain ⟨_, z10, z11⟩ := HX.out _ hb1)
        | (go_at_call 11; (with_reducible refine (large_any _ _ L A _ _ _ (HI.out.grow hb1) (HP.out.grow hb1)).mono ?_); rintro e w2 ⟨rfl, hb2⟩; rw [HLB.out]; have hB2 := hb1.trans (hb2.mono hb1.size); obtain ⟨_, z20, z21⟩ := HX.out _ hB2)
        | (go_at_call 36; (with_reducible refine (orderE_any _ _ L A _ _ _ (by omega) (HI.out.grow hB2) (HP.out.grow hB2)).mono ?_); rintro e w3 hx; obtain ⟨v3, rfl, hr3, hb3⟩ := hx.out; rw [HOP.out] at hr3; rw [HOP.out]; have hB3 := hB2.trans (hb3.mono hB2.size); obtain ⟨a3, c3, rfl, _, _, _, hf3⟩ := num_of_row hr3; have HF3 := Lib.hid hf3; obtain ⟨_, z30, z31⟩ := HX.out _ hB3; clear hx hr3 hf3)
        | (go_at_call 37; (with_reducible refine (loop_any _ _ L A _ _ _ (by omega) (HI.out.grow hB3) (HP.out.grow hB3)).mono ?_); rintro e w4 hx; obtain ⟨v4, rfl, hr4, hb4⟩ := hx.out; rw [HLP.out] at hr4; rw [HLP.out]; have hB4 := hB3.trans (hb4.mono hB3.size); obtain ⟨a4, c4, rfl, _, _, _, hf4⟩ := str_of_row hr4; have HF4 := Lib.hid hf4; obtain ⟨_, z40, z41⟩ := HX.out _ hB4; clear hx hr4 hf4)
        | (go_at_call 31; (with_reducible refine (roots_any _ _ L A _ _ _ (by omega) (HI.out.grow hB4) (HP.out.grow hB4)).mono ?_); rintro e w5 hx; obtain ⟨v5, rfl, hr5, hb5⟩ := hx.out; rw [HRP.out] at hr5; rw [HRP.out]; have hB5 := hB4.trans (hb5.mono hB4.size); obtain ⟨a5, c5, rfl, _, _, _, hf5⟩ := str_of_row hr5; have HF5 := Lib.hid hf5; obtain ⟨_, z50, z51⟩ := HX.out _ hB5; clear hx hr5 hf5)
        | (go_at_call 14; (with_reducible refine (reflinked_any _ _ L A _ _ _ (by omega) (HI.out.grow hB5) (HP.out.grow hB5)).mono ?_); rintro e w6 ⟨rfl, hb6⟩; rw [HLK.out]; have hB6 := hB5.trans (hb6.mono hB5.size); obtain ⟨_, z60, z61⟩ := HX.out _ hB6))
      go_ret
      exact ⟨rfl, (HX.out _ hB6).1⟩
    · have HLK := Lib.hid hlk
      obtain ⟨R, hR⟩ : ∃ R, rootsTo L L.length = R := ⟨_, rfl⟩
      have HRT := Lib.hid hR
      have hrl : R.length ≤ 1000 := by rw [← hR]; have := rootsTo_len L L.length; omega
      have HRP : Hid (rootsP L A = (R, 0)) := Lib.hid (by unfold rootsP; rw [hlk, hR]; rfl)
      have hole := ord_le L
      have hKK := hang_ok L
      have hHL := hangs_len L
      by_cases ho : (ordP (hangs L)).length < L.length
      · have HOP : Hid (orderP L A = ([], 23)) := Lib.hid (by unfold orderP; rw [hlk, if_pos rfl, if_pos ho])
        have HRO : Hid (ordR L = ([], false)) := Lib.hid (by unfold ordR; rw [if_pos ho])
        have hne := loop_of_short hKK (by rw [hHL]; exact ho)
        obtain ⟨i, hi⟩ : ∃ i, loopI (hangs L) = some i := by
          cases h : loopI (hangs L) with
          | none => exact absurd h hne
          | some i => exact ⟨i, rfl⟩
        obtain ⟨T, hT⟩ : ∃ T, namesOf L (chainP (hangs L) (i : Int)).1 = T := ⟨_, rfl⟩
        have htl : T.length ≤ 1000 := by
          rw [← hT, namesOf_len]
          have := chain_len _ hKK (i : Int) (by omega) (by have := (loopI_of hi).1; omega)
          omega
        have HLP : Hid (loopP L A = (T, 0)) := Lib.hid (by unfold loopP; rw [hlk, hi, if_pos rfl]; exact congrArg (fun z => (z, (0 : Int))) hT)
        have HLR : Hid (loopR L = T) := Lib.hid (by unfold loopR; rw [hi]; exact hT)
        clear hlk hR hKK hHL hne hi hT ho hole
        go_enter Try.func9, Try.ntmps9
        go_wp2_with (first
          | (go_at_call 10; (with_reducible refine (awake_any _).mono ?_); rintro e w1 ⟨rfl, hb1⟩; obtain ⟨_, z10, z11⟩ := HX.out _ hb1)
          | (go_at_call 11; (with_reducible refine (large_any _ _ L A _ _ _ (HI.out.grow hb1) (HP.out.grow hb1)).mono ?_); rintro e w2 ⟨rfl, hb2⟩; rw [HLB.out]; have hB2 := hb1.trans (hb2.mono hb1.size); obtain ⟨_, z20, z21⟩ := HX.out _ hB2)
          | (go_at_call 36; (with_reducible refine (orderE_any _ _ L A _ _ _ (by omega) (HI.out.grow hB2) (HP.out.grow hB2)).mono ?_); rintro e w3 hx; obtain ⟨v3, rfl, hr3, hb3⟩ := hx.out; rw [HOP.out] at hr3; rw [HOP.out]; have hB3 := hB2.trans (hb3.mono hB2.size); obtain ⟨a3, c3, rfl, _, _, _, hf3⟩ := num_of_row hr3; have HF3 := Lib.hid hf3; obtain ⟨_, z30, z31⟩ := HX.out _ hB3; clear hx hr3 hf3)
          | (go_at_call 37; (with_reducible refine (loop_any _ _ L A _ _ _ (by omega) (HI.out.grow hB3) (HP.out.grow hB3)).mono ?_); rintro e w4 hx; obtain ⟨v4, rfl, hr4, hb4⟩ := hx.out; rw [HLP.out] at hr4; rw [HLP.out]; have hB4 := hB3.trans (hb4.mono hB3.size); obtain ⟨a4, c4, rfl, _, _, _, hf4⟩ := str_of_row hr4; have HF4 := Lib.hid hf4; obtain ⟨_, z40, z41⟩ := HX.out _ hB4; clear hx hr4 hf4)
          | (go_at_call 31; (with_reducible refine (roots_any _ _ L A _ _ _ (by omega) (HI.out.grow hB4) (HP.out.grow hB4)).mono ?_); rintro e w5 hx; obtain ⟨v5, rfl, hr5, hb5⟩ := hx.out; rw [HRP.out] at hr5; rw [HRP.out]; have hB5 := hB4.trans (hb5.mono hB4.size); obtain ⟨a5, c5, rfl, _, _, _, hf5⟩ := str_of_row hr5; have HF5 := Lib.hid hf5; obtain ⟨_, z50, z51⟩ := HX.out _ hB5; clear hx hr5 hf5)
          | (go_at_call 14; (with_reducible refine (reflinked_any _ _ L A _ _ _ (by omega) (HI.out.grow hB5) (HP.out.grow hB5)).mono ?_); rintro e w6 ⟨rfl, hb6⟩; rw [HLK.out]; have hB6 := hB5.trans (hb6.mono hB5.size); obtain ⟨_, z60, z61⟩ := HX.out _ hB6)
          | (go_at_call 40; (with_reducible refine (refroots_any _ _ L A _ _ _ (by omega) (HI.out.grow hB6)).mono ?_); rintro e w7 hx; obtain ⟨v7, rfl, hr7, hb7⟩ := hx.out; rw [HRT.out] at hr7; have hB7 := hB6.trans (hb7.mono hB6.size); obtain ⟨a7, c7, rfl, _, _, _, hf7⟩ := str_of_row hr7; have HF7 := Lib.hid hf7; have HF57 := Lib.hid ((HF5.out.grow hb6).grow hb7); obtain ⟨_, z70, z71⟩ := HX.out _ hB7; clear hx hr7 hf7)
          | (go_at_call 19; (with_reducible refine (str_equal_same _ _ T _ _ _ (by omega) HF4X.out HF10.out).mono ?_); rintro e w11 ⟨rfl, hb11⟩; have hB11 := hB10.trans (hb11.mono hB10.size))
          | (go_at_call 19; (with_reducible refine (str_equal_same _ _ R _ _ _ (by omega) HF57.out HF7.out).mono ?_); rintro e w8 ⟨rfl, hb8⟩; have hB8 := hB7.trans (hb8.mono hB7.size); obtain ⟨_, z80, z81⟩ := HX.out _ hB8)
          | (go_at_call 41; (with_reducible refine (reforder_any _ _ L A _ _ _ HLK.out (HI.out.grow hB8)).mono ?_); rintro e w9 hx; obtain ⟨v9, rfl, hr9, hb9⟩ := hx.out; rw [HRO.out] at hr9; rw [HRO.out]; have hB9 := hB8.trans (hb9.mono hB8.size); obtain ⟨a9, c9, rfl, _, _, _, hf9⟩ := num_of_row hr9; have HF9 := Lib.hid hf9; obtain ⟨_, z90, z91⟩ := HX.out _ hB9; clear hx hr9 hf9)
          | (go_at_call 42; (with_reducible refine (refloop_any _ _ L A _ _ _ HLK.out (HI.out.grow hB9)).mono ?_); rintro e w10 hx; obtain ⟨v10, rfl, hr10, hb10⟩ := hx.out; rw [HLR.out] at hr10; have hB10 := hB9.trans (hb10.mono hB9.size); obtain ⟨a10, c10, rfl, _, _, _, hf10⟩ := str_of_row hr10; have HF10 := Lib.hid hf10; have HF4X := Lib.hid ((((((HF4.out.grow hb5).grow hb6).grow hb7).grow hb8).grow hb9).grow hb10); clear hx hr10 hf10))
        go_ret
        exact ⟨rfl, (HX.out _ hB11).1⟩
      · obtain ⟨O, hO⟩ : ∃ O, ordP (hangs L) = O := ⟨_, rfl⟩
        have hol : O.length ≤ 1000 := by rw [← hO]; omega
        have HOP : Hid (orderP L A = (O, 0)) := Lib.hid (by unfold orderP; rw [hlk, if_pos rfl, if_neg ho, hO])
        have HRO : Hid (ordR L = (O, true)) := Lib.hid (by unfold ordR; rw [if_neg ho, hO])
        have hne := no_loop_of_full hKK (by rw [hHL]; exact ho)
        have HLP : Hid (loopP L A = ([], 12)) := Lib.hid (by unfold loopP; rw [hlk, hne]; rfl)
        clear hlk hR hKK hHL hne hO ho hole
        go_enter Try.func9, Try.ntmps9
        go_wp2_with (first
          | (go_at_call 10; (with_reducible refine (awake_any _).mono ?_); rintro e w1 ⟨rfl, hb1⟩; obtain ⟨_, z10, z11⟩ := HX.out _ hb1)
          | (go_at_call 11; (with_reducible refine (large_any _ _ L A _ _ _ (HI.out.grow hb1) (HP.out.grow hb1)).mono ?_); rintro e w2 ⟨rfl, hb2⟩; rw [HLB.out]; have hB2 := hb1.trans (hb2.mono hb1.size); obtain ⟨_, z20, z21⟩ := HX.out _ hB2)
          | (go_at_call 36; (with_reducible refine (orderE_any _ _ L A _ _ _ (by omega) (HI.out.grow hB2) (HP.out.grow hB2)).mono ?_); rintro e w3 hx; obtain ⟨v3, rfl, hr3, hb3⟩ := hx.out; rw [HOP.out] at hr3; rw [HOP.out]; have hB3 := hB2.trans (hb3.mono hB2.size); obtain ⟨a3, c3, rfl, _, _, _, hf3⟩ := num_of_row hr3; have HF3 := Lib.hid hf3; obtain ⟨_, z30, z31⟩ := HX.out _ hB3; clear hx hr3 hf3)
          | (go_at_call 37; (with_reducible refine (loop_any _ _ L A _ _ _ (by omega) (HI.out.grow hB3) (HP.out.grow hB3)).mono ?_); rintro e w4 hx; obtain ⟨v4, rfl, hr4, hb4⟩ := hx.out; rw [HLP.out] at hr4; rw [HLP.out]; have hB4 := hB3.trans (hb4.mono hB3.size); obtain ⟨a4, c4, rfl, _, _, _, hf4⟩ := str_of_row hr4; have HF4 := Lib.hid hf4; obtain ⟨_, z40, z41⟩ := HX.out _ hB4; clear hx hr4 hf4)
          | (go_at_call 31; (with_reducible refine (roots_any _ _ L A _ _ _ (by omega) (HI.out.grow hB4) (HP.out.grow hB4)).mono ?_); rintro e w5 hx; obtain ⟨v5, rfl, hr5, hb5⟩ := hx.out; rw [HRP.out] at hr5; rw [HRP.out]; have hB5 := hB4.trans (hb5.mono hB4.size); obtain ⟨a5, c5, rfl, _, _, _, hf5⟩ := str_of_row hr5; have HF5 := Lib.hid hf5; obtain ⟨_, z50, z51⟩ := HX.out _ hB5; clear hx hr5 hf5)
          | (go_at_call 14; (with_reducible refine (reflinked_any _ _ L A _ _ _ (by omega) (HI.out.grow hB5) (HP.out.grow hB5)).mono ?_); rintro e w6 ⟨rfl, hb6⟩; rw [HLK.out]; have hB6 := hB5.trans (hb6.mono hB5.size); obtain ⟨_, z60, z61⟩ := HX.out _ hB6)
          | (go_at_call 40; (with_reducible refine (refroots_any _ _ L A _ _ _ (by omega) (HI.out.grow hB6)).mono ?_); rintro e w7 hx; obtain ⟨v7, rfl, hr7, hb7⟩ := hx.out; rw [HRT.out] at hr7; have hB7 := hB6.trans (hb7.mono hB6.size); obtain ⟨a7, c7, rfl, _, _, _, hf7⟩ := str_of_row hr7; have HF7 := Lib.hid hf7; have HF57 := Lib.hid ((HF5.out.grow hb6).grow hb7); obtain ⟨_, z70, z71⟩ := HX.out _ hB7; clear hx hr7 hf7)
          | (go_at_call 19; (with_reducible refine (str_equal_same _ _ R _ _ _ (by omega) HF57.out HF7.out).mono ?_); rintro e w8 ⟨rfl, hb8⟩; have hB8 := hB7.trans (hb8.mono hB7.size); obtain ⟨_, z80, z81⟩ := HX.out _ hB8)
          | (go_at_call 41; (with_reducible refine (reforder_any _ _ L A _ _ _ HLK.out (HI.out.grow hB8)).mono ?_); rintro e w9 hx; obtain ⟨v9, rfl, hr9, hb9⟩ := hx.out; rw [HRO.out] at hr9; rw [HRO.out]; have hB9 := hB8.trans (hb9.mono hB8.size); obtain ⟨a9, c9, rfl, _, _, _, hf9⟩ := num_of_row hr9; have HF9 := Lib.hid hf9; obtain ⟨_, z90, z91⟩ := HX.out _ hB9; clear hx hr9 hf9)
          | (go_at_call 16; (with_reducible refine (num_equal_same _ _ O _ _ _ (by omega) ((((((HF3.out.grow hb4).grow hb5).grow hb6).grow hb7).grow hb8).grow hb9) HF9.out).mono ?_); rintro e w10 ⟨rfl, hb10⟩; have hB10 := hB9.trans (hb10.mono hB9.size)))
        go_ret
        exact ⟨rfl, (HX.out _ hB10).1⟩
  · have HLB := Lib.hid hlb
    clear hlb
    go_enter Try.func9, Try.ntmps9
    go_wp2_with (first
      | (go_at_call 10; (with_reducible refine (awake_any _).mono ?_); rintro e w1 ⟨rfl, hb1⟩; obtain ⟨_, z10, z11⟩ := HX.out _ hb1)
      | (go_at_call 11; (with_reducible refine (large_any _ _ L A _ _ _ (HI.out.grow hb1) (HP.out.grow hb1)).mono ?_); rintro e w2 ⟨rfl, hb2⟩; rw [HLB.out]; have hB2 := hb1.trans (hb2.mono hb1.size); obtain ⟨_, z20, z21⟩ := HX.out _ hB2))
    go_ret
    exact ⟨rfl, (HX.out _ hB2).1⟩
end Go.Proofs.Ytapjhjpibefooaa
