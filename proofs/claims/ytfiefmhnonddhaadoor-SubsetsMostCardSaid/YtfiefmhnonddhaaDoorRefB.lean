/-
  THE WALKS of the reference's First and Same.
-/
import Derived.Test.YtfiefmhnonddhaaDoorRefA
namespace Go.Proofs.YtfiefmhnonddhaaDoor
open Go.RowKit Go.Shelf

theorem rfst_ge (L : List Int) (sum least : Int) (i : Nat) : rfstTo L sum least i = -1 ∨ ∃ b : Nat, rfstTo L sum least i = b ∧ b < i := by
  rw [rfst_eq]
  by_cases h : (fstTo L sum least i).2 = true
  · rw [if_pos h]
    exact .inr ⟨_, rfl, (fst_lt L sum least i h).1⟩
  · rw [if_neg h]; exact .inl rfl
theorem rfst_skip {L : List Int} {sum least r : Int} {i : Nat} (h : rfstTo L sum least i = r) (h2 : (sizN L.length i : Int) < least ∨ sumN L i ≠ sum) : rfstTo L sum least (i + 1) = r := by rw [rfstTo, if_pos h2, h]
theorem rfst_take {L : List Int} {sum least r : Int} {i : Nat} (h : rfstTo L sum least i = r) (h2 : ¬ ((sizN L.length i : Int) < least ∨ sumN L i ≠ sum)) (h3 : r < 0 ∨ sizN L.length i < sizN L.length r.toNat ∨ (sizN L.length i = sizN L.length r.toNat ∧ earlB (idxN L.length 0 i) (idxN L.length 0 r.toNat) = true)) : rfstTo L sum least (i + 1) = i := by rw [rfstTo, if_neg h2, h, if_pos h3]
theorem rfst_keep {L : List Int} {sum least r : Int} {i : Nat} (h : rfstTo L sum least i = r) (h2 : ¬ ((sizN L.length i : Int) < least ∨ sumN L i ≠ sum)) (h3 : ¬ (r < 0 ∨ sizN L.length i < sizN L.length r.toNat ∨ (sizN L.length i = sizN L.length r.toNat ∧ earlB (idxN L.length 0 i) (idxN L.length 0 r.toNat) = true))) : rfstTo L sum least (i + 1) = r := by rw [rfstTo, if_neg h2, h, if_neg h3]
theorem wrap64_two {n N : Nat} (hN : 2 ^ n = N) (h : N ≤ 65536) : wrap64 (2 ^ n) = (N : Int) := by
  have e : ((2 : Int) ^ n) = ((2 ^ n : Nat) : Int) := by simp
  rw [e, hN]
  unfold wrap64
  omega

set_option maxHeartbeats 8000000 in
theorem reffirst_any (a : Option Addr) (L : List Int) (cap : Nat) (sum least : Int) (w : World) (hG : givenE L = 0) (hI : Nums w.heap.size w a L) :
    Calls Tryd.prog 17 #[.slice a L.length cap, .int .i64 sum, .int .i64 least] w fun e w' => e = .returned (.int .i64 (rfstTo L sum least (2 ^ L.length))) ∧ Below w.heap.size w w' := by
  have hl := (given_small hG).1
  have h16 : 2 ^ L.length ≤ 65536 := Nat.pow_le_pow_right (by decide) hl
  have HI := Lib.hid hI
  have HG := Lib.hid hG
  clear hI hG
  have HSL : Hid (∀ s, (idxN L.length 0 s).length = sizN L.length s ∧ sizN L.length s ≤ 16) := Lib.hid fun s => ⟨idx_len _ _ _, by have := siz_le L.length s; omega⟩
  have hN : ∃ N : Nat, 2 ^ L.length = N := ⟨_, rfl⟩
  obtain ⟨N, hN⟩ := hN
  have hsh := wrap64_two hN (by omega)
  have HN := Lib.hid hN
  rw [hN] at h16 ⊢
  clear hN
  have HSH := Lib.hid hsh
  clear hsh
  go_enter Tryd.func17, Tryd.ntmps17
  go_wp2
  go_loopw [7, 8] (fun bv sv wr => ∃ (i : Nat) (r : Int), bv = .int .i64 r ∧ sv = .int .i64 i ∧ i ≤ N ∧ Hid (rfstTo L sum least i = r) ∧ Below w.heap.size w wr) (fun _ sv _ => N - (intOf sv).toNat)
  case atStart => exact ⟨0, -1, rfl, rfl, by omega, Lib.hid rfl, Below.refl _ _⟩
  case round =>
    obtain ⟨i, r, rfl, rfl, hiN, HS, hB⟩ := hrel
    by_cases hlt : i < N
    · have g0 : decide ((i : Int) < wrap64 (2 ^ L.length)) = true := by rw [HSH.out]; exact decide_eq_true (by omega)
      have hi16 : i < 65536 := by omega
      obtain ⟨X, hX⟩ : ∃ X, idxN L.length 0 i = X := ⟨_, rfl⟩
      have hxl : X.length = sizN L.length i ∧ X.length ≤ 16 := by rw [← hX, (HSL.out i).1]; exact ⟨rfl, (HSL.out i).2⟩
      have HC := Lib.hid (indices_any a L cap i wr hl hi16)
      rw [hX] at HC
      have HX := Lib.hid hX
      have HSK : Hid ((X.length : Int) < least ∨ sumN L i ≠ sum → rfstTo L sum least (i + 1) = r) := Lib.hid fun h => rfst_skip HS.out (by rw [← hxl.1]; exact h)
      have HTK : Hid (¬ ((X.length : Int) < least ∨ sumN L i ≠ sum) → (r < 0 ∨ X.length < sizN L.length r.toNat ∨ (X.length = sizN L.length r.toNat ∧ earlB X (idxN L.length 0 r.toNat) = true)) → rfstTo L sum least (i + 1) = i) := Lib.hid fun h h3 => rfst_take HS.out (by rw [← hxl.1]; exact h) (by rw [← hxl.1, hX]; exact h3)
      have HKP : Hid (¬ ((X.length : Int) < least ∨ sumN L i ≠ sum) → ¬ (r < 0 ∨ X.length < sizN L.length r.toNat ∨ (X.length = sizN L.length r.toNat ∧ earlB X (idxN L.length 0 r.toNat) = true)) → rfstTo L sum least (i + 1) = r) := Lib.hid fun h h3 => rfst_keep HS.out (by rw [← hxl.1]; exact h) (by rw [← hxl.1, hX]; exact h3)
      obtain ⟨y, hy⟩ : ∃ y, sumN L i = y := ⟨_, rfl⟩
      rw [hy] at HSK HTK HKP
      have HY := Lib.hid hy
      obtain ⟨hxl1, hxl2⟩ := hxl
      clear hX hy hxl1
      by_cases q1 : (X.length : Int) < least
      · have g1 : decide ((X.length : Int) < least) = true := decide_eq_true q1
        have HR := Lib.hid (HSK.out (.inl q1))
        clear q1
        go_wp2_with (go_at_call 16; (with_reducible refine HC.out.mono ?_); rintro e w1 ⟨hx, hb1⟩; obtain ⟨v, rfl, hr1⟩ := hx.out; obtain ⟨a1, c1, rfl, _, _, _, hn1⟩ := num_of_row hr1; replace hB := hB.trans (hb1.mono hB.size))
        go_roundw
        case rel => exact ⟨i + 1, r, rfl, by go_num, by omega, HR, hB⟩
        case measure => simp [intOf]; omega
      · have g1 : decide ((X.length : Int) < least) = false := decide_eq_false q1
        by_cases q2 : y = sum
        · have g2 : (y != sum) = false := bne_eq_false_iff_eq.2 q2
          have HT := Lib.hid (HTK.out (by rintro (h | h) <;> contradiction))
          have HK := Lib.hid (HKP.out (by rintro (h | h) <;> contradiction))
          clear q1 q2 HSK HTK HKP
          by_cases q3 : r < 0
          · have g3 : decide (r < 0) = true := decide_eq_true q3
            have HR := Lib.hid (HT.out (.inl q3))
            clear q3
            go_wp2_with (first
              | (go_at_call 16; (with_reducible refine HC.out.mono ?_); rintro e w1 ⟨hx, hb1⟩; obtain ⟨v, rfl, hr1⟩ := hx.out; obtain ⟨a1, c1, rfl, _, _, _, hn1⟩ := num_of_row hr1; replace hB := hB.trans (hb1.mono hB.size))
              | (go_at_call 40; (with_reducible refine (refsum_any _ L _ i w.heap.size _ HG.out hi16 (HI.out.below hB)).mono ?_); rintro e w2 ⟨rfl, rfl⟩; rw [HY.out]))
            go_roundw
            case rel => exact ⟨i + 1, i, rfl, by go_num, by omega, HR, hB⟩
            case measure => simp [intOf]; omega
          · have g3 : decide (r < 0) = false := decide_eq_false q3
            obtain ⟨b, rfl⟩ : ∃ b : Nat, r = b := ⟨r.toNat, by omega⟩
            rw [Int.toNat_natCast] at HT HK
            have hbi : b < i := by
              rcases rfst_ge L sum least i with h | ⟨c, h, hc⟩
              · rw [HS.out] at h; omega
              · rw [HS.out] at h; omega
            obtain ⟨Y, hYe⟩ : ∃ Y, idxN L.length 0 b = Y := ⟨_, rfl⟩
            have hyl : Y.length = sizN L.length b ∧ Y.length ≤ 16 := by rw [← hYe, (HSL.out b).1]; exact ⟨rfl, (HSL.out b).2⟩
            rw [hYe, ← hyl.1] at HT HK
            have HD : Hid (∀ w, Calls Tryd.prog 16 #[.slice a L.length cap, .int .i64 b] w fun e w' => Hid (∃ v, e = .returned v ∧ w'.ownsRow w.heap.size 3 1 v Y.length (nflat Y)) ∧ Below w.heap.size w w') := Lib.hid fun w => by
              have := indices_any a L cap b w hl (by omega)
              rw [hYe] at this
              exact this
            obtain ⟨hyl1, hyl2⟩ := hyl
            clear q3 hYe hyl1
            by_cases q4 : X.length < Y.length
            · have g4 : decide (X.length < Y.length) = true := decide_eq_true q4
              have g5 : decide ((X.length : Int) < Y.length) = true := decide_eq_true (by omega)
              have HR := Lib.hid (HT.out (.inr (.inl q4)))
              clear q4
              go_wp2_with (first
                | (go_at_call 16; (with_reducible first | refine HC.out.mono ?_ | refine (HD.out _).mono ?_); rintro e w1 ⟨hx, hb1⟩; obtain ⟨v, rfl, hr1⟩ := hx.out; obtain ⟨a1, c1, rfl, _, _, _, hn1⟩ := num_of_row hr1; replace hB := hB.trans (hb1.mono hB.size))
                | (go_at_call 40; (with_reducible refine (refsum_any _ L _ i w.heap.size _ HG.out hi16 (HI.out.below hB)).mono ?_); rintro e w2 ⟨rfl, rfl⟩; rw [HY.out]))
              go_roundw
              case rel => exact ⟨i + 1, i, rfl, by go_num, by omega, HR, hB⟩
              case measure => simp [intOf]; omega
            · have g4 : decide (X.length < Y.length) = false := decide_eq_false q4
              have g5 : decide ((X.length : Int) < Y.length) = false := decide_eq_false (by omega)
              by_cases q5 : X.length = Y.length
              · have g6 : ((X.length : Int) == Y.length) = true := beq_iff_eq.2 (by omega)
                have g7 : (X.length == Y.length) = true := beq_iff_eq.2 q5
                cases heb : earlB X Y
                · have HR := Lib.hid (HK.out (by rintro (h | h | h) <;> first | omega | exact absurd h.2 (by rw [heb]; decide)))
                  have HEB := Lib.hid heb
                  clear q4 q5 heb
                  go_upto_region 6 with (go_at_call 16; (with_reducible refine HC.out.mono ?_); rintro e w1 ⟨hx, hb1⟩; obtain ⟨v, rfl, hr1⟩ := hx.out; obtain ⟨a1, c1, rfl, _, _, _, hn1⟩ := num_of_row hr1; have HX1 := Lib.hid hn1; replace hB := hB.trans (hb1.mono hB.size))
                  go_wp2_with (first
                    | (go_at_call 16; (with_reducible refine (HD.out _).mono ?_); rintro e w1 ⟨hx, hb1⟩; obtain ⟨v, rfl, hr1⟩ := hx.out; obtain ⟨a2, c2, rfl, _, _, _, hn2⟩ := num_of_row hr1; replace HX1 := Lib.hid (HX1.out.grow hb1); have HY1 := Lib.hid hn2; replace hB := hB.trans (hb1.mono hB.size); clear hx hr1 hn2 hb1)
                    | (go_at_call 40; (with_reducible refine (refsum_any _ L _ i w.heap.size _ HG.out hi16 (HI.out.below hB)).mono ?_); rintro e w2 ⟨rfl, rfl⟩; rw [HY.out])
                    | (go_at_call 41; (with_reducible refine (earlier_any _ _ X Y _ _ _ _ (Nat.le_refl _) HX1.out HY1.out (by omega) (by omega)).mono ?_); rintro e w3 ⟨rfl, hb3⟩; rw [HEB.out]; replace hB := hB.trans (hb3.mono hB.size)))
                  go_roundw
                  case rel => exact ⟨i + 1, b, rfl, by go_num, by omega, HR, hB⟩
                  case measure => simp [intOf]; omega
                · have HR := Lib.hid (HT.out (.inr (.inr ⟨q5, heb⟩)))
                  have HEB := Lib.hid heb
                  clear q4 q5 heb
                  go_upto_region 6 with (go_at_call 16; (with_reducible refine HC.out.mono ?_); rintro e w1 ⟨hx, hb1⟩; obtain ⟨v, rfl, hr1⟩ := hx.out; obtain ⟨a1, c1, rfl, _, _, _, hn1⟩ := num_of_row hr1; have HX1 := Lib.hid hn1; replace hB := hB.trans (hb1.mono hB.size))
                  go_wp2_with (first
                    | (go_at_call 16; (with_reducible refine (HD.out _).mono ?_); rintro e w1 ⟨hx, hb1⟩; obtain ⟨v, rfl, hr1⟩ := hx.out; obtain ⟨a2, c2, rfl, _, _, _, hn2⟩ := num_of_row hr1; replace HX1 := Lib.hid (HX1.out.grow hb1); have HY1 := Lib.hid hn2; replace hB := hB.trans (hb1.mono hB.size); clear hx hr1 hn2 hb1)
                    | (go_at_call 40; (with_reducible refine (refsum_any _ L _ i w.heap.size _ HG.out hi16 (HI.out.below hB)).mono ?_); rintro e w2 ⟨rfl, rfl⟩; rw [HY.out])
                    | (go_at_call 41; (with_reducible refine (earlier_any _ _ X Y _ _ _ _ (Nat.le_refl _) HX1.out HY1.out (by omega) (by omega)).mono ?_); rintro e w3 ⟨rfl, hb3⟩; rw [HEB.out]; replace hB := hB.trans (hb3.mono hB.size)))
                  go_roundw
                  case rel => exact ⟨i + 1, i, rfl, by go_num, by omega, HR, hB⟩
                  case measure => simp [intOf]; omega
              · have g6 : ((X.length : Int) == Y.length) = false := beq_eq_false_iff_ne.2 (by omega)
                have g7 : (X.length == Y.length) = false := beq_eq_false_iff_ne.2 q5
                have HR := Lib.hid (HK.out (by rintro (h | h | h) <;> omega))
                clear q4 q5
                go_wp2_with (first
                  | (go_at_call 16; (with_reducible first | refine HC.out.mono ?_ | refine (HD.out _).mono ?_); rintro e w1 ⟨hx, hb1⟩; obtain ⟨v, rfl, hr1⟩ := hx.out; obtain ⟨a1, c1, rfl, _, _, _, hn1⟩ := num_of_row hr1; replace hB := hB.trans (hb1.mono hB.size))
                  | (go_at_call 40; (with_reducible refine (refsum_any _ L _ i w.heap.size _ HG.out hi16 (HI.out.below hB)).mono ?_); rintro e w2 ⟨rfl, rfl⟩; rw [HY.out]))
                go_roundw
                case rel => exact ⟨i + 1, b, rfl, by go_num, by omega, HR, hB⟩
                case measure => simp [intOf]; omega
        · have g2 : (y != sum) = true := bne_iff_ne.2 q2
          have HR := Lib.hid (HSK.out (.inr q2))
          clear q1 q2
          go_wp2_with (first
            | (go_at_call 16; (with_reducible refine HC.out.mono ?_); rintro e w1 ⟨hx, hb1⟩; obtain ⟨v, rfl, hr1⟩ := hx.out; obtain ⟨a1, c1, rfl, _, _, _, hn1⟩ := num_of_row hr1; replace hB := hB.trans (hb1.mono hB.size))
            | (go_at_call 40; (with_reducible refine (refsum_any _ L _ i w.heap.size _ HG.out hi16 (HI.out.below hB)).mono ?_); rintro e w2 ⟨rfl, rfl⟩; rw [HY.out]))
          go_roundw
          case rel => exact ⟨i + 1, r, rfl, by go_num, by omega, HR, hB⟩
          case measure => simp [intOf]; omega
    · have g0 : decide ((i : Int) < wrap64 (2 ^ L.length)) = false := by rw [HSH.out]; exact decide_eq_false (by omega)
      obtain rfl : i = N := by omega
      go_wp2_with (fail)
      go_ret
      exact ⟨ret_int HS.out.symm, hB⟩
end Go.Proofs.YtfiefmhnonddhaaDoor
