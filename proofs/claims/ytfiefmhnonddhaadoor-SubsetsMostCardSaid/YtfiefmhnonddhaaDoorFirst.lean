/-
  THE WALK of subsets.first.
-/
import Derived.Test.YtfiefmhnonddhaaDoorSums
namespace Go.Proofs.YtfiefmhnonddhaaDoor
open Go.RowKit Go.Shelf

theorem fst_step_no {L : List Int} {sum least : Int} {i : Nat} {st : Nat × Bool} (h : fstTo L sum least i = st) (hg : goodB L sum least i = false) : fstTo L sum least (i + 1) = st := by
  rw [fstTo, if_neg (by rw [hg]; simp), h]
theorem fst_step_bad {L : List Int} {sum least : Int} {i : Nat} {st : Nat × Bool} (h : fstTo L sum least i = st) (hg : betterB L.length st i = false) : fstTo L sum least (i + 1) = st := by
  rw [fstTo, if_neg (by rw [h, hg]; simp), h]
theorem fst_step_yes {L : List Int} {sum least : Int} {i : Nat} {st : Nat × Bool} (h : fstTo L sum least i = st) (h1 : goodB L sum least i = true) (hg : betterB L.length st i = true) : fstTo L sum least (i + 1) = (i, true) := by
  rw [fstTo, if_pos ⟨h1, by rw [h]; exact hg⟩]
theorem allS_ig (L : List Int) (i : Nat) (h : i < 2 ^ L.length) : ig (allS L) i = sumN L i := by unfold ig; rw [allS_at L i h]; rfl

set_option maxHeartbeats 4000000 in
theorem first_any (a : Option Addr) (L : List Int) (cap : Nat) (sum least : Int) (w : World) (hl : L.length ≤ 16) (hI : Nums w.heap.size w a (allS L)) :
    Calls Tryd.prog 48 #[.slice a (2 ^ L.length) cap, .int .i64 sum, .int .i64 least] w fun e w' => e = .returned (.tuple #[.int .u32 ((fstTo L sum least (2 ^ L.length)).1 : Nat), .bool (fstTo L sum least (2 ^ L.length)).2]) ∧ Below w.heap.size w w' := by
  have h16 : 2 ^ L.length ≤ 65536 := Nat.pow_le_pow_right (by decide) hl
  have HI := Lib.hid hI
  have HL : Hid (∀ i : Nat, i < 2 ^ L.length → ∀ w, Calls Tryd.prog 51 #[.int .u32 i] w fun e w' => e = .returned (.int .i64 (sizN L.length i : Nat)) ∧ Below w.heap.size w w') := Lib.hid fun i h w => size_any L.length i hl h w
  have HA : Hid (∀ i : Nat, i < 2 ^ L.length → ig (allS L) i = sumN L i) := Lib.hid fun i h => allS_ig L i h
  have hpos : 0 < 2 ^ L.length := Nat.two_pow_pos _
  clear hI
  have HAL : Hid ((allS L).length = 2 ^ L.length) := Lib.hid (allS_len L)
  have HF : Hid (∀ i b : Nat, i < 2 ^ L.length → b < 2 ^ L.length → ∀ w, Calls Tryd.prog 62 #[.int .u32 i, .int .u32 b] w fun e w' => e = .returned (.bool (befN L.length i b)) ∧ w = w') := Lib.hid fun i b h h2 w => before_any L.length i b hl h h2 w
  generalize 2 ^ L.length = N at *
  go_enter Tryd.func48, Tryd.ntmps48
  go_wp2
  go_loopw [8, 9, 15] (fun bv ov iv wr => ∃ (i b : Nat) (ok : Bool), bv = .int .u32 b ∧ ov = .bool ok ∧ iv = .int .i64 i ∧ i ≤ N ∧ Hid (fstTo L sum least i = (b, ok)) ∧ Below w.heap.size w wr) (fun _ _ iv _ => N - (intOf iv).toNat)
  case atStart => exact ⟨0, 0, false, rfl, rfl, rfl, by omega, Lib.hid rfl, Below.refl _ _⟩
  case round =>
    obtain ⟨i, b, ok, rfl, rfl, rfl, hiN, HS, hB⟩ := hrel
    by_cases hlt : i < N
    · obtain ⟨bk, off, rfl, hbl, hc⟩ := HI.out (by rw [HAL.out]; omega)
      have c0 := (hB.cell (p := ⟨bk, off + i, none⟩) hbl).trans (hc i (by rw [HAL.out]; omega))
      rw [HA.out i hlt] at c0
      clear hc
      obtain ⟨xi, hxi⟩ : ∃ x, sumN L i = x := ⟨_, rfl⟩
      rw [hxi] at c0
      obtain ⟨z, hz⟩ : ∃ z : Int, (sizN L.length i : Int) = z := ⟨_, rfl⟩
      have HC := Lib.hid (HL.out i hlt)
      rw [hz] at HC
      have HG : Hid (goodB L sum least i = (decide (xi = sum) && decide (least ≤ z))) := Lib.hid (by unfold goodB; rw [hxi, hz])
      have HZ := Lib.hid hz
      clear hxi hz
      by_cases hx : xi = sum
      · subst hx
        have g1 : (xi != xi) = false := bne_eq_false_iff_eq.2 rfl
        by_cases hzl : z < least
        · have g2 : decide (z < least) = true := decide_eq_true hzl
          have HN : Hid (fstTo L xi least (i + 1) = (b, ok)) := Lib.hid (fst_step_no HS.out (by rw [HG.out, decide_eq_false (show ¬ least ≤ z by omega), Bool.and_false]))
          clear hzl
          go_wp2_with (go_at_call 51; (with_reducible refine (HC.out _).mono ?_); rintro e w1 ⟨rfl, hb1⟩; replace hB := hB.trans (hb1.mono hB.size))
          go_roundw
          case rel => exact ⟨i + 1, b, ok, rfl, rfl, by go_num, by omega, HN, hB⟩
          case measure => simp [intOf]; omega
        · have g2 : decide (z < least) = false := decide_eq_false hzl
          have HGT : Hid (goodB L xi least i = true) := Lib.hid (by rw [HG.out, decide_eq_true rfl, decide_eq_true (show least ≤ z by omega)]; rfl)
          clear hzl
          cases ok
          · have HN : Hid (fstTo L xi least (i + 1) = (i, true)) := Lib.hid (fst_step_yes HS.out HGT.out (by unfold betterB; rfl))
            go_wp2_with (go_at_call 51; (with_reducible refine (HC.out _).mono ?_); rintro e w1 ⟨rfl, hb1⟩; replace hB := hB.trans (hb1.mono hB.size))
            go_roundw
            case rel => exact ⟨i + 1, i, true, rfl, rfl, by go_num, by omega, HN, hB⟩
            case measure => simp [intOf]; omega
          · have hbi : b < i := by have := fst_lt L xi least i; rw [HS.out] at this; exact (this rfl).1
            obtain ⟨zb, hzb⟩ : ∃ z : Int, (sizN L.length b : Int) = z := ⟨_, rfl⟩
            have HD := Lib.hid (HL.out b (by omega))
            rw [hzb] at HD
            obtain ⟨bf, hbf⟩ : ∃ bf, befN L.length i b = bf := ⟨_, rfl⟩
            have HE := Lib.hid (HF.out i b hlt (by omega))
            rw [hbf] at HE
            have HBB : Hid (betterB L.length (b, true) i = (decide (z < zb) || (decide (z = zb) && bf))) := Lib.hid (by
              unfold betterB
              rw [hbf, show decide (sizN L.length i < sizN L.length b) = decide (z < zb) from decide_eq_decide.2 (by rw [← hzb, ← HZ.out]; omega), show decide (sizN L.length i = sizN L.length b) = decide (z = zb) from decide_eq_decide.2 (by rw [← hzb, ← HZ.out]; omega)]
              rfl)
            clear hzb hbf
            by_cases h1 : z < zb
            · have g3 : decide (z < zb) = true := decide_eq_true h1
              have HN : Hid (fstTo L xi least (i + 1) = (i, true)) := Lib.hid (fst_step_yes HS.out HGT.out (by rw [HBB.out, g3]; rfl))
              clear h1
              go_wp2_with (go_at_call 51; (with_reducible first | refine (HC.out _).mono ?_ | refine (HD.out _).mono ?_); rintro e w1 ⟨rfl, hb1⟩; replace hB := hB.trans (hb1.mono hB.size))
              go_roundw
              case rel => exact ⟨i + 1, i, true, rfl, rfl, by go_num, by omega, HN, hB⟩
              case measure => simp [intOf]; omega
            · have g3 : decide (z < zb) = false := decide_eq_false h1
              clear h1
              by_cases h2 : z = zb
              · have g4 : (z == zb) = true := beq_iff_eq.2 h2
                have g5 : decide (z = zb) = true := decide_eq_true h2
                have HB2 : Hid (betterB L.length (b, true) i = bf) := Lib.hid (by rw [HBB.out, g3, g5]; cases bf <;> rfl)
                clear h2 g5
                cases bf
                · have HN : Hid (fstTo L xi least (i + 1) = (b, true)) := Lib.hid (fst_step_bad HS.out HB2.out)
                  go_wp2_with (first
                    | (go_at_call 51; (with_reducible first | refine (HC.out _).mono ?_ | refine (HD.out _).mono ?_); rintro e w1 ⟨rfl, hb1⟩; replace hB := hB.trans (hb1.mono hB.size))
                    | (go_at_call 62; (with_reducible refine (HE.out _).mono ?_); rintro e w1 ⟨rfl, rfl⟩))
                  go_roundw
                  case rel => exact ⟨i + 1, b, true, rfl, rfl, by go_num, by omega, HN, hB⟩
                  case measure => simp [intOf]; omega
                · have HN : Hid (fstTo L xi least (i + 1) = (i, true)) := Lib.hid (fst_step_yes HS.out HGT.out HB2.out)
                  go_wp2_with (first
                    | (go_at_call 51; (with_reducible first | refine (HC.out _).mono ?_ | refine (HD.out _).mono ?_); rintro e w1 ⟨rfl, hb1⟩; replace hB := hB.trans (hb1.mono hB.size))
                    | (go_at_call 62; (with_reducible refine (HE.out _).mono ?_); rintro e w1 ⟨rfl, rfl⟩))
                  go_roundw
                  case rel => exact ⟨i + 1, i, true, rfl, rfl, by go_num, by omega, HN, hB⟩
                  case measure => simp [intOf]; omega
              · have g4 : (z == zb) = false := beq_eq_false_iff_ne.2 h2
                have HN : Hid (fstTo L xi least (i + 1) = (b, true)) := Lib.hid (fst_step_bad HS.out (by rw [HBB.out, g3, decide_eq_false h2]; rfl))
                clear h2
                go_wp2_with (go_at_call 51; (with_reducible first | refine (HC.out _).mono ?_ | refine (HD.out _).mono ?_); rintro e w1 ⟨rfl, hb1⟩; replace hB := hB.trans (hb1.mono hB.size))
                go_roundw
                case rel => exact ⟨i + 1, b, true, rfl, rfl, by go_num, by omega, HN, hB⟩
                case measure => simp [intOf]; omega
      · have g1 : (xi != sum) = true := bne_iff_ne.2 hx
        have HN : Hid (fstTo L sum least (i + 1) = (b, ok)) := Lib.hid (fst_step_no HS.out (by rw [HG.out, decide_eq_false hx, Bool.false_and]))
        clear hx
        go_wp2_with fail
        go_roundw
        case rel => exact ⟨i + 1, b, ok, rfl, rfl, by go_num, by omega, HN, hB⟩
        case measure => simp [intOf]; omega
    · obtain rfl : i = N := by omega
      go_wp2_with (fail)
      go_ret2
      rw [HS.out]
      exact ⟨rfl, hB⟩
end Go.Proofs.YtfiefmhnonddhaaDoor
