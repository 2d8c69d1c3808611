/-
  THE WALK of the reference's Counts.
-/
import Derived.Test.YtfiefmhnonddhaaDoorCntP
import Derived.Test.YtfiefmhnonddhaaDoorRefC
namespace Go.Proofs.YtfiefmhnonddhaaDoor
open Go.RowKit Go.Shelf

theorem own_nums' {w : World} {base n₀ n cap : Nat} {a : Option Addr} {L : List Int} (h : w.ownsRow base 3 1 (.slice a n cap) L.length (nflat L)) (_ : n = L.length) (hb : ∀ g, (Value.slice a n cap).ownBlock = some g → g < n₀) : Nums n₀ w a L := fun hl => by
  obtain ⟨g, ⟨c, e⟩, _, _⟩ := row_addr' h hl
  simp only [Value.slice.injEq] at e
  obtain ⟨rfl, rfl, rfl⟩ := e
  refine ⟨g, 0, rfl, hb g rfl, fun i hi => ?_⟩
  rw [Nat.zero_add, h.cellAt i (by omega), nflat_at L i hi]
set_option maxRecDepth 100000 in
set_option maxHeartbeats 8000000 in
theorem refcounts_any (a : Option Addr) (L : List Int) (cap : Nat) (w : World) (hG : givenE L = 0) (hI : Nums w.heap.size w a L) :
    Calls Tryd.prog 52 #[.slice a L.length cap] w fun e w' => Hid (∃ v c, e = .returned (.slice v (2 ^ L.length) c) ∧ Nums w'.heap.size w' v (cntTo L (2 ^ L.length - 1))) ∧ Below w.heap.size w w' := by
  have hl := (given_small hG).1
  have h16 : 2 ^ L.length ≤ 65536 := Nat.pow_le_pow_right (by decide) hl
  have hpos := Nat.two_pow_pos L.length
  have HI := Lib.hid hI
  have HG := Lib.hid hG
  clear hI hG
  obtain ⟨N, hN⟩ : ∃ N : Nat, 2 ^ L.length = N := ⟨_, rfl⟩
  have hsh := wrap64_two hN (by omega)
  rw [hN] at h16 hpos ⊢
  clear hN
  have HSH := Lib.hid hsh
  clear hsh
  have hr0 := World.ownsRow_lit (base := w.heap.size) (size := 1) (e := 3) w #[.int .i64 0] 1 (Nat.le_refl _) (by unfold maxLen; omega) rfl
  have HR0 : Hid ((w.alloc (.cells #[.int .i64 0] 3)).ownsRow w.heap.size 3 1 (.slice (some ⟨w.heap.size, 0, none⟩) 1 1) (cntTo L 0).length (nflat (cntTo L 0))) := Lib.hid hr0
  clear hr0
  go_enter Tryd.func52, Tryd.ntmps52
  go_wp2
  go_loopw [3, 4] (fun ov sv wr => ∃ i : Nat, sv = .int .i64 ((i : Int) + 1) ∧ i < N ∧ Hid (∃ g c, ov = .slice (some ⟨g, 0, none⟩) (i + 1) c) ∧ Hid (wr.ownsRow w.heap.size 3 1 ov (cntTo L i).length (nflat (cntTo L i))) ∧ Below w.heap.size w wr) (fun _ sv _ => N - (intOf sv).toNat)
  case atStart => exact ⟨0, rfl, hpos, Lib.hid ⟨_, _, rfl⟩, HR0, below_new w _⟩
  case round =>
    clear HR0
    obtain ⟨i, rfl, hiN, HV, HR, hB⟩ := hrel
    obtain ⟨g, c, rfl⟩ := HV.out
    have HTL : Hid ((cntTo L i).length = i + 1) := Lib.hid (cntTo_len L i)
    by_cases hlt : i + 1 < N
    · have g0 : decide ((i : Int) + 1 < wrap64 (2 ^ L.length)) = true := by rw [HSH.out]; exact decide_eq_true (by omega)
      have hi16 : i + 1 < 65536 := by omega
      have f1 := i64_low (i + 1) (by omega) hi16
      rw [show ((i + 1 : Nat) : Int) = (i : Int) + 1 by omega] at f1
      obtain ⟨b, hb⟩ : ∃ b, bitLow (i + 1) = b := ⟨_, rfl⟩
      have hb16 : b < 16 := by rw [← hb]; exact (low_two (i + 1) (by omega) hi16).2
      have hp2 : 2 ^ b < 65536 := Nat.lt_of_lt_of_le (Nat.pow_lt_pow_right (by decide) hb16) (by decide)
      rw [hb] at f1
      obtain ⟨lw, hlw⟩ : ∃ lw : Int, ((2 ^ b : Nat) : Int) = lw := ⟨_, rfl⟩
      rw [hlw] at f1
      have f1b : bits .and .i64 ((i : Int) + 1) (-1 + -(i : Int)) = lw := by rw [show (-1 : Int) + -(i : Int) = -((i : Int) + 1) by omega]; exact f1
      have HLW : Hid (∀ s : Nat, s < 65536 → (bits .and .i64 (s : Int) lw != 0) = s.testBit b) := Lib.hid fun s hs => by
        rw [← hlw, i64_and s _ (by omega) (by omega)]
        cases h : s.testBit b
        · exact bne_eq_false_iff_eq.2 ((and_two s b).2 h)
        · refine bne_iff_ne.2 fun e => ?_
          rw [(and_two s b).1 e] at h
          cases h
      have hrb := fun j hj => cntTo_bound L i j hj
      have HCB : Hid (∀ j, j ≤ i → -1 ≤ ig (cntTo L i) j ∧ ig (cntTo L i) j ≤ j) := Lib.hid hrb
      have HCE : Hid (cntTo L (i + 1) = cntTo L i ++ [(subsD (i + 1) (i + 1) (i + 1)).foldl (cntStep (zeroB L) (ig (cntTo L i)) (i + 1) b) (-1)]) := Lib.hid (by rw [cntTo, hb]; rfl)
      have HRC : Hid (∀ j, j ≤ i → wr.cell? ⟨g, j, none⟩ = some (.int .i64 (ig (cntTo L i) j))) := Lib.hid fun j hj => by
        have h := HR.out
        rw [HTL.out] at h
        rw [h.cellAt j (by omega), nflat_at _ _ (by rw [HTL.out]; omega)]
      have HSC : Hid (∀ s : Nat, s < 65536 → Calls Tryd.prog 40 #[.slice a L.length cap, .int .i64 s] wr fun e w' => e = .returned (.int .i64 (sumN L s)) ∧ wr = w') := Lib.hid fun s hs => refsum_any a L cap s w.heap.size wr HG.out hs (HI.out.below hB)
      clear hrb hb hlw
      obtain ⟨C, hC⟩ : ∃ C, ig (cntTo L i) = C := ⟨_, rfl⟩
      rw [hC] at HCB HRC HCE
      clear hC
      go_upto_region 8 with (fail)
      go_loop [5, 7] (fun bv pv => ∃ (p f : Nat) (x : Int), bv = .int .i64 x ∧ pv = .int .i64 p ∧ p ≤ f ∧ p ≤ i + 1 ∧ Hid (Sub p (i + 1)) ∧ Hid ((subsD (i + 1) (i + 1) (i + 1)).foldl (cntStep (zeroB L) C (i + 1) b) (-1) = (subsD (i + 1) f p).foldl (cntStep (zeroB L) C (i + 1) b) x) ∧ -1 ≤ x ∧ x ≤ 65536) (fun _ pv => (intOf pv).toNat)
      case atStart => exact ⟨i + 1, i + 1, -1, rfl, by first | rfl | (congr 1; omega), Nat.le_refl _, Nat.le_refl _, Lib.hid (fun _ h => h), Lib.hid rfl, by omega, by omega⟩
      case round =>
        obtain ⟨p, f, x, rfl, rfl, hpf, hpi, HSB, HF, hx1, hx2⟩ := hrel
        by_cases hp0 : p = 0
        · have HFE : Hid (cntTo L (i + 1) = cntTo L i ++ [x]) := Lib.hid (by rw [HCE.out, HF.out, hp0, subsD_zero]; rfl)
          have g1 : decide (0 < (p : Int)) = false := decide_eq_false (by omega)
          have g2 : decide (0 < p) = false := decide_eq_false (by omega)
          subst hp0
          have hwr := hB.size
          have HRX : Hid (wr.ownsRow w.heap.size 3 1 (.slice (some ⟨g, 0, none⟩) (i + 1) c) (cntTo L i).length (nflat (cntTo L i))) := HR
          clear HCE HF
          go_wp2_with (at_builtin; refine num_append rfl _ _ rfl w.heap.size _ (cntTo L i) rfl (HRX.out.alloc _) _ x rfl (by exact cell_of_row _ _ 0 #[_] _ (0, 0) (heap_alloc_new _ _)) (by rw [HTL.out]; omega) (by first | omega | (simp; omega)) ?_; intro v3 w3 hown3 hg3; rw [← HFE.out] at hown3; have HO3 := Lib.hid hown3; have HG3 := Lib.hid hg3; clear hown3 hg3)
          go_roundw
          case rel =>
            refine ⟨i + 1, by go_num, by omega, Lib.hid ?_, HO3, grown_own (HRX.out.alloc _) HG3.out (hB.alloc hwr _) (by simp; omega) (Nat.le_refl _)⟩
            obtain ⟨g3, ⟨c3, e3⟩, _, _⟩ := row_addr' HO3.out (by rw [cntTo_len]; omega)
            rw [cntTo_len] at e3
            exact ⟨g3, c3, e3⟩
          case measure => simp [intOf]; omega
        · have g1 : decide (0 < (p : Int)) = true := decide_eq_true (by omega)
          have g2 : 0 < p := by omega
          obtain ⟨f', hf', hfn⟩ := cfold_next (Z := zeroB L) (C := C) (i := i + 1) (b := b) (left := i + 1) (best := x) hp0 hpf
          have hn1 := next_lt (left := i + 1) hp0
          have HS2 : Hid (Sub ((p - 1) &&& (i + 1)) (i + 1)) := Lib.hid (next_sub p (i + 1))
          have f3 : bits .and .i64 ((p : Int) - 1) ((i : Int) + 1) = (((p - 1) &&& (i + 1) : Nat) : Int) := by
            rw [show (p : Int) - 1 = ((p - 1 : Nat) : Int) by omega, show (i : Int) + 1 = ((i + 1 : Nat) : Int) by omega]
            exact i64_and (p - 1) (i + 1) (by omega) (by omega)
          have HFN : Hid ((subsD (i + 1) (i + 1) (i + 1)).foldl (cntStep (zeroB L) C (i + 1) b) (-1) = (subsD (i + 1) f' ((p - 1) &&& (i + 1))).foldl (cntStep (zeroB L) C (i + 1) b) (cntStep (zeroB L) C (i + 1) b x p)) := Lib.hid (by rw [HF.out, hfn])
          obtain ⟨q, hq⟩ : ∃ q, (p - 1) &&& (i + 1) = q := ⟨_, rfl⟩
          rw [hq] at hf' hn1 HS2 f3 HFN
          have f4 := HLW.out p (by omega)
          have c1 := HRC.out (i + 1 - p) (by omega)
          have hcb := HCB.out (i + 1 - p) (by omega)
          obtain ⟨y, hy⟩ : ∃ y, C (i + 1 - p) = y := ⟨_, rfl⟩
          rw [hy] at c1 hcb
          have HC := Lib.hid (HSC.out p (by omega))
          obtain ⟨z, hz⟩ : ∃ z, sumN L p = z := ⟨_, rfl⟩
          rw [hz] at HC
          have HST : Hid (cntStep (zeroB L) C (i + 1) b x p = if p.testBit b = true ∧ z = 0 ∧ 0 ≤ y ∧ x < y + 1 then y + 1 else x) := Lib.hid (by
            unfold cntStep zeroB
            rw [hy, hz]
            simp only [decide_eq_true_eq])
          obtain ⟨tb, htb⟩ : ∃ tb, p.testBit b = tb := ⟨_, rfl⟩
          rw [htb] at f4 HST
          have f6 : ((i : Int) + 1 - p).toNat = i + 1 - p := by omega
          have f7 : (0 : Int) ≤ (i : Int) + 1 - p := by omega
          have f8 : wrap64 ((i : Int) + 1 - p) = (i : Int) + 1 - p := by unfold wrap64; omega
          have hyb : -1 ≤ y ∧ y ≤ 65535 := by omega
          clear hp0 hfn hq hy hz htb HF HCE hcb
          cases tb
          · have HFQ : Hid ((subsD (i + 1) (i + 1) (i + 1)).foldl (cntStep (zeroB L) C (i + 1) b) (-1) = (subsD (i + 1) f' q).foldl (cntStep (zeroB L) C (i + 1) b) x) := Lib.hid (by rw [HFN.out, HST.out, if_neg (by simp)])
            go_wp2_with fail
            go_round
            case rel => exact ⟨q, f', x, rfl, rfl, hf', by omega, HS2, HFQ, hx1, hx2⟩
            case measure => simp [intOf]; omega
          · by_cases hz0 : z = 0
            · have g3 : (z == 0) = true := beq_iff_eq.2 hz0
              by_cases hy0 : 0 ≤ y
              · have g4 : decide (0 ≤ y) = true := decide_eq_true hy0
                by_cases hxy : x < y + 1
                · have g5 : decide (x < y + 1) = true := decide_eq_true hxy
                  have HFQ : Hid ((subsD (i + 1) (i + 1) (i + 1)).foldl (cntStep (zeroB L) C (i + 1) b) (-1) = (subsD (i + 1) f' q).foldl (cntStep (zeroB L) C (i + 1) b) (y + 1)) := Lib.hid (by rw [HFN.out, HST.out, if_pos ⟨rfl, hz0, hy0, hxy⟩])
                  clear hz0 hy0 hxy
                  go_wp2_with (go_at_call 40; (with_reducible refine HC.out.mono ?_); rintro e w2 ⟨rfl, rfl⟩)
                  go_round
                  case rel => exact ⟨q, f', y + 1, rfl, rfl, hf', by omega, HS2, HFQ, by omega, by omega⟩
                  case measure => simp [intOf]; omega
                · have g5 : decide (x < y + 1) = false := decide_eq_false hxy
                  have HFQ : Hid ((subsD (i + 1) (i + 1) (i + 1)).foldl (cntStep (zeroB L) C (i + 1) b) (-1) = (subsD (i + 1) f' q).foldl (cntStep (zeroB L) C (i + 1) b) x) := Lib.hid (by rw [HFN.out, HST.out, if_neg (fun h => hxy h.2.2.2)])
                  clear hz0 hy0 hxy
                  go_wp2_with (go_at_call 40; (with_reducible refine HC.out.mono ?_); rintro e w2 ⟨rfl, rfl⟩)
                  go_round
                  case rel => exact ⟨q, f', x, rfl, rfl, hf', by omega, HS2, HFQ, by omega, by omega⟩
                  case measure => simp [intOf]; omega
              · have g4 : decide (0 ≤ y) = false := decide_eq_false hy0
                have HFQ : Hid ((subsD (i + 1) (i + 1) (i + 1)).foldl (cntStep (zeroB L) C (i + 1) b) (-1) = (subsD (i + 1) f' q).foldl (cntStep (zeroB L) C (i + 1) b) x) := Lib.hid (by rw [HFN.out, HST.out, if_neg (fun h => hy0 h.2.2.1)])
                clear hz0 hy0
                go_wp2_with (go_at_call 40; (with_reducible refine HC.out.mono ?_); rintro e w2 ⟨rfl, rfl⟩)
                go_round
                case rel => exact ⟨q, f', x, rfl, rfl, hf', by omega, HS2, HFQ, by omega, by omega⟩
                case measure => simp [intOf]; omega
            · have g3 : (z == 0) = false := beq_eq_false_iff_ne.2 hz0
              have HFQ : Hid ((subsD (i + 1) (i + 1) (i + 1)).foldl (cntStep (zeroB L) C (i + 1) b) (-1) = (subsD (i + 1) f' q).foldl (cntStep (zeroB L) C (i + 1) b) x) := Lib.hid (by rw [HFN.out, HST.out, if_neg (fun h => hz0 h.2.1)])
              clear hz0
              go_wp2_with (go_at_call 40; (with_reducible refine HC.out.mono ?_); rintro e w2 ⟨rfl, rfl⟩)
              go_round
              case rel => exact ⟨q, f', x, rfl, rfl, hf', by omega, HS2, HFQ, by omega, by omega⟩
              case measure => simp [intOf]; omega
    · have g0 : decide ((i : Int) + 1 < wrap64 (2 ^ L.length)) = false := by rw [HSH.out]; exact decide_eq_false (by omega)
      have HIN : Hid (N - 1 = i ∧ i + 1 = N) := Lib.hid ⟨by omega, by omega⟩
      clear hlt hiN
      go_wp2_with fail
      go_ret
      refine ⟨Lib.hid ⟨some ⟨g, 0, none⟩, c, by rw [← HIN.out.2]; rfl, ?_⟩, hB⟩
      rw [HIN.out.1]
      have h := HR.out
      exact own_nums' h (by rw [HTL.out]) (fun k hk => (h.lt k hk).2)
end Go.Proofs.YtfiefmhnonddhaaDoor
