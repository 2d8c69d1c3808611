/-
  THE WALKS of the reference's Sums, First, away, Nearest (26).
-/
import Derived.Test.YtbniclapaigkkaaGreatNext
import Derived.Test.YtbniclapaigkkaaGreatNearA
namespace Go.Proofs.YtbniclapaigkkaaGreat
open Go.RowKit Go.Shelf
theorem made_zero (n : Nat) : (madeCells (Value.int .i64 0).cells (n * 1)).toList = nflat (List.replicate n 0) := by
  apply List.ext_getElem?
  intro j
  by_cases hj : j < n
  · rw [nflat_at _ j (by simpa using hj)]
    have e : ig (List.replicate n 0) j = 0 := by unfold ig; rw [List.getElem?_replicate, if_pos hj]; rfl
    rw [e]
    simp [madeCells, Value.cells, hj, Nat.mod_one]
  · rw [List.getElem?_eq_none (by simp [madeCells]; omega), List.getElem?_eq_none (by rw [num_len, List.length_replicate]; omega)]
/-- What a slice holds. -/
def rdC (w : World) : Value → List Int
  | .slice (some a) n _ => (List.range n).map fun i => intOf ((w.cell? ⟨a.block, a.off + i, none⟩).getD undef)
  | _ => []
theorem rdC_eq {n₀ : Nat} {w : World} {v : Value} {L : List Int} (h : NumsV n₀ w v L) : rdC w v = L := by
  obtain ⟨a, cap, rfl, _, _, _, hN⟩ := h
  cases a with
  | none =>
    cases L with
    | nil => rfl
    | cons x t => obtain ⟨b, off, e, _⟩ := hN (by simp); cases e
  | some ad =>
    by_cases hp : 0 < L.length
    · obtain ⟨b, off, e, _, hc⟩ := hN hp
      cases e
      refine ig_ext _ _ (by simp [rdC]) fun j hj => ?_
      have hj' : j < L.length := by simpa [rdC] using hj
      unfold rdC ig
      rw [List.getElem?_map, List.getElem?_range hj']
      show ((some (intOf ((w.cell? ⟨b, off + j, none⟩).getD undef))).getD 0) = _
      rw [hc j hj']
      rfl
    · obtain rfl : L = [] := List.eq_nil_of_length_eq_zero (by omega)
      rfl
def leftC (L : List BrickR) (m c : Value) (w : World) : Nat :=
  match m with
  | .bool true => countP L - valC L (rdC w c)
  | _ => 0
theorem leftC_now {L : List BrickR} {n₀ : Nat} {w : World} {c : Value} {C : List Int} {v : Nat} (hc : NumsV n₀ w c C) (h : AtC L C true v) : leftC L (.bool true) c w = countP L - v := by
  unfold leftC
  rw [rdC_eq hc, (atC_lt h).1]
theorem leftC_next {L : List BrickR} {n₀ : Nat} {w : World} {c : Value} {C : List Int} {v : Nat} {b : Bool} (hc : NumsV n₀ w c C) (h : AtC L C b v) : leftC L (.bool b) c w ≤ countP L - v := by
  cases b with
  | true => rw [leftC_now hc h]; exact Nat.le_refl _
  | false => exact Nat.zero_le _
set_option maxRecDepth 100000 in
set_option maxHeartbeats 8000000 in
theorem refsums_any (a : Option Addr) (L : List BrickR) (cap : Nat) (w : World) (ok : BrickOK L) (hl : L.length ≤ 8) (h7 : countP L ≤ 700) (h : Bricks w.heap.size w a L) :
    Calls Tryz.prog 49 #[.slice a L.length cap] w fun e w' => Hid (∃ v, e = .returned v ∧ NumsV w'.heap.size w' v (sumsP L)) ∧ Below w.heap.size w w' := by
  obtain ⟨i0, hi, hy1, hy2, hy3⟩ := info_parts num_infoZ
  have HU := Lib.hid h
  have HOK := Lib.hid ok
  have HA0 := Lib.hid (atC_zero ok)
  have H7 := Lib.hid h7
  clear h ok h7
  go_enter Tryz.func49, Tryz.ntmps49
  go_wp2_with (at_make; refine wpList_make_full _ rfl _ _ 22 rfl w.heap.size 3 i0 (.int .i64 0) 1 Tryz.underlying22 hi hy1 hy2 _ _ _ _ L.length rfl rfl rfl rfl (by rw [hy3]; omega) (by unfold maxLen; omega) (Nat.le_refl _) ?_; intro w5 hown5 hg5; rw [made_zero] at hown5; have HV5 := Lib.hid (NumsV.of_own hown5 List.length_replicate); have hB5 : Below w.heap.size w w5 := (Below.refl _ _).grown hg5 (Nat.le_refl _) (fun k e => by cases e); clear hown5 hg5)
  go_loopw [3, 4, 5] (fun o c m wr => ∃ (v : Nat) (K C : List Int) (b : Bool), m = .bool b ∧ Below w.heap.size w wr ∧ Hid (NumsV wr.heap.size wr o K ∧ NumsV wr.heap.size wr c C ∧ AtC L C b v ∧ SumsTo L v K ∧ K.length ≤ v)) (fun _ c m wr => leftC L m c wr)
  case atStart => exact ⟨0, [], _, true, rfl, hB5, Lib.hid ⟨NumsV.nil, HV5.out, HA0.out, sumsTo_zero L, Nat.le_refl _⟩⟩
  case round =>
    clear hB5 HV5 HA0
    obtain ⟨v, K, C, b, rfl, hB, HI⟩ := hrel
    cases b with
    | true =>
      obtain ⟨⟨oa, oc, rfl, o1, o2, o3, o4⟩, hcv, hat, hst, hkv⟩ := HI.out
      have HM := Lib.hid (leftC_now hcv hat)
      obtain ⟨ca, cc, rfl, c1, c2, c3, c4⟩ := hcv
      obtain ⟨hv1, hv2⟩ := atC_lt hat
      have HIC := Lib.hid hat.1
      have HAT := Lib.hid (atC_next HOK.out hat)
      have HST := Lib.hid (sumsTo_next hat hst)
      have HKL := Lib.hid (insK_len (sumC L C) K)
      have HO4 := Lib.hid o4
      have HC4 := Lib.hid c4
      have hkl : K.length ≤ 700 := by have := H7.out; omega
      clear hat hst o4 c4 HI hv1
      go_wp2_with (first
        | (go_at_call 68; (with_reducible refine (refsum_any _ L _ _ C _ _ HOK.out hl HIC.out (HU.out.grow hB) HC4.out).mono ?_); rintro e w1 ⟨rfl, hb1⟩)
        | (go_at_call 67; (with_reducible refine (put_any _ _ K _ _ (by omega) o1 o2 o3 (HO4.out.grow hb1)).mono ?_); rintro e w2 ⟨hx, hb2⟩; obtain ⟨v2, rfl, hv2'⟩ := hx.out; have HV2 := Lib.hid hv2'; have hB2 := hb1.trans (hb2.mono hb1.size); clear hx hv2')
        | (go_at_call 69; (with_reducible refine (next_any _ L _ _ C _ _ HOK.out hl HIC.out (HU.out.grow (hB.trans (hB2.mono hB.size))) c3 (HC4.out.grow hB2)).mono ?_); rintro e w3 ⟨hx, hb3⟩; obtain ⟨v3, rfl, hv3⟩ := hx.out; have HV3 := Lib.hid hv3; clear hx hv3))
      go_roundw
      case rel => exact ⟨v + 1, _, _, _, rfl, hB.trans ((hB2.trans (hb3.mono hB2.size)).mono hB.size), Lib.hid ⟨HV2.out.grow hb3, HV3.out, HAT.out, HST.out, by have := HKL.out; omega⟩⟩
      case measure =>
        show leftC L (.bool (nextC L C).2) v3 w3 < leftC L (.bool true) (.slice ca C.length cc) wr
        have m1 := leftC_next HV3.out HAT.out
        rw [HM.out]
        omega
    | false =>
      obtain ⟨⟨oa, oc, rfl, o1, o2, o3, o4⟩, hcv, hat, hst, hkv⟩ := HI.out
      obtain ⟨_, h' | ⟨_, rfl⟩⟩ := hat
      · cases h'.1
      obtain rfl := sumsTo_all hst
      have HO4 := Lib.hid o4
      clear o4 hst hcv hkv HI
      go_wp2_with fail
      go_ret
      exact ⟨Lib.hid ⟨_, rfl, oa, oc, rfl, o1, o2, o3, HO4.out⟩, hB⟩
set_option maxRecDepth 100000 in
set_option maxHeartbeats 8000000 in
theorem reffirst_any (low high : Int) (a : Option Addr) (L : List BrickR) (cap : Nat) (w : World) (ok : BrickOK L) (hl : L.length ≤ 8) (h : Bricks w.heap.size w a L) :
    Calls Tryz.prog 51 #[.slice a L.length cap, .int .i64 low, .int .i64 high] w fun e w' => Hid (∃ v, e = .returned (.tuple #[v, .bool (firstP low high L).isSome]) ∧ NumsV w'.heap.size w' v (listS (firstP low high L))) ∧ Below w.heap.size w w' := by
  obtain ⟨i0, hi, hy1, hy2, hy3⟩ := info_parts num_infoZ
  have HU := Lib.hid h
  have HOK := Lib.hid ok
  have HA0 := Lib.hid (atC_zero ok)
  clear h ok
  go_enter Tryz.func51, Tryz.ntmps51
  go_wp2_with (at_make; refine wpList_make_full _ rfl _ _ 22 rfl w.heap.size 3 i0 (.int .i64 0) 1 Tryz.underlying22 hi hy1 hy2 _ _ _ _ L.length rfl rfl rfl rfl (by rw [hy3]; omega) (by unfold maxLen; omega) (Nat.le_refl _) ?_; intro w5 hown5 hg5; rw [made_zero] at hown5; have HV5 := Lib.hid (NumsV.of_own hown5 List.length_replicate); have hB5 : Below w.heap.size w w5 := (Below.refl _ _).grown hg5 (Nat.le_refl _) (fun k e => by cases e); clear hown5 hg5)
  go_loopw [8, 9, 10, 11] (fun o f c m wr => ∃ (v : Nat) (st : St) (C : List Int) (b g : Bool), m = .bool b ∧ f = .bool g ∧ Below w.heap.size w wr ∧ Hid (g = st.isSome ∧ NumsV wr.heap.size wr o (listS st) ∧ NumsV wr.heap.size wr c C ∧ AtC L C b v ∧ BestOf low high L (Seen L v) st)) (fun _ _ c m wr => leftC L m c wr)
  case atStart => exact ⟨0, none, _, true, false, rfl, rfl, hB5, Lib.hid ⟨rfl, NumsV.nil, HV5.out, HA0.out, bestTo_zero L low high⟩⟩
  case round =>
    clear hB5 HV5 HA0
    obtain ⟨v, st, C, b, g, rfl, rfl, hB, HI⟩ := hrel
    cases b with
    | true =>
      obtain ⟨rfl, ⟨oa, oc, rfl, o1, o2, o3, o4⟩, hcv, hat, hst⟩ := HI.out
      have HM := Lib.hid (leftC_now hcv hat)
      obtain ⟨ca, cc, rfl, c1, c2, c3, c4⟩ := hcv
      obtain ⟨hv1, hv2⟩ := atC_lt hat
      have HIC := Lib.hid hat.1
      have HAT := Lib.hid (atC_next HOK.out hat)
      have HST := Lib.hid (bestTo_next hat hst)
      have HO4 := Lib.hid o4
      have HC4 := Lib.hid c4
      have HBS : Hid (∀ b m, st = some (b, m) → IsC L b) := Lib.hid fun b m e => by subst e; exact hst.1.1
      clear hat hst o4 c4 HI hv1
      by_cases q1 : low ≤ sumC L C
      · have g1 : decide (low ≤ sumC L C) = true := decide_eq_true q1
        by_cases q2 : sumC L C ≤ high
        · have g2 : decide (sumC L C ≤ high) = true := decide_eq_true q2
          have hw : winB low high (sumC L C) = true := by unfold winB; rw [g1, g2]; rfl
          cases st with
          | none =>
            have HST2 : Hid (BestOf low high L (Seen L (v + 1)) (some (C, numC C))) := Lib.hid (by have := HST.out; unfold stepR at this; simp only [] at this; rw [if_pos hw] at this; exact this)
            clear HST hw
            simp only [Option.isSome_none, listS, List.length_nil] at o1 ⊢
            go_wp2_with (first
                    | (go_at_call 68; (with_reducible refine (refsum_any _ L _ _ C _ _ HOK.out hl HIC.out (HU.out.grow hB) HC4.out).mono ?_); rintro e w1 ⟨rfl, hb1⟩; have hB2 := hb1)
                    | (go_at_call 69; (with_reducible refine (next_any _ L _ _ C _ _ HOK.out hl HIC.out (HU.out.grow (hB.trans (hB2.mono hB.size))) c3 (HC4.out.grow hB2)).mono ?_); rintro e w3 ⟨hx, hb3⟩; obtain ⟨v3, rfl, hv3⟩ := hx.out; have HV3 := Lib.hid hv3; clear hx hv3))
            go_roundw
            case rel => exact ⟨v + 1, some (C, numC C), _, _, _, rfl, rfl, hB.trans ((hB2.trans (hb3.mono hB2.size)).mono hB.size), Lib.hid ⟨rfl, ⟨_, _, rfl, c1, c2, c3, HC4.out.grow (hB2.trans (hb3.mono hB2.size))⟩, HV3.out, HAT.out, HST2.out⟩⟩
            case measure =>
              show leftC L (.bool (nextC L C).2) v3 w3 < leftC L (.bool true) (.slice ca C.length cc) wr
              have m1 := leftC_next HV3.out HAT.out
              rw [HM.out]
              omega
          | some p =>
            obtain ⟨bb, mm⟩ := p
            have HIB := Lib.hid (HBS.out bb mm rfl)
            simp only [Option.isSome_some, listS] at o1 ⊢
            have HO4 : Hid (Nums wr.heap.size wr oa bb) := HO4
            cases hbf : beforeB C bb
            · have HBF := Lib.hid hbf
              have HST2 : Hid (BestOf low high L (Seen L (v + 1)) (some (bb, mm))) := Lib.hid (by have := HST.out; unfold stepR at this; simp only [] at this; rw [if_neg (by rw [hbf]; exact fun h => by cases h.2)] at this; exact this)
              clear HST hw hbf HBS
              go_wp2_with (first
                      | (go_at_call 68; (with_reducible refine (refsum_any _ L _ _ C _ _ HOK.out hl HIC.out (HU.out.grow hB) HC4.out).mono ?_); rintro e w1 ⟨rfl, hb1⟩; have hB2 := hb1)
                      | (go_at_call 70; (with_reducible refine (before_any L _ _ C bb _ _ _ HOK.out hl HIC.out HIB.out (HC4.out.grow hB2) (HO4.out.grow hB2)).mono ?_); rintro e w2 ⟨rfl, hbb⟩; rw [HBF.out]; have hB2 := hB2.trans (hbb.mono hB2.size))
                      | (go_at_call 69; (with_reducible refine (next_any _ L _ _ C _ _ HOK.out hl HIC.out (HU.out.grow (hB.trans (hB2.mono hB.size))) c3 (HC4.out.grow hB2)).mono ?_); rintro e w3 ⟨hx, hb3⟩; obtain ⟨v3, rfl, hv3⟩ := hx.out; have HV3 := Lib.hid hv3; clear hx hv3))
              go_roundw
              case rel => exact ⟨v + 1, some (bb, mm), _, _, _, rfl, rfl, hB.trans ((hB2.trans (hb3.mono hB2.size)).mono hB.size), Lib.hid ⟨rfl, ⟨_, _, rfl, o1, o2, o3, HO4.out.grow (hB2.trans (hb3.mono hB2.size))⟩, HV3.out, HAT.out, HST2.out⟩⟩
              case measure =>
                show leftC L (.bool (nextC L C).2) v3 w3 < leftC L (.bool true) (.slice ca C.length cc) wr
                have m1 := leftC_next HV3.out HAT.out
                rw [HM.out]
                omega
            · have HBF := Lib.hid hbf
              have HST2 : Hid (BestOf low high L (Seen L (v + 1)) (some (C, numC C))) := Lib.hid (by have := HST.out; unfold stepR at this; simp only [] at this; rw [if_pos ⟨hw, hbf⟩] at this; exact this)
              clear HST hw hbf HBS
              go_wp2_with (first
                      | (go_at_call 68; (with_reducible refine (refsum_any _ L _ _ C _ _ HOK.out hl HIC.out (HU.out.grow hB) HC4.out).mono ?_); rintro e w1 ⟨rfl, hb1⟩; have hB2 := hb1)
                      | (go_at_call 70; (with_reducible refine (before_any L _ _ C bb _ _ _ HOK.out hl HIC.out HIB.out (HC4.out.grow hB2) (HO4.out.grow hB2)).mono ?_); rintro e w2 ⟨rfl, hbb⟩; rw [HBF.out]; have hB2 := hB2.trans (hbb.mono hB2.size))
                      | (go_at_call 69; (with_reducible refine (next_any _ L _ _ C _ _ HOK.out hl HIC.out (HU.out.grow (hB.trans (hB2.mono hB.size))) c3 (HC4.out.grow hB2)).mono ?_); rintro e w3 ⟨hx, hb3⟩; obtain ⟨v3, rfl, hv3⟩ := hx.out; have HV3 := Lib.hid hv3; clear hx hv3))
              go_roundw
              case rel => exact ⟨v + 1, some (C, numC C), _, _, _, rfl, rfl, hB.trans ((hB2.trans (hb3.mono hB2.size)).mono hB.size), Lib.hid ⟨rfl, ⟨_, _, rfl, c1, c2, c3, HC4.out.grow (hB2.trans (hb3.mono hB2.size))⟩, HV3.out, HAT.out, HST2.out⟩⟩
              case measure =>
                show leftC L (.bool (nextC L C).2) v3 w3 < leftC L (.bool true) (.slice ca C.length cc) wr
                have m1 := leftC_next HV3.out HAT.out
                rw [HM.out]
                omega
        · have g2 : decide (sumC L C ≤ high) = false := decide_eq_false q2
          have hw : ¬ winB low high (sumC L C) = true := by unfold winB; rw [g1, g2]; exact Bool.false_ne_true
          have HST2 : Hid (BestOf low high L (Seen L (v + 1)) st) := Lib.hid (by have := HST.out; cases st <;> unfold stepR at this <;> simp only [] at this <;> first | (rw [if_neg hw] at this; exact this) | (rw [if_neg fun h => hw h.1] at this; exact this))
          clear HST hw HBS
          go_wp2_with (first
                  | (go_at_call 68; (with_reducible refine (refsum_any _ L _ _ C _ _ HOK.out hl HIC.out (HU.out.grow hB) HC4.out).mono ?_); rintro e w1 ⟨rfl, hb1⟩; have hB2 := hb1)
                  | (go_at_call 69; (with_reducible refine (next_any _ L _ _ C _ _ HOK.out hl HIC.out (HU.out.grow (hB.trans (hB2.mono hB.size))) c3 (HC4.out.grow hB2)).mono ?_); rintro e w3 ⟨hx, hb3⟩; obtain ⟨v3, rfl, hv3⟩ := hx.out; have HV3 := Lib.hid hv3; clear hx hv3))
          go_roundw
          case rel => exact ⟨v + 1, st, _, _, _, rfl, rfl, hB.trans ((hB2.trans (hb3.mono hB2.size)).mono hB.size), Lib.hid ⟨rfl, ⟨_, _, rfl, o1, o2, o3, HO4.out.grow (hB2.trans (hb3.mono hB2.size))⟩, HV3.out, HAT.out, HST2.out⟩⟩
          case measure =>
            show leftC L (.bool (nextC L C).2) v3 w3 < leftC L (.bool true) (.slice ca C.length cc) wr
            have m1 := leftC_next HV3.out HAT.out
            rw [HM.out]
            omega
      · have g1 : decide (low ≤ sumC L C) = false := decide_eq_false q1
        have hw : ¬ winB low high (sumC L C) = true := by unfold winB; rw [g1]; exact Bool.false_ne_true
        have HST2 : Hid (BestOf low high L (Seen L (v + 1)) st) := Lib.hid (by have := HST.out; cases st <;> unfold stepR at this <;> simp only [] at this <;> first | (rw [if_neg hw] at this; exact this) | (rw [if_neg fun h => hw h.1] at this; exact this))
        clear HST hw HBS
        go_wp2_with (first
                | (go_at_call 68; (with_reducible refine (refsum_any _ L _ _ C _ _ HOK.out hl HIC.out (HU.out.grow hB) HC4.out).mono ?_); rintro e w1 ⟨rfl, hb1⟩; have hB2 := hb1)
                | (go_at_call 69; (with_reducible refine (next_any _ L _ _ C _ _ HOK.out hl HIC.out (HU.out.grow (hB.trans (hB2.mono hB.size))) c3 (HC4.out.grow hB2)).mono ?_); rintro e w3 ⟨hx, hb3⟩; obtain ⟨v3, rfl, hv3⟩ := hx.out; have HV3 := Lib.hid hv3; clear hx hv3))
        go_roundw
        case rel => exact ⟨v + 1, st, _, _, _, rfl, rfl, hB.trans ((hB2.trans (hb3.mono hB2.size)).mono hB.size), Lib.hid ⟨rfl, ⟨_, _, rfl, o1, o2, o3, HO4.out.grow (hB2.trans (hb3.mono hB2.size))⟩, HV3.out, HAT.out, HST2.out⟩⟩
        case measure =>
          show leftC L (.bool (nextC L C).2) v3 w3 < leftC L (.bool true) (.slice ca C.length cc) wr
          have m1 := leftC_next HV3.out HAT.out
          rw [HM.out]
          omega
    | false =>
      obtain ⟨rfl, ⟨oa, oc, rfl, o1, o2, o3, o4⟩, hcv, hat, hst⟩ := HI.out
      obtain ⟨_, h' | ⟨_, rfl⟩⟩ := hat
      · cases h'.1
      obtain rfl := bestTo_all hst
      have HO4 := Lib.hid o4
      clear o4 hst hcv HI
      go_wp2_with fail
      go_ret2
      exact ⟨Lib.hid ⟨_, rfl, oa, oc, rfl, o1, o2, o3, HO4.out⟩, hB⟩
end Go.Proofs.YtbniclapaigkkaaGreat
