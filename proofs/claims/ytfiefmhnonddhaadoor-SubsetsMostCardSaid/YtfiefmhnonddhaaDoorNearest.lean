/-
  THE WALK of subsets.Nearest.
-/
import Derived.Test.YtfiefmhnonddhaaDoorSumsA
namespace Go.Proofs.YtfiefmhnonddhaaDoor
open Go.RowKit Go.Shelf Go.Lib

set_option maxHeartbeats 1000000 in
theorem away_any (n sum : Int) (b : Nat) (w : World) (hc : w.cell? ⟨b, 0, none⟩ = some (.int .i64 sum)) (h1 : -18014398509481984 ≤ n ∧ n ≤ 18014398509481984) (h2 : -1152921504606846976 ≤ sum ∧ sum ≤ 1152921504606846976) :
    Calls Tryd.prog 47 #[.int .i64 n, .pointer (some ⟨b, 0, none⟩)] w fun e w' => e = .returned (.int .i64 (farI n sum)) ∧ w = w' := by
  have HR : Hid (farI n sum = max (n - sum) (sum - n)) := Lib.hid rfl
  go_enter Tryd.func47, Tryd.ntmps47
  go_wp2_with fail
  go_ret
  exact ⟨ret_int HR.out.symm, rfl⟩

/-- What Nearest answers. -/
def nearE (L : List Int) (sum : Int) : Int := if givenE L = 0 then (if sum < -1152921504606846976 ∨ 1152921504606846976 < sum then 2 else 0) else givenE L
def nearM (L : List Int) (sum : Int) : Int := nearTo (allS L) sum (2 ^ L.length)
def nearN (L : List Int) (sum : Int) : Int := if nearE L sum = 0 then nearM L sum else 0
def nearX (L : List Int) (sum : Int) : List Int := if nearE L sum = 0 then idxN L.length 0 (fstTo L (nearM L sum) 0 (2 ^ L.length)).1 else []
theorem fst_lt2 (L : List Int) (sum least : Int) (i : Nat) (hi : 0 < i) : (fstTo L sum least i).1 < i := by
  induction i with
  | zero => omega
  | succ i ih =>
    rw [fstTo]
    split
    · exact Nat.lt_succ_self _
    · by_cases h : 0 < i
      · have := ih h; omega
      · obtain rfl : i = 0 := by omega
        show (0 : Nat) < 1
        omega
theorem nearTo_mem {S : List Int} (sum : Int) (i : Nat) (h0 : 0 < S.length) (hi : i ≤ S.length) : nearTo S sum i ∈ S := (near_ok S sum h0 i hi).1
theorem allS_bound {L : List Int} (h : givenE L = 0) : ∀ x ∈ allS L, -18014398509481984 ≤ x ∧ x ≤ 18014398509481984 := fun x hx => by
  obtain ⟨s, _, e⟩ := (allS_mem L x).1 hx
  have := sumN_bound L s (small_mem h)
  have hl := (given_small h).1
  rw [← e]
  omega

set_option maxHeartbeats 8000000 in
theorem Nearest_any (a : Option Addr) (L : List Int) (cap : Nat) (sum : Int) (w : World) (hl : L.length ≤ 1000000) (hI : Nums w.heap.size w a L) (hT : Tabs w) :
    Calls Tryd.prog 23 #[.slice a L.length cap, .int .i64 sum] w fun e w' => Hid (∃ v c, e = .returned (.tuple #[.int .i64 (nearN L sum), .slice v (nearX L sum).length c, .int .i64 (nearE L sum)]) ∧ Nums w'.heap.size w' v (nearX L sum)) ∧ Below w.heap.size w w' := by
  have hb0 := below_new w (.cells #[.int .i64 sum] 3)
  have HM : Hid (∀ wr, Below (w.alloc (.cells #[.int .i64 sum] 3)).heap.size (w.alloc (.cells #[.int .i64 sum] 3)) wr → Below w.heap.size w wr) := Lib.hid fun wr h => mono_in _ h
  have x0 : (w.alloc (.cells #[.int .i64 sum] 3)).cell? ⟨w.heap.size, 0, none⟩ = some (.int .i64 sum) := cell_of_row _ _ 0 #[.int .i64 sum] _ (0, 0) (heap_alloc_new _ _)
  have hsz : w.heap.size < (w.alloc (.cells #[.int .i64 sum] 3)).heap.size := by simp
  have HI := Lib.hid (hI.grow hb0)
  have HT := Lib.hid (hT.grow hb0)
  have e1 : givenE L = 0 → sum < -1152921504606846976 ∨ 1152921504606846976 < sum → nearE L sum = 2 := fun h1 h2 => by unfold nearE; rw [if_pos h1, if_pos h2]
  have e2 : givenE L = 0 → ¬ (sum < -1152921504606846976 ∨ 1152921504606846976 < sum) → nearE L sum = 0 := fun h1 h2 => by unfold nearE; rw [if_pos h1, if_neg h2]
  have e3 : nearE L sum ≠ 0 → nearN L sum = 0 ∧ nearX L sum = [] := fun h => ⟨by unfold nearN; rw [if_neg h], by unfold nearX; rw [if_neg h]⟩
  clear hI hT hb0
  by_cases hg : givenE L = 0
  · have HG := Lib.hid hg
    by_cases hs : sum < -1152921504606846976 ∨ 1152921504606846976 < sum
    · have HE := Lib.hid (e1 hg hs)
      have HX := Lib.hid (e3 (by rw [HE.out]; decide))
      rw [HX.out.1, HX.out.2, HE.out]
      clear e1 e2 e3 hg
      by_cases hs1 : sum < -1152921504606846976
      · have g1 : decide (sum < -1152921504606846976) = true := decide_eq_true hs1
        clear hs hs1
        go_enter Tryd.func23, Tryd.ntmps23
        go_upto_region 1 with (fail)
        generalize w.alloc (.cells #[.int .i64 sum] 3) = W0 at *
        go_wp2_with (go_at_call 42; (with_reducible refine (given_any _ L _ _ hl HI.out).mono ?_); rintro e w1 ⟨rfl, hb1⟩; rw [HG.out]; have x1 := (hb1.cell (p := ⟨w.heap.size, 0, none⟩) hsz).trans x0)
        go_ret3
        exact ⟨Lib.hid ⟨none, 0, rfl, Nums.nil⟩, HM.out _ hb1⟩
      · have g1 : decide (sum < -1152921504606846976) = false := decide_eq_false hs1
        have g2 : decide (1152921504606846976 < sum) = true := decide_eq_true (by omega)
        clear hs hs1
        go_enter Tryd.func23, Tryd.ntmps23
        go_upto_region 1 with (fail)
        generalize w.alloc (.cells #[.int .i64 sum] 3) = W0 at *
        go_wp2_with (go_at_call 42; (with_reducible refine (given_any _ L _ _ hl HI.out).mono ?_); rintro e w1 ⟨rfl, hb1⟩; rw [HG.out]; have x1 := (hb1.cell (p := ⟨w.heap.size, 0, none⟩) hsz).trans x0)
        go_ret3
        exact ⟨Lib.hid ⟨none, 0, rfl, Nums.nil⟩, HM.out _ hb1⟩
    · have HE := Lib.hid (e2 hg hs)
      have HX : Hid (nearN L sum = nearM L sum ∧ nearX L sum = idxN L.length 0 (fstTo L (nearM L sum) 0 (2 ^ L.length)).1) := Lib.hid ⟨by unfold nearN; rw [if_pos HE.out], by unfold nearX; rw [if_pos HE.out]⟩
      rw [HX.out.1, HX.out.2, HE.out]
      have HNM : Hid (nearM L sum = nearTo (allS L) sum (2 ^ L.length)) := Lib.hid rfl
      have hl2 := (given_small hg).1
      have hpos : 0 < 2 ^ L.length := Nat.two_pow_pos _
      have h16 : 2 ^ L.length ≤ 65536 := Nat.pow_le_pow_right (by decide) hl2
      have hfl := fst_lt2 L (nearM L sum) 0 _ hpos
      have HAL : Hid ((allS L).length = 2 ^ L.length) := Lib.hid (allS_len L)
      have HAB : Hid (∀ x, x ∈ allS L → -18014398509481984 ≤ x ∧ x ≤ 18014398509481984) := Lib.hid (allS_bound hg)
      have HLI : Hid (∀ (s : Nat) w, s < 2 ^ L.length → Tabs w → Calls Tryd.prog 45 #[.int .u32 s] w fun e w' => Hid (∃ v, e = .returned v ∧ w'.ownsRow w.heap.size 3 1 v (idxN L.length 0 s).length (nflat (idxN L.length 0 s)) ∧ Below w.heap.size w w')) := Lib.hid fun s w h hT => list_any L.length s hl2 h w hT
      have HFI : Hid (∀ (g : Nat) (sum : Int) w, Nums w.heap.size w (some ⟨g, 0, none⟩) (allS L) → Calls Tryd.prog 48 #[.slice (some ⟨g, 0, none⟩) (2 ^ L.length) (2 ^ L.length), .int .i64 sum, .int .i64 0] w fun e w' => e = .returned (.tuple #[.int .u32 ((fstTo L sum 0 (2 ^ L.length)).1 : Nat), .bool (fstTo L sum 0 (2 ^ L.length)).2]) ∧ Below w.heap.size w w') := Lib.hid fun g sum w h => first_any _ L _ sum 0 w hl2 h
      have HSU : Hid (∀ w, Nums w.heap.size w a L → Tabs w → Calls Tryd.prog 43 #[.slice a L.length cap] w fun e w' => Hid (∃ g, e = .returned (.slice (some ⟨g, 0, none⟩) (2 ^ L.length) (2 ^ L.length)) ∧ w'.ownsRow w.heap.size 3 1 (.slice (some ⟨g, 0, none⟩) (2 ^ L.length) (2 ^ L.length)) (2 ^ L.length) (nflat (allS L)) ∧ Below w.heap.size w w')) := Lib.hid fun w h1 h2 => sums_any a L cap w hg h1 h2
      have HAN : Hid (∀ {w : World} {base g : Nat}, w.ownsRow base 3 1 (.slice (some ⟨g, 0, none⟩) (2 ^ L.length) (2 ^ L.length)) (2 ^ L.length) (nflat (allS L)) → Nums w.heap.size w (some ⟨g, 0, none⟩) (allS L)) := Lib.hid fun h => all_nums h
      have g1 : decide (sum < -1152921504606846976) = false := decide_eq_false (by omega)
      have g2 : decide (1152921504606846976 < sum) = false := decide_eq_false (by omega)
      have hsb : -1152921504606846976 ≤ sum ∧ sum ≤ 1152921504606846976 := by omega
      clear e1 e2 e3 hg hs
      generalize 2 ^ L.length = N at *
      obtain ⟨M, hM⟩ : ∃ M, nearM L sum = M := ⟨_, rfl⟩
      rw [hM] at HNM HX hfl ⊢
      clear hM
      go_enter Tryd.func23, Tryd.ntmps23
      go_upto_region 1 with (fail)
      generalize w.alloc (.cells #[.int .i64 sum] 3) = W0 at *
      go_wp2_with (first
        | (go_at_call 42; (with_reducible refine (given_any _ L _ _ hl HI.out).mono ?_); rintro e w1 ⟨rfl, hb1⟩; rw [HG.out]; have x1 := (hb1.cell (p := ⟨w.heap.size, 0, none⟩) hsz).trans x0)
        | (go_at_call 43; (with_reducible refine (HSU.out _ (HI.out.grow hb1) (HT.out.grow hb1)).mono ?_); rintro e w2 hx; obtain ⟨g, rfl, hr2, hb2⟩ := hx.out; have HN := Lib.hid (HAN.out hr2); have hb12 := hb1.trans (hb2.mono hb1.size); have y0 : w2.cell? ⟨g, 0, none⟩ = some (.int .i64 (ig (allS L) 0)) := (by obtain ⟨_, _, e, _, hc⟩ := HN.out (by rw [HAL.out]; exact hpos); cases e; simpa using hc 0 (by rw [HAL.out]; exact hpos)); clear hx hr2))
      have hAB0 := HAB.out
      have hs2 := hb12.size
      go_loopw [9, 36] (fun bv iv wr => ∃ (i : Nat) (b : Int), bv = .int .i64 b ∧ iv = .int .i64 i ∧ i ≤ N ∧ Hid (b = nearTo (allS L) sum i) ∧ Below w2.heap.size w2 wr) (fun _ iv _ => N - (intOf iv).toNat)
      case atStart => exact ⟨0, ig (allS L) 0, rfl, rfl, by omega, Lib.hid rfl, Below.refl _ _⟩
      case round =>
        obtain ⟨i, b, rfl, rfl, hiN, HS, hB⟩ := hrel
        have hx2 : wr.cell? ⟨w.heap.size, 0, none⟩ = some (.int .i64 sum) := ((hb12.trans (hB.mono hs2)).cell (p := ⟨w.heap.size, 0, none⟩) hsz).trans x0
        by_cases hlt : i < N
        · have c0 : wr.cell? ⟨g, i, none⟩ = some (.int .i64 (ig (allS L) i)) := by
            obtain ⟨g', o', e, hgl, hc⟩ := HN.out (by rw [HAL.out]; omega)
            cases e
            have := hc i (by rw [HAL.out]; exact hlt)
            rw [Nat.zero_add] at this
            exact (hB.cell (p := ⟨g, i, none⟩) hgl).trans this
          obtain ⟨x, hx⟩ : ∃ x, ig (allS L) i = x := ⟨_, rfl⟩
          rw [hx] at c0
          have hxb := HAB.out x (by rw [← hx, ig_eq _ _ (by rw [HAL.out]; exact hlt)]; exact List.getElem_mem _)
          have hbb := HAB.out b (by rw [HS.out]; exact nearTo_mem sum i (by rw [HAL.out]; omega) (by rw [HAL.out]; omega))
          have HC1 : Hid (Calls Tryd.prog 47 #[.int .i64 x, .pointer (some ⟨w.heap.size, 0, none⟩)] wr fun e w' => e = .returned (.int .i64 (farI x sum)) ∧ wr = w') := Lib.hid (away_any x sum _ wr hx2 hxb hsb)
          have HC2 : Hid (Calls Tryd.prog 47 #[.int .i64 b, .pointer (some ⟨w.heap.size, 0, none⟩)] wr fun e w' => e = .returned (.int .i64 (farI b sum)) ∧ wr = w') := Lib.hid (away_any b sum _ wr hx2 hbb hsb)
          have HSTEP : Hid (nearTo (allS L) sum (i + 1) = nearStep sum b x) := Lib.hid (by
            rw [HS.out, ← hx]; rfl)
          obtain ⟨fx, hfx⟩ : ∃ f, farI x sum = f := ⟨_, rfl⟩
          obtain ⟨fb, hfb⟩ : ∃ f, farI b sum = f := ⟨_, rfl⟩
          have HST : Hid (nearTo (allS L) sum (i + 1) = if fx < fb ∨ (fx = fb ∧ x < b) then x else b) := Lib.hid (by rw [HSTEP.out, ← hfx, ← hfb]; rfl)
          rw [hfx] at HC1
          rw [hfb] at HC2
          clear hx hfx hfb HSTEP hxb hbb
          have hent : ∀ args w, (callFunc 47 args).run Tryd.prog w = .ok (.enter 47 args) w := enters_of Tryd.func47 (by kernel_rfl) rfl
          by_cases q1 : fx < fb
          · have a1 : decide (fx < fb) = true := decide_eq_true q1
            have HR : Hid (x = nearTo (allS L) sum (i + 1)) := Lib.hid (by rw [HST.out, if_pos (.inl q1)])
            clear q1
            go_wp2_with (go_at_call 47; (with_reducible first | refine HC1.out.mono ?_ | refine HC2.out.mono ?_); rintro e w3 ⟨rfl, rfl⟩)
            go_roundw
            case rel => exact ⟨i + 1, x, rfl, by go_num, by omega, HR, hB⟩
            case measure => simp [intOf]; omega
          · have a1 : decide (fx < fb) = false := decide_eq_false q1
            by_cases q2 : fx = fb
            · have a2 : (fx == fb) = true := beq_iff_eq.2 q2
              by_cases q3 : x < b
              · have a3 : decide (x < b) = true := decide_eq_true q3
                have HR : Hid (x = nearTo (allS L) sum (i + 1)) := Lib.hid (by rw [HST.out, if_pos (.inr ⟨q2, q3⟩)])
                clear q1 q2 q3
                go_wp2_with (go_at_call 47; (with_reducible first | refine HC1.out.mono ?_ | refine HC2.out.mono ?_); rintro e w3 ⟨rfl, rfl⟩)
                go_roundw
                case rel => exact ⟨i + 1, x, rfl, by go_num, by omega, HR, hB⟩
                case measure => simp [intOf]; omega
              · have a3 : decide (x < b) = false := decide_eq_false q3
                have HR : Hid (b = nearTo (allS L) sum (i + 1)) := Lib.hid (by rw [HST.out, if_neg (by omega)])
                clear q1 q2 q3
                go_wp2_with (go_at_call 47; (with_reducible first | refine HC1.out.mono ?_ | refine HC2.out.mono ?_); rintro e w3 ⟨rfl, rfl⟩)
                go_roundw
                case rel => exact ⟨i + 1, b, rfl, by go_num, by omega, HR, hB⟩
                case measure => simp [intOf]; omega
            · have a2 : (fx == fb) = false := beq_eq_false_iff_ne.2 q2
              have HR : Hid (b = nearTo (allS L) sum (i + 1)) := Lib.hid (by rw [HST.out, if_neg (by omega)])
              clear q1 q2
              go_wp2_with (go_at_call 47; (with_reducible first | refine HC1.out.mono ?_ | refine HC2.out.mono ?_); rintro e w3 ⟨rfl, rfl⟩)
              go_roundw
              case rel => exact ⟨i + 1, b, rfl, by go_num, by omega, HR, hB⟩
              case measure => simp [intOf]; omega
        · obtain rfl : i = N := by omega
          have HBM : Hid (b = M) := Lib.hid (by rw [HS.out, HNM.out])
          have hbr := hb12.trans (hB.mono hs2)
          obtain rfl := HBM.out
          obtain ⟨s, hs⟩ : ∃ s : Nat, (fstTo L b 0 i).1 = s := ⟨_, rfl⟩
          rw [hs] at hfl
          have HS2 := Lib.hid hs
          clear hs
          go_wp2_with (first
            | (go_at_call 48; (with_reducible refine (HFI.out g b _ (HN.out.grow hB)).mono ?_); rintro e w3 ⟨rfl, hb3⟩; rw [HS2.out]; have hb13 := hbr.trans (hb3.mono hbr.size))
            | (go_at_call 45; (with_reducible refine (HLI.out s _ hfl (HT.out.grow hb13)).mono ?_); rintro e w4 hy; obtain ⟨v, rfl, hr4, hb4⟩ := hy.out; have HR := Lib.hid hr4; clear hy hr4))
          go_ret3
          rw [HS2.out]
          refine ⟨Lib.hid ?_, HM.out _ (hb13.trans (hb4.mono hb13.size))⟩
          obtain ⟨a', c', rfl, _, _, _, hn⟩ := num_of_row HR.out
          exact ⟨a', c', rfl, hn⟩
  · have HE : Hid (nearE L sum = givenE L) := Lib.hid (by unfold nearE; rw [if_neg hg])
    have HX := Lib.hid (e3 (by rw [HE.out]; exact hg))
    rw [HX.out.1, HX.out.2, HE.out]
    have hg1 : (givenE L != 0) = true := bne_iff_ne.2 hg
    have hg2 : (givenE L == 0) = false := beq_eq_false_iff_ne.2 hg
    clear hg e1 e2 e3
    go_enter Tryd.func23, Tryd.ntmps23
    go_upto_region 1 with (fail)
    generalize w.alloc (.cells #[.int .i64 sum] 3) = W0 at *
    go_wp2_with (go_at_call 42; (with_reducible refine (given_any _ L _ _ hl HI.out).mono ?_); rintro e w1 ⟨rfl, hb1⟩)
    go_ret3
    exact ⟨Lib.hid ⟨none, 0, rfl, Nums.nil⟩, HM.out _ hb1⟩
end Go.Proofs.YtfiefmhnonddhaaDoor
