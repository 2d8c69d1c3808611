/-
  THE WALK of subsets.Parts.
-/
import Derived.Test.YtfiefmhnonddhaaDoorPartQ
import Derived.Test.YtfiefmhnonddhaaDoorNearest
import Derived.Deep.Cut
import Derived.Lib.SliceRun
namespace Go.Proofs.YtfiefmhnonddhaaDoor
open Go.RowKit Go.Shelf

/-- What Parts answers. -/
def partsE (L : List Int) : Int := if givenE L = 0 then (if sumN L (2 ^ L.length - 1) = 0 then 0 else 18) else givenE L
def partsS (L : List Int) : List Nat := partsTo L.length (zeroB L) (mostL L) (2 ^ L.length) (2 ^ L.length - 1)
def partsX (L : List Int) : List (List Int) := if partsE L = 0 then (partsS L).map (idxN L.length 0) else []
def rowZ (T : List Int) (m : Nat) : List Int := T ++ List.replicate m 0
theorem wrap64_pow {k N : Nat} (h : 2 ^ k < N) (h2 : N ≤ 65536) : wrap64 (2 ^ k) = ((2 ^ k : Nat) : Int) := by
  have e : ((2 : Int) ^ k) = ((2 ^ k : Nat) : Int) := by simp
  rw [e]
  generalize 2 ^ k = x at *
  unfold wrap64
  omega
theorem row_addr' {w : World} {base n size : Nat} {e : TypeId} {v : Value} {xs : List Value} (h : w.ownsRow base e size v n xs) (hn : 0 < n) : ∃ g, (∃ c, v = .slice (some ⟨g, 0, none⟩) n c) ∧ base ≤ g ∧ g < w.heap.size := by
  rcases h.2 with ⟨rfl, h0⟩ | ⟨g, cap', cur, rfl, hb, hg, _⟩
  · omega
  · exact ⟨g, ⟨cap', rfl⟩, hb, (Array.getElem?_eq_some_iff.1 hg).1⟩
theorem rowZ_cur (T : List Int) (m : Nat) : rowZ T (m + 1) = rowM T 0 m := by unfold rowZ rowM; rw [List.replicate_succ]
theorem rowM_done (T : List Int) (c : Int) (m : Nat) : rowM T c m = rowZ (T ++ [c]) m := by unfold rowZ rowM; simp
theorem rowZ_end (T : List Int) : rowZ T 0 = T := by unfold rowZ; simp
theorem made_zeros' (N : Nat) (h : 0 < N) : (madeCells (Value.int .i64 0).cells (N * 1)).toList = nflat (rowZ [0] (N - 1)) := by
  have e : rowZ [0] (N - 1) = List.replicate N 0 := by
    unfold rowZ
    obtain ⟨m, rfl⟩ : ∃ m, N = m + 1 := ⟨N - 1, by omega⟩
    rw [Nat.add_sub_cancel, List.replicate_succ]; rfl
  have e2 : ∀ m : Nat, nflat (List.replicate m 0) = List.replicate m (.int .i64 0) := fun m => by
    induction m with
    | zero => rfl
    | succ m ih => rw [List.replicate_succ, List.replicate_succ, ← ih]; rfl
  rw [e, e2, Nat.mul_one]
  exact toList_madeCells_one _ _

set_option maxRecDepth 100000 in
set_option maxHeartbeats 8000000 in
theorem Parts_any (a : Option Addr) (L : List Int) (cap : Nat) (w : World) (hl : L.length ≤ 1000000) (hI : Nums w.heap.size w a L) (hT : Tabs w) :
    Calls Tryd.prog 21 #[.slice a L.length cap] w fun e w' => Hid (∃ v c P, e = .returned (.tuple #[.slice v (P : List LstR).length c, .int .i64 (partsE L)]) ∧ xsOf P = partsX L ∧ Lsts w'.heap.size w' v P ∧ Each w'.heap.size w' P) ∧ Below w.heap.size w w' := by
  have HI := Lib.hid hI
  have HT := Lib.hid hT
  clear hI hT
  have hrest : partsE L ≠ 0 → partsX L = [] := fun h => by unfold partsX; rw [if_neg h]
  have HNO : Hid (∀ w : World, Lsts w.heap.size w none [] ∧ Each w.heap.size w []) := Lib.hid fun w => ⟨Lsts.nil, fun i hi => absurd hi (Nat.not_lt_zero _)⟩
  by_cases hg : givenE L = 0
  · have HG := Lib.hid hg
    have hl2 := (given_small hg).1
    have HAB : Hid (∀ x, x ∈ allS L → -18014398509481984 ≤ x ∧ x ≤ 18014398509481984) := Lib.hid (allS_bound hg)
    have HSU : Hid (∀ w, Nums w.heap.size w a L → Tabs w → Calls Tryd.prog 43 #[.slice a L.length cap] w fun e w' => Hid (∃ g, e = .returned (.slice (some ⟨g, 0, none⟩) (2 ^ L.length) (2 ^ L.length)) ∧ w'.ownsRow w.heap.size 3 1 (.slice (some ⟨g, 0, none⟩) (2 ^ L.length) (2 ^ L.length)) (2 ^ L.length) (nflat (allS L)) ∧ Below w.heap.size w w')) := Lib.hid fun w h1 h2 => sums_any a L cap w hg h1 h2
    have HAN : Hid (∀ {w : World} {base g : Nat}, w.ownsRow base 3 1 (.slice (some ⟨g, 0, none⟩) (2 ^ L.length) (2 ^ L.length)) (2 ^ L.length) (nflat (allS L)) → Nums w.heap.size w (some ⟨g, 0, none⟩) (allS L)) := Lib.hid fun h => all_nums h
    have HAL : Hid ((allS L).length = 2 ^ L.length) := Lib.hid (allS_len L)
    have HAI : Hid (∀ i : Nat, i < 2 ^ L.length → ig (allS L) i = sumN L i) := Lib.hid fun i h => allS_ig L i h
    have h16 : 2 ^ L.length ≤ 65536 := Nat.pow_le_pow_right (by decide) hl2
    have hpos : 0 < 2 ^ L.length := Nat.two_pow_pos _
    have hP1 : sumN L (2 ^ L.length - 1) = 0 → partsE L = 0 ∧ partsX L = (partsS L).map (idxN L.length 0) := fun h => by
      have e : partsE L = 0 := by unfold partsE; rw [if_pos hg, if_pos h]
      exact ⟨e, by unfold partsX; rw [if_pos e]⟩
    have hP2 : sumN L (2 ^ L.length - 1) ≠ 0 → partsE L = 18 := fun h => by unfold partsE; rw [if_pos hg, if_neg h]
    have hPS : partsS L = partsTo L.length (zeroB L) (mostL L) (2 ^ L.length) (2 ^ L.length - 1) := rfl
    have HML : Hid (∀ s, mostL L s = ig (mostTo L (2 ^ L.length - 1)) s) := Lib.hid fun s => rfl
    have HMO : Hid (∀ s, s < 2 ^ L.length → ∃ k : Nat, mostL L s = k ∧ k ≤ s ∧ MostOf (fun s => zeroB L s = true) s k) := Lib.hid (mostL_ok L)
    have HTO : Hid (∀ i, i < 2 ^ L.length → ∀ j, j ≤ i → ∃ k : Nat, ig (mostTo L i) j = k ∧ k ≤ j ∧ MostOf (fun s => zeroB L s = true) j k) := Lib.hid (mostTo_ok L)
    have HLI : Hid (∀ (s : Nat) w, s < 2 ^ L.length → Tabs w → Calls Tryd.prog 45 #[.int .u32 s] w fun e w' => Hid (∃ v, e = .returned v ∧ w'.ownsRow w.heap.size 3 1 v (idxN L.length 0 s).length (nflat (idxN L.length 0 s)) ∧ Below w.heap.size w w')) := Lib.hid fun s w h hT => list_any L.length s hl2 h w hT
    have HBL : Hid (∀ s k : Nat, s < 2 ^ L.length → s.testBit k = true → k < L.length) := Lib.hid fun s k h hk => bit_lt h hk
    have HXL : Hid (∀ s t : Nat, s < 2 ^ L.length → t < 2 ^ L.length → s ^^^ t < 2 ^ L.length) := Lib.hid fun s t h1 h2 => Nat.xor_lt_two_pow h1 h2
    have HPW : Hid (∀ k : Nat, k < L.length → 2 ^ k < 2 ^ L.length) := Lib.hid fun k h => Nat.pow_lt_pow_right (by decide) h
    obtain ⟨i0, hi, hz1, hz2, hz3⟩ := info_parts int_info
    clear hg
    have HMU : Hid (∀ i, mostTo L (i + 1) = mostTo L i ++ [mostE L.length (zeroB L) (ig (mostTo L i)) (i + 1)]) := Lib.hid fun i => rfl
    generalize 2 ^ L.length = N at *
    by_cases hs : sumN L (N - 1) = 0
    · have HP1 := Lib.hid (hP1 hs)
      rw [HP1.out.1, HP1.out.2]
      clear hP1 hP2 hrest
      have HPS := Lib.hid hPS
      clear hPS
      have HZF : Hid (zeroB L (N - 1) = true) := Lib.hid (by unfold zeroB; exact decide_eq_true hs)
      have HS := Lib.hid hs
      clear hs
      go_enter Tryd.func21, Tryd.ntmps21
      go_upto_region 8 with (first
        | (go_at_call 42; (with_reducible refine (given_any _ L _ _ hl HI.out).mono ?_); rintro e w1 ⟨rfl, hb1⟩; rw [HG.out])
        | (go_at_call 43; (with_reducible refine (HSU.out _ (HI.out.grow hb1) (HT.out.grow hb1)).mono ?_); rintro e w2 hx; obtain ⟨g, rfl, hr2, hb2⟩ := hx.out; have HN := Lib.hid (HAN.out hr2); have hb12 := hb1.trans (hb2.mono hb1.size); have y0 : w2.cell? ⟨g, N - 1, none⟩ = some (.int .i64 0) := (by obtain ⟨_, _, e, _, hc⟩ := HN.out (by rw [HAL.out]; exact hpos); cases e; have := hc (N - 1) (by rw [HAL.out]; omega); rw [HAI.out _ (by omega), HS.out] at this; rw [Nat.zero_add] at this; exact this); clear hx hr2))
      have hb2s := hb12.size
      have HT2 := Lib.hid ((HT.out.grow hb12))
      go_wp2_with (at_make; refine wpList_make_full _ rfl _ _ 22 rfl w2.heap.size 3 i0 (.int .i64 0) 1 Tryd.underlying22 hi hz1 hz2 _ _ _ _ N rfl rfl rfl rfl (by rw [hz3]; omega) (by unfold maxLen; omega) (Nat.le_refl _) ?_; intro w3 hown3 hg3; have HD3 := Lib.hid (show w3.ownsRow w2.heap.size 3 1 (.slice (some ⟨w2.heap.size, 0, none⟩) N N) N (nflat (rowZ [0] (N - 1))) by rw [← made_zeros' N hpos]; exact hown3); clear hown3)
      have hb3 : Below w2.heap.size w2 w3 := (Below.refl _ _).grown hg3 (Nat.le_refl _) (fun k e => by cases e)
      clear hg3 hb1 hb2 y0
      obtain ⟨B, hBe⟩ : ∃ B, w2.heap.size = B := ⟨_, rfl⟩
      rw [hBe] at hb2s hb3 HN HD3 ⊢
      have hgB : g < B := by obtain ⟨_, _, e, h, _⟩ := HN.out (by rw [HAL.out]; exact hpos); cases e; exact h
      go_loopw [8] (fun iv wr => ∃ i : Nat, iv = .int .i64 ((i : Int) + 1) ∧ i + 1 ≤ N ∧ Hid (wr.ownsRow B 3 1 (.slice (some ⟨B, 0, none⟩) N N) N (nflat (rowZ (mostTo L i) (N - (i + 1))))) ∧ Below B w2 wr) (fun iv _ => N - (intOf iv).toNat)
      case atStart => exact ⟨0, rfl, by omega, HD3, hb3⟩
      case round =>
        clear HD3 hb3
        obtain ⟨i, rfl, hiN, HR, hB⟩ := hrel
        by_cases hlt : i + 1 < N
        · have g1 : decide ((i : Int) + 1 < N) = true := decide_eq_true (by omega)
          have HR1 : Hid (wr.ownsRow B 3 1 (.slice (some ⟨B, 0, none⟩) N N) N (nflat (rowM (mostTo L i) (maxTo (ig (mostTo L i)) (i + 1) ((idxN L.length 0 (i + 1)).take 0)) (N - (i + 2))))) := Lib.hid (by
            have h := HR.out
            rw [show N - (i + 1) = (N - (i + 2)) + 1 by omega, rowZ_cur] at h
            exact h)
          have HC := Lib.hid (HLI.out (i + 1) wr hlt (HT2.out.grow (by rw [hBe]; exact hB)))
          rw [show ((i + 1 : Nat) : Int) = (i : Int) + 1 by omega] at HC
          have HTL : Hid ((mostTo L i).length = i + 1) := Lib.hid (mostTo_len L i)
          clear HR
          go_upto_region 13 with (go_at_call 45; (with_reducible refine HC.out.mono ?_); rintro e w4 hy; obtain ⟨v, rfl, hr4, hb4⟩ := hy.out; obtain ⟨a4, c4, rfl, _, _, _, _⟩ := num_of_row hr4; have HN4 := Lib.hid hr4; clear hy hr4)
          obtain ⟨ks, hks⟩ : ∃ ks, idxN L.length 0 (i + 1) = ks := ⟨_, rfl⟩
          rw [hks] at HR1 HN4 ⊢
          have HKS := Lib.hid hks
          have hkl : ks.length ≤ 16 := by rw [← hks, idx_len]; have := siz_le L.length (i + 1); omega
          clear hks HC
          have hB4 : Below B w2 w4 := hB.trans (hb4.mono (by have := hB.size; omega))
          have hr4 := ownsRow_below HR1.out hb4
          have HR4 := Lib.hid hr4
          have hwr : B < wr.heap.size := (HR1.out.lt _ rfl).2
          have HN4b := Lib.hid hb4
          clear HR1 hr4
          obtain ⟨B4, hB4e⟩ : ∃ b, wr.heap.size = b := ⟨_, rfl⟩
          rw [hB4e] at HN4 hwr
          go_loopw [47] (fun tv wv => ∃ t : Nat, tv = .int .i64 t ∧ t ≤ ks.length ∧ Hid (wv.ownsRow B 3 1 (.slice (some ⟨B, 0, none⟩) N N) N (nflat (rowM (mostTo L i) (maxTo (ig (mostTo L i)) (i + 1) (ks.take t)) (N - (i + 2))))) ∧ Hid (wv.ownsRow B4 3 1 (.slice a4 ks.length c4) ks.length (nflat ks)) ∧ Below B w2 wv) (fun tv _ => ks.length - (intOf tv).toNat)
          case atStart => exact ⟨0, rfl, by omega, HR4, HN4, hB4⟩
          case round =>
            clear HR4 HN4 hB4
            obtain ⟨t, rfl, ht, HW, HK, hBv⟩ := hrel
            by_cases htl : t < ks.length
            · obtain ⟨g4, rfl, hg4, hg4w⟩ := row_addr HK.out (by omega)
              have c0 : wr.cell? ⟨g4, t, none⟩ = some (.int .i64 (ig ks t)) := by rw [HK.out.cellAt t (by omega), nflat_at ks t htl]
              obtain ⟨kk, ek, hkk, hbit⟩ : ∃ k : Nat, ig ks t = k ∧ k < L.length ∧ (i + 1).testBit k = true := by
                have := idx_at (n := L.length) (i := i + 1) (m := t) (by rw [HKS.out]; exact htl)
                rw [HKS.out] at this
                exact this
              rw [ek] at c0
              have hk16 : kk < 16 := by omega
              obtain ⟨hw1, _, _⟩ := without hbit
              have hjx : (i + 1) ^^^ 2 ^ kk < i + 1 := by
                rw [sub_xor hw1]
                have := Nat.two_pow_pos kk
                omega
              have hpk := HPW.out kk hkk
              have f1 : bits .andNot .i64 ((i : Int) + 1) ((2 ^ kk : Nat) : Int) = (((i + 1) ^^^ 2 ^ kk : Nat) : Int) := by
                have := bits_andNot_i64 (i + 1) (2 ^ kk) (by omega) (by omega) hw1
                rw [show ((i + 1 : Nat) : Int) = (i : Int) + 1 by omega] at this
                exact this
              have f2 : wrap64 (2 ^ kk) = ((2 ^ kk : Nat) : Int) := wrap64_pow hpk h16
              have hst0 : Hid (ks.take (t + 1) = ks.take t ++ [(kk : Int)]) := Lib.hid (by rw [take_snoc htl, ek])
              have HMX : Hid (maxTo (ig (mostTo L i)) (i + 1) (ks.take (t + 1)) = max (maxTo (ig (mostTo L i)) (i + 1) (ks.take t)) (ig (mostTo L i) ((i + 1) ^^^ 2 ^ kk))) := Lib.hid (by rw [hst0.out, maxTo_snoc, Int.toNat_natCast])
              obtain ⟨j, hj⟩ : ∃ j, (i + 1) ^^^ 2 ^ kk = j := ⟨_, rfl⟩
              obtain ⟨p2, hp2⟩ : ∃ p : Int, ((2 ^ kk : Nat) : Int) = p := ⟨_, rfl⟩
              rw [hj] at f1 hjx HMX
              rw [hp2] at f1 f2
              have hlen : (rowM (mostTo L i) (maxTo (ig (mostTo L i)) (i + 1) (ks.take t)) (N - (i + 2))).length = N := by rw [rowM_len, HTL.out]; omega
              have c1 : wr.cell? ⟨B, i + 1, none⟩ = some (.int .i64 (maxTo (ig (mostTo L i)) (i + 1) (ks.take t))) := by
                rw [HW.out.cellAt (i + 1) (by omega), nflat_at _ _ (by omega)]
                have := rowM_cur (mostTo L i) (maxTo (ig (mostTo L i)) (i + 1) (ks.take t)) (N - (i + 2))
                rw [HTL.out] at this
                rw [this]
              have c2 : wr.cell? ⟨B, j, none⟩ = some (.int .i64 (ig (mostTo L i) j)) := by
                rw [HW.out.cellAt j (by omega), nflat_at _ _ (by omega), rowM_old _ _ _ _ (by rw [HTL.out]; exact hjx)]
              obtain ⟨x1, hx1⟩ : ∃ x, maxTo (ig (mostTo L i)) (i + 1) (ks.take t) = x := ⟨_, rfl⟩
              obtain ⟨x2, hx2⟩ : ∃ x, ig (mostTo L i) j = x := ⟨_, rfl⟩
              have hst := HW.out.stored (i + 1) (.int .i64 (max x1 x2))
              rw [← nflat_set, hx1] at hst
              have hset := rowM_set (mostTo L i) x1 (max x1 x2) (N - (i + 2))
              rw [HTL.out] at hset
              rw [hset] at hst
              have HST : Hid ((wr.setCell ⟨B, i + 1, none⟩ (.int .i64 (max x1 x2))).ownsRow B 3 1 (.slice (some ⟨B, 0, none⟩) N N) N (nflat (rowM (mostTo L i) (maxTo (ig (mostTo L i)) (i + 1) (ks.take (t + 1))) (N - (i + 2))))) := Lib.hid (by rw [HMX.out, hx1, hx2]; exact hst.1)
              have hfz := HW.out.frozenAt (i + 1)
              rw [hx1] at c1
              rw [hx2] at c2
              have hBw : B < wr.heap.size := (HW.out.lt _ rfl).2
              have HKN := Lib.hid (ownsRow_setCell_below HK.out (a := ⟨B, i + 1, none⟩) hwr (.int .i64 (max x1 x2)))
              clear hst hset hx1 hx2 hlen hj hp2 hpk hw1 hbit ek
              go_upto_region 15 with (fail)
              go_region
              go_wp2_with fail
              have hBs : Below B w2 (wr.setCell ⟨B, i + 1, none⟩ (.int .i64 (max x1 x2))).drew := (hBv.setCell (show B ≤ (⟨B, i + 1, none⟩ : Addr).block from Nat.le_refl _) _).drew
              go_roundw
              case rel => exact ⟨t + 1, by go_num, by omega, Lib.hid HST.out.drew, Lib.hid HKN.out.drew, hBs⟩
              case measure => simp [intOf]; omega
            · obtain rfl : t = ks.length := by omega
              have HW2 : Hid (wr.ownsRow B 3 1 (.slice (some ⟨B, 0, none⟩) N N) N (nflat (rowM (mostTo L i) (maxTo (ig (mostTo L i)) (i + 1) ks) (N - (i + 2))))) := Lib.hid (by have := HW.out; rwa [List.take_length] at this)
              have HEN : Hid (mostTo L (i + 1) = mostTo L i ++ [maxTo (ig (mostTo L i)) (i + 1) ks + if zeroB L (i + 1) = true then 1 else 0]) := Lib.hid (by rw [HMU.out, ← HKS.out]; rfl)
              obtain ⟨z, hz⟩ : ∃ z, sumN L (i + 1) = z := ⟨_, rfl⟩
              have c3 : wr.cell? ⟨g, i + 1, none⟩ = some (.int .i64 z) := by
                obtain ⟨_, _, e, _, hc⟩ := HN.out (by rw [HAL.out]; exact hpos)
                cases e
                have := hc (i + 1) (by rw [HAL.out]; exact hlt)
                rw [HAI.out _ hlt, hz, Nat.zero_add] at this
                exact (hBv.cell (p := ⟨g, i + 1, none⟩) hgB).trans this
              obtain ⟨k9, e9, hk9, _⟩ := HTO.out (i + 1) hlt (i + 1) (Nat.le_refl _)
              have e10 : ig (mostTo L (i + 1)) (i + 1) = maxTo (ig (mostTo L i)) (i + 1) ks + if zeroB L (i + 1) = true then 1 else 0 := by
                rw [HEN.out]
                have := ig_new (mostTo L i) (maxTo (ig (mostTo L i)) (i + 1) ks + if zeroB L (i + 1) = true then 1 else 0)
                rwa [HTL.out] at this
              obtain ⟨x1, hx1⟩ : ∃ x, maxTo (ig (mostTo L i)) (i + 1) ks = x := ⟨_, rfl⟩
              rw [hx1] at HW2 HEN e10
              have hlen : (rowM (mostTo L i) x1 (N - (i + 2))).length = N := by rw [rowM_len, HTL.out]; omega
              have c1 : wr.cell? ⟨B, i + 1, none⟩ = some (.int .i64 x1) := by
                rw [HW2.out.cellAt (i + 1) (by omega), nflat_at _ _ (by omega)]
                have := rowM_cur (mostTo L i) x1 (N - (i + 2))
                rw [HTL.out] at this
                rw [this]
              have hfz := HW2.out.frozenAt (i + 1)
              have hBw : B < wr.heap.size := (HW2.out.lt _ rfl).2
              by_cases hz0 : z = 0
              · have g2 : (z == 0) = true := beq_iff_eq.2 hz0
                have hzb : zeroB L (i + 1) = true := by unfold zeroB; rw [hz]; exact decide_eq_true hz0
                rw [if_pos hzb] at HEN e10
                have hx9 : 0 ≤ x1 + 1 ∧ x1 + 1 ≤ 65536 := by omega
                have hst := HW2.out.stored (i + 1) (.int .i64 (x1 + 1))
                have hset := rowM_set (mostTo L i) x1 (x1 + 1) (N - (i + 2))
                rw [HTL.out] at hset
                rw [← nflat_set, hset, rowM_done, ← HEN.out] at hst
                have HST : Hid ((wr.setCell ⟨B, i + 1, none⟩ (.int .i64 (x1 + 1))).ownsRow B 3 1 (.slice (some ⟨B, 0, none⟩) N N) N (nflat (rowZ (mostTo L (i + 1)) (N - (i + 1 + 1))))) := Lib.hid hst.1
                have hBs : Below B w2 (wr.setCell ⟨B, i + 1, none⟩ (.int .i64 (x1 + 1))) := hBv.setCell (show B ≤ (⟨B, i + 1, none⟩ : Addr).block from Nat.le_refl _) _
                clear hst hset hx1 hz0 hz hlen e9 e10 hk9 hzb
                go_wp2_with fail
                go_roundw
                case rel => exact ⟨i + 1, by go_num, by omega, HST, hBs⟩
                case measure => simp [intOf]; omega
              · have g2 : (z == 0) = false := beq_eq_false_iff_ne.2 hz0
                have hzb : zeroB L (i + 1) = false := by unfold zeroB; rw [hz]; exact decide_eq_false hz0
                rw [hzb] at HEN
                have HST : Hid (wr.ownsRow B 3 1 (.slice (some ⟨B, 0, none⟩) N N) N (nflat (rowZ (mostTo L (i + 1)) (N - (i + 1 + 1))))) := Lib.hid (by
                  have h1 := HEN.out
                  rw [if_neg (by decide), Int.add_zero] at h1
                  rw [h1, ← rowM_done]
                  exact HW2.out)
                clear hx1 hz0 hz hlen e9 e10 hk9 hzb
                go_wp2_with fail
                go_roundw
                case rel => exact ⟨i + 1, by go_num, by omega, HST, hBv⟩
                case measure => simp [intOf]; omega
        · have hiN1 : i + 1 = N := by omega
          rw [show N - (i + 1) = 0 by omega, rowZ_end] at HR
          rw [show N - 1 = i by omega] at HPS HZF HS HML
          have HQ : Hid (Nums wr.heap.size wr (some ⟨B, 0, none⟩) (mostTo L i)) := Lib.hid (by
            have h := HR.out
            rw [show N = (mostTo L i).length by rw [mostTo_len]; omega] at h
            obtain ⟨a', c', e, _, _, _, hn⟩ := num_of_row h
            simp only [Value.slice.injEq] at e
            rw [e.1]
            exact hn)
          have hBw : B < wr.heap.size := (HR.out.lt _ rfl).2
          have HNB : Hid (Nums B wr (some ⟨g, 0, none⟩) (allS L)) := Lib.hid (HN.out.below hB)
          have HT5 := Lib.hid (HT2.out.grow (by rw [hBe]; exact hB))
          have hbw5 : Below w.heap.size w wr := hb12.trans (hB.mono hb2s)
          have hwb5 := hbw5.size
          have HIN := Lib.hid hiN1
          have g1 : decide ((i : Int) + 1 < N) = false := decide_eq_false (by omega)
          clear HR HN hiN1 hlt
          have HML2 : Hid (∀ s, s < N → ∀ w', Below wr.heap.size wr w' → w'.cell? ⟨B, s, none⟩ = some (.int .i64 (mostL L s))) := Lib.hid fun s hs w' hb => by
            obtain ⟨_, _, e, hlt, hc⟩ := HQ.out (by rw [mostTo_len]; exact Nat.succ_pos _)
            cases e
            have := hc s (by rw [mostTo_len]; have := HIN.out; omega)
            rw [← HML.out, Nat.zero_add] at this
            exact (hb.cell (p := ⟨B, s, none⟩) hlt).trans this
          have HAC : Hid (∀ s, s < N → ∀ w', Below wr.heap.size wr w' → w'.cell? ⟨g, s, none⟩ = some (.int .i64 (sumN L s))) := Lib.hid fun s hs w' hb => by
            obtain ⟨_, _, e, hlt, hc⟩ := HNB.out (by rw [HAL.out]; omega)
            cases e
            have := hc s (by rw [HAL.out]; exact hs)
            rw [HAI.out _ hs, Nat.zero_add] at this
            exact (hb.cell (p := ⟨g, s, none⟩) (show g < wr.heap.size by omega)).trans this
          have HPN : Hid (N = 2 ^ L.length) := HAL.out ▸ Lib.hid (allS_len L)
          clear HQ HNB HML HTO HMU HAI HAB
          go_upto_region 20 with (fail)
          obtain ⟨wm, rfl⟩ : ∃ wm : World, wm = wr := ⟨_, rfl⟩
          go_loopw [6, 11] (fun sv ov wv => ∃ (left f : Nat) (dn : List Nat) (P : List LstR), sv = .int .u32 left ∧ left < N ∧ left ≤ f ∧ P.length + left ≤ 65536 ∧ Hid (zeroB L left = true) ∧ Hid (partsS L = dn ++ partsTo L.length (zeroB L) (mostL L) f left) ∧ Hid (xsOf P = dn.map (idxN L.length 0)) ∧ Hid ((∃ a c, ov = .slice a P.length c) ∧ (ov = .slice none 0 0 ∨ 0 < P.length)) ∧ Hid (wv.ownsRow wm.heap.size 22 1 ov P.length (lflat P)) ∧ Hid (EachZ wv P) ∧ Below wm.heap.size wm wv) (fun sv _ _ => (intOf sv).toNat)
          case atStart =>
            have hh := HIN.out
            exact ⟨i, N, [], [], by first | rfl | (congr 1; omega), by omega, by omega, by simp; omega, HZF, HPS, Lib.hid rfl, Lib.hid ⟨⟨_, _, rfl⟩, .inl rfl⟩, Lib.hid (World.ownsRow_nil _ _ _ _), Lib.hid (fun k hk => absurd hk (Nat.not_lt_zero _)), Below.refl _ _⟩
          case round =>
            obtain ⟨left, f, dn, P, rfl, hli, hlf, hPl, HZ, HD, HX, HV, HR, HE, hB⟩ := hrel
            obtain ⟨⟨av, cv, rfl⟩, hv0⟩ := HV.out
            have HV0 := Lib.hid hv0
            clear hv0
            by_cases hl0 : left = 0
            · have g0 : ((left : Int) != 0) = false := bne_eq_false_iff_eq.2 (by omega)
              have HDE : Hid (partsS L = dn) := Lib.hid (by rw [HD.out, hl0, parts_zero, List.append_nil])
              clear hl0
              go_wp2_with fail
              go_ret2
              refine ⟨Lib.hid ⟨av, cv, P, rfl, by rw [HX.out, HDE.out], ?_, HE.out.each⟩, hbw5.trans (hB.mono hwb5)⟩
              obtain ⟨a9, c9, e9, _, _, _, hn9⟩ := lst_of_row HR.out
              simp only [Value.slice.injEq] at e9
              rw [e9.1]
              exact hn9
            · have g0 : ((left : Int) != 0) = true := bne_iff_ne.2 (by omega)
              have hl16 : left < 65536 := by omega
              obtain ⟨hlow, hb16⟩ := low_two left hl0 hl16
              obtain ⟨b, hbe⟩ : ∃ b, bitLow left = b := ⟨_, rfl⟩
              have HBL2 : Hid (left.testBit b = true) := Lib.hid (by rw [← hbe]; exact bitLow_in hl0)
              rw [hbe] at hlow hb16
              have hb2 : 2 ^ b < 65536 := Nat.lt_of_lt_of_le (Nat.pow_lt_pow_right (by decide) hb16) (by decide)
              have f1 : bits .and .u32 (left : Int) (-(left : Int) % 4294967296) = ((2 ^ b : Nat) : Int) := by
                rw [show -(left : Int) % 4294967296 = (((4294967296 - left) % 4294967296 : Nat) : Int) by omega, u32_and left _ (by omega) (by omega), hlow]
              obtain ⟨lw, hlw⟩ : ∃ lw : Int, ((2 ^ b : Nat) : Int) = lw := ⟨_, rfl⟩
              rw [hlw] at f1
              have HLW : Hid (∀ s : Nat, s < 65536 → (bits .and .u32 (s : Int) lw == 0) = !s.testBit b) := Lib.hid fun s hs => by
                rw [← hlw, u32_and s _ (by omega) (by omega)]
                cases h : s.testBit b
                · exact beq_iff_eq.2 ((and_two s b).2 h)
                · refine beq_eq_false_iff_ne.2 fun e => ?_
                  rw [(and_two s b).1 e] at h
                  cases h
              obtain ⟨f', hf', hpn⟩ := parts_next (n := L.length) (Z := zeroB L) (M := mostL L) hl0 hlf
              rw [hbe] at hpn
              have HPN2 := Lib.hid hpn
              have HPK : Hid (∃ s, s = pick L.length left (condP (zeroB L) (mostL L) b left) ∧ s ≠ 0 ∧ Sub s left ∧ s.testBit b = true ∧ zeroB L s = true ∧ zeroB L (left ^^^ s) = true) := Lib.hid (by
                obtain ⟨m, _, _, hm⟩ := HMO.out left hli
                obtain ⟨s, h1, h2, h3, h4, h5, h6, _⟩ := pick_part (zero_adds L) (M := mostL L) (n := L.length) HBL2.out HZ.out (fun s ss _ => by
                  obtain ⟨k, e, _, hk⟩ := HMO.out s (by have := sub_le ss; omega)
                  exact ⟨k, e, hk⟩) hm
                exact ⟨s, h1, h2, h3, h4, h5, h6⟩)
              have HL0 := Lib.hid hl0
              clear hlow hbe hpn hl0 hlw hb2 hb16
              go_upto_region 24 with (fail)
              obtain ⟨wl, rfl⟩ : ∃ wl : World, wl = wr := ⟨_, rfl⟩
              have hbs := hB.size
              have hCL : ∀ s, condP (zeroB L) (mostL L) b left s = (s.testBit b && (zeroB L s && decide (mostL L (left ^^^ s) = mostL L left - 1))) := fun s => rfl
              have HCL := Lib.hid hCL
              obtain ⟨kl, ekl, hkl2, _⟩ := HMO.out left hli
              have HPKE : Hid (pick L.length left (condP (zeroB L) (mostL L) b left) = (subsD left left left).foldl (pickStep L.length (condP (zeroB L) (mostL L) b left)) 0) := Lib.hid rfl
              generalize condP (zeroB L) (mostL L) b left = cond at *
              obtain ⟨xl, hxl⟩ : ∃ x, mostL L left = x := ⟨_, rfl⟩
              rw [hxl] at ekl
              have HXL2 := Lib.hid hxl
              clear hCL hxl
              go_loopw [13, 14] (fun bv sv wv => ∃ (s f2 p : Nat), sv = .int .u32 s ∧ s ≤ f2 ∧ Hid (Sub s left) ∧ Hid (pick L.length left cond = (subsD left f2 s).foldl (pickStep L.length cond) p) ∧ Hid (BestZ wv L.length p bv) ∧ Below wl.heap.size wl wv) (fun _ sv _ => (intOf sv).toNat)
              case atStart => exact ⟨left, left, 0, rfl, Nat.le_refl _, Lib.hid (fun _ h => h), HPKE, Lib.hid (.inl ⟨rfl, rfl⟩), Below.refl _ _⟩
              case round =>
                obtain ⟨s, f1', p, rfl, hsf, HSU2, HFO, HBZ, hBv⟩ := hrel
                by_cases hs0 : s = 0
                · have g1 : ((s : Int) != 0) = false := bne_eq_false_iff_eq.2 (by omega)
                  have hpp : pick L.length left cond = p := by rw [HFO.out, hs0, subsD_zero]; rfl
                  obtain ⟨p', hp', hp0, hps, _, hpz, hpz2⟩ := HPK.out
                  obtain rfl : p' = p := by rw [hp', hpp]
                  have hpl : p' ≤ left := sub_le hps
                  rcases HBZ.out with ⟨e0, _⟩ | ⟨_, bb, bc, rfl, hnb⟩
                  · exact absurd e0 hp0
                  have HNB := Lib.hid hnb
                  have hRx := ownsRow_below HR.out hBv
                  have HRX := Lib.hid hRx
                  have hkl := idx_pos (n := L.length) (s := p') (by rw [← HPN.out]; omega) hp0
                  have hkl2 : (idxN L.length 0 p').length ≤ 16 := by rw [idx_len]; have := siz_le L.length p'; omega
                  have hxl3 := xor_lt_of hp0 hps
                  have hPl2 : P.length ≤ 1000000 := by omega
                  have hbs2 : wm.heap.size ≤ wr.heap.size := by have := hBv.size; omega
                  have HPP := Lib.hid hpp
                  have HPS2 := Lib.hid hps
                  have HPZ := Lib.hid (And.intro hpz hpz2)
                  have HEZ : Hid (EachZ wr P) := Lib.hid (HE.out.grow hBv)
                  clear hs0 hpp hp' hp0 hps hpz hpz2 hnb hRx HFO HBZ hBe
                  obtain ⟨ks, hks⟩ : ∃ ks, idxN L.length 0 p' = ks := ⟨_, rfl⟩
                  rw [hks] at HNB hkl hkl2 ⊢
                  have HKS := Lib.hid hks
                  clear hks
                  go_upto_region 32 with (at_builtin; refine lst_append rfl _ _ rfl wm.heap.size _ P rfl (HRX.out.alloc _) _ ⟨some ⟨bb, 0, none⟩, ks, bc⟩ rfl (by exact cell_of_row _ _ 0 #[_] _ (0, 0) (heap_alloc_new _ _)) (by omega) (by first | omega | (simp; omega)) ?_; intro v7 w7 hown7 hg7)
                  have hav := HV0.out
                  have HG7 : Hid ((wr.alloc (.cells #[.slice (some ⟨bb, 0, none⟩) ks.length bc] 22)).grownBy w7 (Value.slice av P.length cv).ownBlock) := Lib.hid hg7
                  have HR7 := Lib.hid hown7
                  have hba : Below wr.heap.size wr (wr.alloc (.cells #[.slice (some ⟨bb, 0, none⟩) ks.length bc] 22)) := below_new wr _
                  have HE7 : Hid (EachZ w7 (P ++ [(⟨some ⟨bb, 0, none⟩, ks, bc⟩ : LstR)])) := Lib.hid (by
                    intro j hj
                    by_cases hjl : j < P.length
                    · rw [lg_old _ _ _ hjl]
                      obtain ⟨h1, h2, b9, e9, hn9⟩ := HEZ.out j hjl
                      exact ⟨h1, h2, b9, e9, nums_grown (hn9.grow hba) h1 (HRX.out.alloc _) HG7.out hav⟩
                    · obtain rfl : j = P.length := by simp at hj; omega
                      rw [lg_new]
                      exact ⟨hkl, hkl2, bb, rfl, nums_grown (HNB.out.grow hba) hkl (HRX.out.alloc _) HG7.out hav⟩)
                  have HN7 : Hid (Nums w7.heap.size w7 (some ⟨bb, 0, none⟩) ks) := Lib.hid (nums_grown (HNB.out.grow hba) hkl (HRX.out.alloc _) HG7.out hav)
                  have hB7 : Below wm.heap.size wm w7 := grown_own (HRX.out.alloc _) hg7 ((hB.trans (hBv.mono hbs)).alloc hbs2 _) (by simp; omega) (Nat.le_refl _)
                  have HV7 : Hid (∃ a7 c7, v7 = .slice a7 (P ++ [(⟨some ⟨bb, 0, none⟩, ks, bc⟩ : LstR)]).length c7) := Lib.hid (by
                    obtain ⟨a7, c7, e, _⟩ := lst_of_row hown7
                    exact ⟨a7, c7, e⟩)
                  clear hg7 hown7 hba hav HG7 HNB HEZ HRX
                  go_loop [6, 133] (fun sv tv => ∃ t c : Nat, sv = .int .u32 c ∧ tv = .int .i64 t ∧ t ≤ ks.length ∧ c ≤ left ∧ Hid (∀ j, c.testBit j = (left.testBit j && !decide ((j : Int) ∈ ks.take t)))) (fun _ tv => ks.length - (intOf tv).toNat)
                  case atStart => exact ⟨0, left, rfl, rfl, by omega, Nat.le_refl _, Lib.hid (by simp)⟩
                  case round =>
                    obtain ⟨t, c, rfl, rfl, htl, hcl, HCB⟩ := hrel
                    by_cases hlt5 : t < ks.length
                    · obtain ⟨_, _, e5, hb5, hc5⟩ := HN7.out hkl
                      cases e5
                      have d0 := hc5 t hlt5
                      rw [Nat.zero_add] at d0
                      clear hc5
                      obtain ⟨kk, ek, hkk, _⟩ : ∃ k : Nat, ig ks t = k ∧ k < L.length ∧ p'.testBit k = true := by
                        have := idx_at (n := L.length) (i := p') (m := t) (by rw [HKS.out]; exact hlt5)
                        rw [HKS.out] at this
                        exact this
                      rw [ek] at d0
                      have hk16 : kk < 16 := by omega
                      obtain ⟨d, hd, hdc, hdb⟩ := bits_clear_u32 c kk (by omega) hk16
                      have hpk := HPW.out kk hkk
                      rw [HPN.out] at hpk
                      have hpm := pow_mod hpk (by rw [← HPN.out]; exact h16)
                      have f7 : ((2 : Int) ^ kk % 4294967296) = ((2 ^ kk : Nat) : Int) := by
                        have e : ((2 : Int) ^ kk) = ((2 ^ kk : Nat) : Int) := by simp
                        rw [e]; exact hpm
                      have f8 : bits .andNot .u32 (c : Int) (2 ^ kk % 4294967296) = (d : Int) := by rw [f7]; exact hd
                      have HDB : Hid (∀ j, d.testBit j = (left.testBit j && !decide ((j : Int) ∈ ks.take (t + 1)))) := Lib.hid (by
                        rw [take_snoc hlt5, ek]
                        exact clear_step HCB.out hdb)
                      clear hpk hpm f7 hd ek
                      go_wp2_with fail
                      go_round
                      case rel => exact ⟨t + 1, d, rfl, by go_num, by omega, by omega, HDB⟩
                      case measure => simp [intOf]; omega
                    · obtain rfl : t = ks.length := by omega
                      have hce : c = left ^^^ p' := clear_done (n := L.length) (by rw [← HPN.out]; exact hli) HPS2.out (by
                        have := HCB.out
                        rw [List.take_length] at this
                        rw [HKS.out]
                        exact this)
                      have hclt : c < left := by rw [hce]; exact hxl3
                      have HZ7 : Hid (zeroB L c = true) := Lib.hid (by rw [hce]; exact HPZ.out.2)
                      have HD7 : Hid (partsS L = (dn ++ [p']) ++ partsTo L.length (zeroB L) (mostL L) f' c) := Lib.hid (by
                        rw [HD.out, HPN2.out, HPP.out, hce, List.append_assoc]
                        rfl)
                      have HX7 : Hid (xsOf (P ++ [(⟨some ⟨bb, 0, none⟩, ks, bc⟩ : LstR)]) = (dn ++ [p']).map (idxN L.length 0)) := Lib.hid (by
                        unfold xsOf
                        rw [List.map_append, List.map_append, ← HX.out, List.map_singleton, List.map_singleton, HKS.out]
                        rfl)
                      clear hce
                      go_wp2_with fail
                      go_roundw
                      case rel => exact ⟨c, f', dn ++ [p'], P ++ [(⟨some ⟨bb, 0, none⟩, ks, bc⟩ : LstR)], rfl, by omega, by omega, by simp; omega, HZ7, HD7, HX7, Lib.hid ⟨HV7.out, .inr (by simp)⟩, HR7, HE7, hB7⟩
                      case measure => simp [intOf]; omega
                · have g1 : ((s : Int) != 0) = true := bne_iff_ne.2 (by omega)
                  have hsl : s ≤ left := sub_le HSU2.out
                  have hs16 : s < 65536 := by omega
                  have hsi : s < N := by omega
                  obtain ⟨f2, hf2, hfn⟩ := fold_next (p := p) (n := L.length) (cond := cond) hs0 hsf
                  have HS2 : Hid (Sub ((s - 1) &&& left) left) := Lib.hid (next_sub s left)
                  have hn2 := next_lt (left := left) hs0
                  have f3 : bits .and .u32 ((s : Int) - 1) (left : Int) = (((s - 1) &&& left : Nat) : Int) := by
                    rw [show (s : Int) - 1 = ((s - 1 : Nat) : Int) by omega]
                    exact u32_and (s - 1) left (by omega) (by omega)
                  have HFN : Hid (pick L.length left cond = (subsD left f2 ((s - 1) &&& left)).foldl (pickStep L.length cond) (pickStep L.length cond p s)) := Lib.hid (by rw [HFO.out, hfn])
                  obtain ⟨s2, hs2⟩ : ∃ s2, (s - 1) &&& left = s2 := ⟨_, rfl⟩
                  rw [hs2] at hf2 HS2 hn2 f3 HFN
                  have hBm : Below wm.heap.size wm wr := hB.trans (hBv.mono hbs)
                  have c1 := HAC.out s hsi wr hBm
                  obtain ⟨z, hz⟩ : ∃ z, sumN L s = z := ⟨_, rfl⟩
                  rw [hz] at c1
                  have c2 := HML2.out left hli wr hBm
                  rw [HXL2.out] at c2
                  have hxs : left ^^^ s < N := HXL.out left s hli hsi
                  have c3 := HML2.out (left ^^^ s) hxs wr hBm
                  have f4 : bits .andNot .u32 (left : Int) (s : Int) = ((left ^^^ s : Nat) : Int) := bits_andNot_u32 left s (by omega) (by omega) HSU2.out
                  obtain ⟨x, hx⟩ : ∃ x, left ^^^ s = x := ⟨_, rfl⟩
                  rw [hx] at hxs c3 f4
                  obtain ⟨kx, ekx, hkx, _⟩ := HMO.out x hxs
                  obtain ⟨y, hy⟩ : ∃ y, mostL L x = y := ⟨_, rfl⟩
                  rw [hy] at c3 ekx
                  have f5 := HLW.out s hs16
                  have HCS : Hid (cond s = (s.testBit b && (decide (z = 0) && decide (y = xl - 1)))) := Lib.hid (by
                    rw [HCL.out, hx, hy, HXL2.out]
                    unfold zeroB
                    rw [hz])
                  obtain ⟨tb, htb⟩ : ∃ tb, s.testBit b = tb := ⟨_, rfl⟩
                  rw [htb] at f5 HCS
                  have HS0 := Lib.hid hs0
                  clear hs0 hfn hs2 hz hx hy htb
                  cases tb
                  · have f6 : (bits .and .u32 (s : Int) lw == 0) = true := f5
                    have HFQ : Hid (pick L.length left cond = (subsD left f2 s2).foldl (pickStep L.length cond) p) := Lib.hid (by rw [HFN.out, pick_no (by rw [HCS.out]; rfl)])
                    clear f5
                    go_upto_region 26 with (fail)
                    go_quiet (fail)
                    go_wp2_with fail
                    go_roundw
                    case rel => exact ⟨s2, f2, p, rfl, hf2, HS2, HFQ, Lib.hid (HBZ.out.grow (below_drewN (Below.refl _ _) _)), below_drewN hBv _⟩
                    case measure => simp [intOf]; omega
                  · have f6 : (bits .and .u32 (s : Int) lw == 0) = false := f5
                    clear f5
                    by_cases hz0 : z = 0
                    · have g2 : (z != 0) = false := bne_eq_false_iff_eq.2 hz0
                      by_cases hy0 : y = xl - 1
                      · have g3 : (y != xl - 1) = false := bne_eq_false_iff_eq.2 hy0
                        have HCT : Hid (cond s = true) := Lib.hid (by rw [HCS.out, decide_eq_true hz0, decide_eq_true hy0]; rfl)
                        clear hz0 hy0 HCS
                        have hn1 : ∀ w : World, (binOp .eql 22 (.slice none 0 0) (.slice none 0 0)).run Tryd.prog w = .ok (.bool true) w := fun w => Lib.run_eql_slice_nil w _ _ none 0 0 0 0 Tryd.underlying22
                        have hn2 : ∀ (b n c : Nat) (w : World), (binOp .eql 22 (.slice (some ⟨b, 0, none⟩) n c) (.slice none 0 0)).run Tryd.prog w = .ok (.bool false) w := fun b n c w => Lib.run_eql_slice_nil w _ _ (some ⟨b, 0, none⟩) n c 0 0 Tryd.underlying22
                        rcases HBZ.out with ⟨rfl, rfl⟩ | ⟨hp0, bb, bc, rfl, hnb⟩
                        · have HFQ : Hid (pick L.length left cond = (subsD left f2 s2).foldl (pickStep L.length cond) s) := Lib.hid (by rw [HFN.out, pick_first HCT.out])
                          go_upto_region 26 with (fail)
                          go_quiet (fail)
                          go_wp2_with (go_at_call 45; (with_reducible refine (HLI.out s _ hsi (HT5.out.grow (below_drewN hBm _))).mono ?_); rintro e w6 hy; obtain ⟨v, rfl, hr6, hb6⟩ := hy.out; obtain ⟨g6, e6, _, _⟩ := row_addr' hr6 (idx_pos (n := L.length) (by rw [← HPN.out]; exact hsi) HS0.out); obtain ⟨c6, rfl⟩ := e6; obtain ⟨_, _, e7, _, _, _, hn6⟩ := num_of_row hr6; cases e7; have HN6 := Lib.hid hn6; have hB6 := hBv.trans ((below_drewN (Below.refl _ _) _).trans hb6 |>.mono hBv.size); clear hy hr6 hn6)
                          go_roundw
                          case rel => exact ⟨s2, f2, s, rfl, hf2, HS2, HFQ, Lib.hid (.inr ⟨HS0.out, g6, c6, rfl, HN6.out⟩), hB6⟩
                          case measure => simp [intOf]; omega
                        · have HNB := Lib.hid hnb
                          have HP0 := Lib.hid hp0
                          have HIL : Hid ((idxN L.length 0 s).length ≤ 1000000 ∧ (idxN L.length 0 p).length ≤ 1000000) := Lib.hid (by
                            rw [idx_len, idx_len]
                            have := siz_le L.length s
                            have := siz_le L.length p
                            omega)
                          clear hnb hp0
                          cases heb : earlB (idxN L.length 0 s) (idxN L.length 0 p)
                          · have HEB := Lib.hid heb
                            have HFQ : Hid (pick L.length left cond = (subsD left f2 s2).foldl (pickStep L.length cond) p) := Lib.hid (by rw [HFN.out, pick_late HP0.out heb])
                            clear heb
                            go_upto_region 26 with (fail)
                            go_quiet (fail)
                            go_wp2_with (first
                              | (go_at_call 45; (with_reducible refine (HLI.out s _ hsi (HT5.out.grow (below_drewN hBm _))).mono ?_); rintro e w6 hy; obtain ⟨v, rfl, hr6, hb6⟩ := hy.out; obtain ⟨g6, e6, _, _⟩ := row_addr' hr6 (idx_pos (n := L.length) (by rw [← HPN.out]; exact hsi) HS0.out); obtain ⟨c6, rfl⟩ := e6; obtain ⟨_, _, e7, _, _, _, hn6⟩ := num_of_row hr6; cases e7; have HN6 := Lib.hid hn6; have hB6 := hBv.trans ((below_drewN (Below.refl _ _) _).trans hb6 |>.mono hBv.size); clear hy hr6 hn6)
                              | (go_at_call 46; (with_reducible refine (compare_any _ _ (idxN L.length 0 s) (idxN L.length 0 p) _ _ w6.heap.size _ HN6.out ((HNB.out.grow (below_drewN (Below.refl _ _) nq)).grow hb6) HIL.out.1 HIL.out.2).mono ?_); rintro e w8 ⟨hy, rfl⟩; obtain ⟨cc, rfl, hcc⟩ := hy.out; rw [HEB.out] at hcc; clear hy))
                            go_roundw
                            case rel => exact ⟨s2, f2, p, rfl, hf2, HS2, HFQ, Lib.hid ((HBZ.out.grow (below_drewN (Below.refl _ _) nq)).grow hb6), hB6⟩
                            case measure => simp [intOf]; omega
                          · have HEB := Lib.hid heb
                            have HFQ : Hid (pick L.length left cond = (subsD left f2 s2).foldl (pickStep L.length cond) s) := Lib.hid (by rw [HFN.out, pick_yes HCT.out heb])
                            clear heb
                            go_upto_region 26 with (fail)
                            go_quiet (fail)
                            go_wp2_with (first
                              | (go_at_call 45; (with_reducible refine (HLI.out s _ hsi (HT5.out.grow (below_drewN hBm _))).mono ?_); rintro e w6 hy; obtain ⟨v, rfl, hr6, hb6⟩ := hy.out; obtain ⟨g6, e6, _, _⟩ := row_addr' hr6 (idx_pos (n := L.length) (by rw [← HPN.out]; exact hsi) HS0.out); obtain ⟨c6, rfl⟩ := e6; obtain ⟨_, _, e7, _, _, _, hn6⟩ := num_of_row hr6; cases e7; have HN6 := Lib.hid hn6; have hB6 := hBv.trans ((below_drewN (Below.refl _ _) _).trans hb6 |>.mono hBv.size); clear hy hr6 hn6)
                              | (go_at_call 46; (with_reducible refine (compare_any _ _ (idxN L.length 0 s) (idxN L.length 0 p) _ _ w6.heap.size _ HN6.out ((HNB.out.grow (below_drewN (Below.refl _ _) nq)).grow hb6) HIL.out.1 HIL.out.2).mono ?_); rintro e w8 ⟨hy, rfl⟩; obtain ⟨cc, rfl, hcc⟩ := hy.out; rw [HEB.out] at hcc; clear hy))
                            go_roundw
                            case rel => exact ⟨s2, f2, s, rfl, hf2, HS2, HFQ, Lib.hid (.inr ⟨HS0.out, g6, c6, rfl, HN6.out⟩), hB6⟩
                            case measure => simp [intOf]; omega
                      · have g3 : (y != xl - 1) = true := bne_iff_ne.2 hy0
                        have HFQ : Hid (pick L.length left cond = (subsD left f2 s2).foldl (pickStep L.length cond) p) := Lib.hid (by rw [HFN.out, pick_no (by rw [HCS.out, decide_eq_false hy0]; simp)])
                        clear hz0 hy0
                        go_upto_region 26 with (fail)
                        go_quiet (fail)
                        go_wp2_with fail
                        go_roundw
                        case rel => exact ⟨s2, f2, p, rfl, hf2, HS2, HFQ, Lib.hid (HBZ.out.grow (below_drewN (Below.refl _ _) _)), below_drewN hBv _⟩
                        case measure => simp [intOf]; omega
                    · have g2 : (z != 0) = true := bne_iff_ne.2 hz0
                      have HFQ : Hid (pick L.length left cond = (subsD left f2 s2).foldl (pickStep L.length cond) p) := Lib.hid (by rw [HFN.out, pick_no (by rw [HCS.out, decide_eq_false hz0]; rfl)])
                      clear hz0
                      go_upto_region 26 with (fail)
                      go_quiet (fail)
                      go_wp2_with fail
                      go_roundw
                      case rel => exact ⟨s2, f2, p, rfl, hf2, HS2, HFQ, Lib.hid (HBZ.out.grow (below_drewN (Below.refl _ _) _)), below_drewN hBv _⟩
                      case measure => simp [intOf]; omega
    · have HP := Lib.hid (hP2 hs)
      have HX := Lib.hid (hrest (by rw [HP.out]; decide))
      rw [HP.out, HX.out]
      clear hP1 hP2 hrest
      obtain ⟨z, hz⟩ : ∃ z, sumN L (N - 1) = z := ⟨_, rfl⟩
      rw [hz] at hs
      have HS := Lib.hid hz
      clear hz
      have g0 : (z != 0) = true := bne_iff_ne.2 hs
      clear hs
      go_enter Tryd.func21, Tryd.ntmps21
      go_wp2_with (first
        | (go_at_call 42; (with_reducible refine (given_any _ L _ _ hl HI.out).mono ?_); rintro e w1 ⟨rfl, hb1⟩; rw [HG.out])
        | (go_at_call 43; (with_reducible refine (HSU.out _ (HI.out.grow hb1) (HT.out.grow hb1)).mono ?_); rintro e w2 hx; obtain ⟨g, rfl, hr2, hb2⟩ := hx.out; have HN := Lib.hid (HAN.out hr2); have hb12 := hb1.trans (hb2.mono hb1.size); have y0 : w2.cell? ⟨g, N - 1, none⟩ = some (.int .i64 z) := (by obtain ⟨_, _, e, _, hc⟩ := HN.out (by rw [HAL.out]; exact hpos); cases e; have := hc (N - 1) (by rw [HAL.out]; omega); rw [HAI.out _ (by omega), HS.out] at this; rw [Nat.zero_add] at this; exact this); clear hx hr2))
      go_ret2
      exact ⟨Lib.hid ⟨none, 0, [], rfl, rfl, HNO.out _⟩, hb12⟩
  · have HP : Hid (partsE L = givenE L) := Lib.hid (by unfold partsE; rw [if_neg hg])
    have HX := Lib.hid (hrest (by rw [HP.out]; exact hg))
    rw [HP.out, HX.out]
    have hg1 : (givenE L != 0) = true := bne_iff_ne.2 hg
    have hg2 : (givenE L == 0) = false := beq_eq_false_iff_ne.2 hg
    clear hg hrest
    go_enter Tryd.func21, Tryd.ntmps21
    go_wp2_with (go_at_call 42; (with_reducible refine (given_any _ L _ _ hl HI.out).mono ?_); rintro e w1 ⟨rfl, hb1⟩)
    go_ret2
    exact ⟨Lib.hid ⟨none, 0, [], rfl, rfl, HNO.out _⟩, hb1⟩
end Go.Proofs.YtfiefmhnonddhaaDoor
