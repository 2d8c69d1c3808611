/-
  THE WALK of the law SubsetsPairs: it answers true at every list and number.
-/
import Derived.Test.YtfiefmhnonddhaaDoorPairW
import Derived.Test.YtfiefmhnonddhaaDoorPairCl
namespace Go.Proofs.YtfiefmhnonddhaaDoor
open Go.RowKit Go.Shelf

theorem totalL_partL : ∀ (l : List Int) (s : Nat), totalL (partL l s) = sumN l s
  | [], s => by simp [partL, totalL, sumN]
  | x :: r, s => by
    rw [partL_cons, sumN_cons, ← totalL_partL r (s / 2)]
    split <;> rfl
theorem idx_total (L : List Int) (s : Nat) : totalL ((idxN L.length 0 s).map fun k => ig L k.toNat) = sumN L s := by
  rw [partL_map L 0 s _ fun j hj => by rw [Nat.zero_add, Int.toNat_natCast]; rfl]
  exact totalL_partL L s
theorem totalL_snoc : ∀ (L : List Int) (x : Int), totalL (L ++ [x]) = totalL L + x
  | [], x => by simp [totalL]
  | y :: r, x => by rw [List.cons_append, totalL, totalL, totalL_snoc r x]; omega
theorem found_iff {L : List Int} (hG : givenE L = 0) (sum : Int) : (findE L sum 0 = 0) ↔ sum ∈ sumsP L := by
  unfold findE
  rw [if_pos hG, (sumsP_ok L).2]
  have hs := fst_some L sum 0 (2 ^ L.length)
  have hgd : ∀ s, goodB L sum 0 s = true ↔ sumN L s = sum := fun s => by
    unfold goodB
    rw [decide_eq_true (show (0 : Int) ≤ (sizN L.length s : Nat) by omega), Bool.and_true, decide_eq_true_eq]
  cases hb : (fstTo L sum 0 (2 ^ L.length)).2
  · rw [hb] at hs
    constructor
    · intro h; cases h
    · rintro ⟨s, h1, h2⟩
      have := hs.2 ⟨s, h1, (hgd s).2 h2⟩
      cases this
  · rw [hb] at hs
    obtain ⟨s, h1, h2⟩ := hs.1 rfl
    exact ⟨fun _ => ⟨s, h1, (hgd s).1 h2⟩, fun _ => rfl⟩
theorem found_facts {L : List Int} {sum : Int} (hG : givenE L = 0) (h : findE L sum 0 = 0) : (findX L sum 0).length ≤ 16 ∧ (∀ i, i < (findX L sum 0).length → ∃ k : Nat, ig (findX L sum 0) i = k ∧ k < L.length) ∧ (∀ i, i + 1 < (findX L sum 0).length → ig (findX L sum 0) i < ig (findX L sum 0) (i + 1)) ∧ totalL ((findX L sum 0).map fun k => ig L k.toNat) = sum := by
  unfold findE at h
  rw [if_pos hG] at h
  cases hb : (fstTo L sum 0 (2 ^ L.length)).2
  · rw [hb] at h; cases h
  · have hX : findX L sum 0 = idxN L.length 0 (fstTo L sum 0 (2 ^ L.length)).1 := by unfold findX foundB; rw [hb, hG]; rfl
    obtain ⟨_, hgd⟩ := fst_lt L sum 0 _ hb
    unfold goodB at hgd
    rw [Bool.and_eq_true] at hgd
    have hsum := of_decide_eq_true hgd.1
    have hl := (given_small hG).1
    rw [hX]
    refine ⟨by rw [idx_len]; have := siz_le L.length (fstTo L sum 0 (2 ^ L.length)).1; omega, fun i hi => ?_, fun i hi => lt_ig (idx_asc _ _ _) hi, by rw [idx_total]; exact hsum⟩
    obtain ⟨k, e, hk, _⟩ := idx_at hi
    exact ⟨k, e, hk⟩
theorem pairs_near {L : List Int} (sum x : Int) (hG : givenE L = 0) (hs : -1152921504606846976 ≤ sum ∧ sum ≤ 1152921504606846976) (hx : x ∈ sumsP L) : nearW sum x (nearM L sum) = false := by
  have h1 := near_nearest (allS L) sum (by rw [allS_len]; exact Nat.two_pow_pos _)
  rw [allS_len] at h1
  have hm : ∀ y, y ∈ sumsP L ↔ y ∈ allS L := fun y => ((sumsP_ok L).2 y).trans (allS_mem L y).symm
  have hxa := (hm x).1 hx
  have hb1 := allS_bound hG x hxa
  have hb2 := allS_bound hG _ h1.1
  have h2 := h1.2 x hxa
  unfold nearW
  show decide (farW sum x < farW sum (nearM L sum) ∨ farW sum x = farW sum (nearM L sum) ∧ x < nearM L sum) = false
  have e : nearM L sum = nearTo (allS L) sum (2 ^ L.length) := rfl
  rw [e, farW_is hs hb1, farW_is hs hb2]
  refine decide_eq_false ?_
  omega

theorem ent_pair2 (args : Array Value) (w : World) : (callFunc 37 args).run Tryd.prog w = .ok (.enter 37 args) w := enters_of Tryd.func37 (by kernel_rfl) rfl args w
set_option maxRecDepth 100000 in
set_option maxHeartbeats 16000000 in
theorem lawpairs_law (a : Option Addr) (L : List Int) (cap : Nat) (sum : Int) (w : World) (hI : Nums w.heap.size w a L) (hT : Tabs w) :
    Calls Tryd.prog 8 #[.slice a L.length cap, .int .i64 sum] w fun e w' => e = .returned (.bool true) ∧ Below w.heap.size w w' := by
  have hb0 := below_new w (.cells #[.int .i64 sum] 3)
  have HM : Hid (∀ wr, Below (w.alloc (.cells #[.int .i64 sum] 3)).heap.size (w.alloc (.cells #[.int .i64 sum] 3)) wr → Below w.heap.size w wr) := Lib.hid fun wr h => mono_in _ h
  have x0 : (w.alloc (.cells #[.int .i64 sum] 3)).cell? ⟨w.heap.size, 0, none⟩ = some (.int .i64 sum) := cell_of_row _ _ 0 #[.int .i64 sum] _ (0, 0) (heap_alloc_new _ _)
  have hsz : w.heap.size < (w.alloc (.cells #[.int .i64 sum] 3)).heap.size := by simp
  have HI := Lib.hid (hI.grow hb0)
  have HT := Lib.hid (hT.grow hb0)
  clear hI hT hb0
  by_cases hl : L.length ≤ 10
  · have g0 : decide (10 < (L.length : Int)) = false := decide_eq_false (by omega)
    by_cases hg : givenE L = 0
    · by_cases hs1 : sum < -1152921504606846976
      · have HG := Lib.hid hg
        have g1 : decide (sum < -1152921504606846976) = true := decide_eq_true hs1
        clear hg hs1
        go_enter Tryd.func8, Tryd.ntmps8
        go_upto_region 1 with (fail)
        generalize w.alloc (.cells #[.int .i64 sum] 3) = W0 at *
        go_wp2_with (first
          | (go_at_call 9; (with_reducible refine (awake_any _ HT.out).mono ?_); rintro e w1 ⟨rfl, hb1⟩; have hB := hb1; have hx := (hB.cell (p := ⟨w.heap.size, 0, none⟩) hsz).trans x0)
          | (go_at_call 13; (with_reducible refine (refgiven_any _ L _ W0.heap.size _ (by omega) (HI.out.below hB)).mono ?_); rintro e w5 ⟨rfl, rfl⟩; rw [HG.out]))
        go_ret
        exact ⟨rfl, HM.out _ hB⟩
      · by_cases hs2 : 1152921504606846976 < sum
        · have HG := Lib.hid hg
          have g1 : decide (sum < -1152921504606846976) = false := decide_eq_false hs1
          have g2 : decide (1152921504606846976 < sum) = true := decide_eq_true hs2
          clear hg hs1 hs2
          go_enter Tryd.func8, Tryd.ntmps8
          go_upto_region 1 with (fail)
          generalize w.alloc (.cells #[.int .i64 sum] 3) = W0 at *
          go_wp2_with (first
            | (go_at_call 9; (with_reducible refine (awake_any _ HT.out).mono ?_); rintro e w1 ⟨rfl, hb1⟩; have hB := hb1; have hx := (hB.cell (p := ⟨w.heap.size, 0, none⟩) hsz).trans x0)
            | (go_at_call 13; (with_reducible refine (refgiven_any _ L _ W0.heap.size _ (by omega) (HI.out.below hB)).mono ?_); rintro e w5 ⟨rfl, rfl⟩; rw [HG.out]))
          go_ret
          exact ⟨rfl, HM.out _ hB⟩
        · have HG := Lib.hid hg
          have HP := Lib.hid (sumsP_ok L)
          have h1024 : 2 ^ L.length ≤ 1024 := Nat.pow_le_pow_right (by decide) hl
          have hPl : (sumsP L).length ≤ 1024 := by rw [sumsP_ref]; have := rsums_len L (2 ^ L.length); omega
          have hP0 : (0 : Int) ∈ sumsP L := (HP.out.2 0).2 ⟨0, Nat.two_pow_pos _, sum_zero L⟩
          have hPp : 0 < (sumsP L).length := List.length_pos_of_mem hP0
          have HX : Hid (sumsX L = sumsP L) := Lib.hid (by unfold sumsX; rw [if_pos hg])
          have HPB : Hid (∀ x, x ∈ sumsP L → -18014398509481984 ≤ x ∧ x ≤ 18014398509481984) := Lib.hid fun x hx => allS_bound hg x ((allS_mem L x).2 ((HP.out.2 x).1 hx))
          have HPR : Hid (∀ i, i < (sumsP L).length → ig (sumsP L) i + ig (sumsP L) ((sumsP L).length - 1 - i) = totalL L) := Lib.hid fun i hi => sums_pairs HP.out.1 HP.out.2 i hi
          have HCP : Hid (Lib.compact (sumsP L) = sumsP L) := Lib.hid (compact_lt HP.out.1)
          have HFI := Lib.hid (found_iff hg sum)
          have HNE : Hid (nearE L sum = 0 ∧ nearN L sum = nearM L sum ∧ (nearX L sum).length ≤ L.length) := Lib.hid (by
            have e : nearE L sum = 0 := by unfold nearE; rw [if_pos hg, if_neg (by omega)]
            refine ⟨e, by unfold nearN; rw [if_pos e], ?_⟩
            unfold nearX
            rw [if_pos e, idx_len]
            exact siz_le _ _)
          have HNM : Hid (nearM L sum ∈ sumsP L) := Lib.hid (by
            have h1 := (near_nearest (allS L) sum (by rw [allS_len]; exact Nat.two_pow_pos _)).1
            rw [allS_len] at h1
            exact (HP.out.2 _).2 ((allS_mem L _).1 h1))
          have HNF : Hid (∀ x, x ∈ sumsP L → nearW sum x (nearM L sum) = false) := Lib.hid fun x hx => pairs_near sum x hg (by omega) hx
          have HD0 : Hid (decide ((0 : Int) ∈ sumsP L) = true) := Lib.hid (decide_eq_true hP0)
          have HPS : Hid ((sumsP L).Pairwise (· < ·)) := Lib.hid HP.out.1
          have HTB := Lib.hid (totalL_bound L (small_mem hg))
          have HTC : Hid (∀ n₀ w, Nums n₀ w a L → Calls Tryd.prog 31 #[.slice a L.length cap] w fun e w' => e = .returned (.int .i64 (totalL L)) ∧ w = w') := Lib.hid fun n₀ w h => total_any a L cap n₀ w hg h
          have g1 : decide (sum < -1152921504606846976) = false := decide_eq_false hs1
          have g2 : decide (1152921504606846976 < sum) = false := decide_eq_false hs2
          clear hg hs1 hs2 HP h1024 hP0
          obtain ⟨M, hM⟩ : ∃ M, nearM L sum = M := ⟨_, rfl⟩
          rw [hM] at HNE HNM HNF
          obtain ⟨Y, hY⟩ : ∃ Y, nearX L sum = Y := ⟨_, rfl⟩
          rw [hY] at HNE
          have HYY := Lib.hid hY
          have gy : decide ((L.length : Int) < Y.length) = false := decide_eq_false (by have := HNE.out.2.2; omega)
          have gy2 : decide (L.length < Y.length) = false := decide_eq_false (by have := HNE.out.2.2; omega)
          clear hM hY
          have HDM : Hid (decide (M ∈ sumsP L) = true) := Lib.hid (decide_eq_true HNM.out)
          have HAN : Hid (num_any (sumsP L) (fun x => nearW sum x M) = false) := Lib.hid (by
            rw [num_any_eq]
            exact List.any_eq_false.2 fun x hx => by rw [HNF.out x hx]; decide)
          generalize sumsP L = S at *
          have hS1 : ¬ S = [] := fun e => by rw [e] at hPp; simp at hPp
          have hS2 : ((S.length : Int) == 0) = false := beq_eq_false_iff_ne.2 (by omega)
          have hS3 : ¬ (S.length : Int) = 0 := by omega
          obtain ⟨T, hT⟩ : ∃ T, totalL L = T := ⟨_, rfl⟩
          rw [hT] at HPR HTB HTC
          clear hT
          go_enter Tryd.func8, Tryd.ntmps8
          go_upto_region 1 with (fail)
          generalize w.alloc (.cells #[.int .i64 sum] 3) = W0 at *
          go_upto_region 10 with (first
            | (go_at_call 9; (with_reducible refine (awake_any _ HT.out).mono ?_); rintro e w1 ⟨rfl, hb1⟩; have hB := hb1; have hx := (hB.cell (p := ⟨w.heap.size, 0, none⟩) hsz).trans x0; clear hb1)
            | (go_at_call 13; (with_reducible refine (refgiven_any _ L _ W0.heap.size _ (by omega) (HI.out.below hB)).mono ?_); rintro e w5 ⟨rfl, rfl⟩; rw [HG.out])
            | (go_at_call 20; (with_reducible refine (Sums_any _ L _ _ (by omega) (HI.out.grow hB) (HT.out.grow hB)).mono ?_); rintro e w3 ⟨hy, hb3⟩; obtain ⟨sv, sc, rfl, hsn⟩ := hy.out; rw [HX.out] at hsn; rw [HX.out, HG.out]; have HSN := Lib.hid hsn; replace hB := hB.trans (hb3.mono hB.size); obtain ⟨sb, so, rfl, _, _⟩ := HSN.out hPp; clear hy hsn)
            | (go_at_call 32; (with_reducible refine (sorted_any _ S _ _ _ (Nat.le_refl _) (by omega) HPS.out HSN.out).mono ?_); rintro e w6 ⟨rfl, hb6⟩; replace hB := hB.trans (hb6.mono hB.size); replace HSN := Lib.hid (HSN.out.grow hb6))
            | (go_at_call 18; (with_reducible refine (clone_any _ S _ _ (by omega) (fun e => by cases e) HSN.out).mono ?_); rintro e w7 ⟨hy, hb7⟩; obtain ⟨kv, rfl, hkr⟩ := hy.out; obtain ⟨kg, ⟨kc, rfl⟩, hk1, hk2⟩ := row_addr' hkr hPp; have HKR := Lib.hid hkr; have hBk := hB.size; have HS6 := HSN; replace hB := hB.trans (hb7.mono hB.size); replace HSN := Lib.hid (HSN.out.grow hb7); have HSK := Lib.hid hb7; clear hy hkr)
            | (go_at_call 33; (with_reducible refine (compact_own HKR.out (by omega)).mono ?_); rintro e w8 ⟨rfl, _, hg8⟩; rw [HCP.out]; replace hB := grown_own HKR.out hg8 hB hB.size hBk; have hb68 := grown_own HKR.out hg8 HSK.out HSK.out.size (Nat.le_refl _); replace HSN := Lib.hid (HS6.out.grow hb68); have hx := (hB.cell (p := ⟨w.heap.size, 0, none⟩) hsz).trans x0)
            | (go_at_call 34; (with_reducible refine (contains_any _ S _ 0 _ _ (by omega) HSN.out).mono ?_); rintro e w9 ⟨rfl, rfl⟩; rw [HD0.out])
            | (go_at_call 31; (with_reducible refine (HTC.out W0.heap.size _ (HI.out.below hB)).mono ?_); rintro e w10 ⟨rfl, rfl⟩))
          go_loopw [71] (fun iv wr => ∃ i : Nat, iv = .int .i64 i ∧ i ≤ S.length ∧ Below w8.heap.size w8 wr) (fun iv _ => S.length - (intOf iv).toNat)
          case atStart => exact ⟨0, rfl, Nat.zero_le _, Below.refl _ _⟩
          case round =>
            obtain ⟨i, rfl, hi, hBl⟩ := hrel
            by_cases hlt : i < S.length
            · obtain ⟨b9, o9, e9, hb9, hc9⟩ := HSN.out hPp
              cases e9
              have c1 := (hBl.cell (p := ⟨sb, so + i, none⟩) hb9).trans (hc9 i hlt)
              have c2 := (hBl.cell (p := ⟨sb, so + (S.length - 1 - i), none⟩) hb9).trans (hc9 (S.length - 1 - i) (by omega))
              have hp := HPR.out i hlt
              have hb1' := HPB.out (ig S i) (by rw [ig_eq _ _ hlt]; exact List.getElem_mem hlt)
              have hb2' := HPB.out (ig S (S.length - 1 - i)) (by rw [ig_eq _ _ (show S.length - 1 - i < S.length by omega)]; exact List.getElem_mem _)
              obtain ⟨y, hy⟩ : ∃ y, ig S i = y := ⟨_, rfl⟩
              obtain ⟨z, hz⟩ : ∃ z, ig S (S.length - 1 - i) = z := ⟨_, rfl⟩
              rw [hy] at c1 hp hb1'
              rw [hz] at c2 hp hb2'
              have f1 : IntKind.i64.wrap (y + z) = T := by rw [IntKind.wrap_i64]; omega
              have f2 : ((S.length : Int) - 1 - i).toNat = S.length - 1 - i := by omega
              have f3 : (0 : Int) ≤ (S.length : Int) - 1 - i := by omega
              have f4 : IntKind.i64.wrap ((S.length : Int) - 1) = (S.length : Int) - 1 := by rw [IntKind.wrap_i64]; omega
              have f5 : IntKind.i64.wrap ((S.length : Int) - 1 - i) = (S.length : Int) - 1 - i := by rw [IntKind.wrap_i64]; omega
              have f6 : (S.length : Int) - 1 - i < S.length := by omega
              have f7 : (T != T) = false := bne_eq_false_iff_eq.2 rfl
              clear hc9 hy hz hp hb1' hb2'
              go_upto_region 12 with (fail)
              go_quiet (fail)
              go_wp2_with fail
              go_roundw
              case rel => exact ⟨i + 1, by go_num, by omega, below_drewN hBl _⟩
              case measure => simp [intOf]; omega
            · obtain rfl : i = S.length := by omega
              have hB2 := hB.trans (hBl.mono hB.size)
              replace HSN := Lib.hid (HSN.out.grow hBl)
              have hx2 := (hB2.cell (p := ⟨w.heap.size, 0, none⟩) hsz).trans x0
              obtain ⟨E, hE⟩ : ∃ E, findE L sum 0 = E := ⟨_, rfl⟩
              obtain ⟨X, hX⟩ : ∃ X, findX L sum 0 = X := ⟨_, rfl⟩
              by_cases hf : sum ∈ S
              · have he0 : E = 0 := by rw [← hE]; exact HFI.out.2 hf
                have hff := found_facts HG.out (hE.trans he0)
                rw [hX] at hff
                have HFF := Lib.hid hff
                have HEQ : Hid (findE L sum 0 = 0) := Lib.hid (hE.trans he0)
                have HXE := Lib.hid hX
                have HDS : Hid (decide (sum ∈ S) = true) := Lib.hid (decide_eq_true hf)
                have hXl := hff.1
                clear hE hX hf he0 hff
                go_upto_region 21 with (first
                  | (go_at_call 11; (with_reducible refine (Find_any _ L _ sum _ (by omega) (HI.out.grow hB2) (HT.out.grow hB2)).mono ?_); rintro e w11 ⟨hy, hb11⟩; obtain ⟨xv, xc, rfl, hxn⟩ := hy.out; rw [HXE.out] at hxn; rw [HEQ.out, HXE.out]; replace hB2 := hB2.trans (hb11.mono hB2.size); have hx2 := (hB2.cell (p := ⟨w.heap.size, 0, none⟩) hsz).trans x0; replace HSN := Lib.hid (HSN.out.grow hb11); have HXN := Lib.hid hxn; clear hy hxn)
                  | (go_at_call 34; (with_reducible refine (contains_any _ S _ sum _ _ (by omega) HSN.out).mono ?_); rintro e w12 ⟨rfl, rfl⟩; rw [HDS.out]))
                go_loop [11, 106] (fun nv iv => ∃ (i : Nat) (x : Int), nv = .int .i64 x ∧ iv = .int .i64 i ∧ i ≤ X.length ∧ Hid (x = totalL ((X.take i).map fun k => ig L k.toNat)) ∧ -(1125899906842624 * (i : Int)) ≤ x ∧ x ≤ 1125899906842624 * (i : Int)) (fun _ iv => X.length - (intOf iv).toNat)
                case atStart => exact ⟨0, 0, rfl, rfl, Nat.zero_le _, Lib.hid rfl, by omega, by omega⟩
                case round =>
                  obtain ⟨i, x, rfl, rfl, hi, HXS, hx1, hx2b⟩ := hrel
                  by_cases hlt : i < X.length
                  · obtain ⟨xb, xo, rfl, hxb, hxc⟩ := HXN.out (by omega)
                    have c1 := hxc i hlt
                    obtain ⟨k, ek, hkl⟩ := HFF.out.2.1 i hlt
                    rw [ek] at c1
                    obtain ⟨lb, lo, rfl, hlb, hlc⟩ := HI.out (by omega)
                    have d1 := (hB2.cell (p := ⟨lb, lo + k, none⟩) hlb).trans (hlc k hkl)
                    have hib := (given_small HG.out).2 k hkl
                    obtain ⟨y, hy⟩ : ∃ y, ig L k = y := ⟨_, rfl⟩
                    rw [hy] at d1 hib
                    have HXT : Hid (x + y = totalL ((X.take (i + 1)).map fun k => ig L k.toNat)) := Lib.hid (by
                      rw [take_snoc hlt, List.map_append, List.map_singleton, totalL_snoc, ← HXS.out, ek, Int.toNat_natCast, hy])
                    have hz1 : -(1125899906842624 * ((i + 1 : Nat) : Int)) ≤ x + y ∧ x + y ≤ 1125899906842624 * ((i + 1 : Nat) : Int) := by omega
                    have hw : wrap64 (x + y) = x + y := by unfold wrap64; omega
                    obtain ⟨z, hz⟩ : ∃ z, x + y = z := ⟨_, rfl⟩
                    rw [hz] at HXT hz1 hw
                    have hbz : -9223372036854775808 ≤ z ∧ z < 9223372036854775808 := by omega
                    by_cases hi0 : i = 0
                    · subst hi0
                      rw [Nat.add_zero] at c1
                      clear hlc hxc hy hx1 hx2b hib ek
                      go_wp2_with fail
                      go_round
                      case rel => exact ⟨1, z, rfl, by go_num, by omega, HXT, hz1.1, hz1.2⟩
                      case measure => simp [intOf]; omega
                    · have c2 := hxc (i - 1) (by omega)
                      have hlt2 := HFF.out.2.2.1 (i - 1) (by omega)
                      rw [show i - 1 + 1 = i by omega, ek] at hlt2
                      obtain ⟨v, hv⟩ : ∃ v, ig X (i - 1) = v := ⟨_, rfl⟩
                      rw [hv] at c2 hlt2
                      have g5 : decide ((k : Int) ≤ v) = false := decide_eq_false (by omega)
                      have hi1 : 0 < i := by omega
                      clear hlc hxc hy hx1 hx2b hib ek hv
                      go_wp2_with fail
                      go_round
                      case rel => exact ⟨i + 1, z, rfl, by go_num, by omega, HXT, hz1.1, hz1.2⟩
                      case measure => simp [intOf]; omega
                  · obtain rfl : i = X.length := by omega
                    have hxe : x = sum := by
                      have h1 := HXS.out
                      rw [List.take_length] at h1
                      rw [h1]; exact HFF.out.2.2.2
                    subst hxe
                    have g6 : (x != x) = false := bne_eq_false_iff_eq.2 rfl
                    go_upto_region 30 with (go_at_call 23; (with_reducible refine (Nearest_any _ L _ x _ (by omega) (HI.out.grow hB2) (HT.out.grow hB2)).mono ?_); rintro e w13 ⟨hy, hb13⟩; obtain ⟨yv, yc, rfl, _⟩ := hy.out; rw [HNE.out.1, HNE.out.2.1, HYY.out]; replace hB2 := hB2.trans (hb13.mono hB2.size); have hx2 := (hB2.cell (p := ⟨w.heap.size, 0, none⟩) hsz).trans x0; replace HSN := Lib.hid (HSN.out.grow hb13); clear hy)
                    have hA := below_new w13 (.cells #[.int .i64 M] 3)
                    have y0 : (w13.alloc (.cells #[.int .i64 M] 3)).cell? ⟨w13.heap.size, 0, none⟩ = some (.int .i64 M) := cell_of_row _ _ 0 #[.int .i64 M] _ (0, 0) (heap_alloc_new _ _)
                    have hnz : w13.heap.size < (w13.alloc (.cells #[.int .i64 M] 3)).heap.size := by simp
                    replace HSN := Lib.hid (HSN.out.grow hA)
                    replace hB2 := hB2.trans (hA.mono hB2.size)
                    have hx2 := (hB2.cell (p := ⟨w.heap.size, 0, none⟩) hsz).trans x0
                    generalize w13.alloc (.cells #[.int .i64 M] 3) = w14 at *
                    obtain ⟨nb, hnb⟩ : ∃ nb, w13.heap.size = nb := ⟨_, rfl⟩
                    rw [hnb] at y0 hnz ⊢
                    clear hnb hA hb13
                    go_upto_region 32 with (go_at_call 34; (with_reducible refine (contains_any _ S _ M _ _ (by omega) HSN.out).mono ?_); rintro e w15 ⟨rfl, rfl⟩; rw [HDM.out])
                    go_upto_region 33 with (fail)
                    have hA2 := below_new w14 (.cells #[.func (.func 35) #[] #[.pointer (some ⟨w.heap.size, 0, none⟩)]] 56)
                    have q1 : (w14.alloc (.cells #[.func (.func 35) #[] #[.pointer (some ⟨w.heap.size, 0, none⟩)]] 56)).cell? ⟨w14.heap.size, 0, none⟩ = some (.func (.func 35) #[] #[.pointer (some ⟨w.heap.size, 0, none⟩)]) := cell_of_row _ _ 0 #[_] _ (0, 0) (heap_alloc_new _ _)
                    have q1l : w14.heap.size < (w14.alloc (.cells #[.func (.func 35) #[] #[.pointer (some ⟨w.heap.size, 0, none⟩)]] 56)).heap.size := by simp
                    have q2 := (hA2.cell (p := ⟨nb, 0, none⟩) hnz).trans y0
                    replace hB2 := hB2.trans (hA2.mono hB2.size)
                    have q3 := (hB2.cell (p := ⟨w.heap.size, 0, none⟩) hsz).trans x0
                    replace HSN := Lib.hid (HSN.out.grow hA2)
                    have hnz2 := Nat.lt_of_lt_of_le hnz hA2.size
                    have hsz2 := Nat.lt_of_lt_of_le hsz hB2.size
                    generalize w14.alloc (.cells #[.func (.func 35) #[] #[.pointer (some ⟨w.heap.size, 0, none⟩)]] 56) = w15 at *
                    have HAS : Hid (AsksN 37 #[.pointer (some ⟨w14.heap.size, 0, none⟩), .pointer (some ⟨nb, 0, none⟩)] w15.heap.size w15 (fun q => nearW x q M)) := Lib.hid fun W r hb => nearC_any w14.heap.size nb w.heap.size x M r W ((hb.cell (p := ⟨w14.heap.size, 0, none⟩) q1l).trans q1) ((hb.cell (p := ⟨nb, 0, none⟩) hnz2).trans q2) ((hb.cell (p := ⟨w.heap.size, 0, none⟩) hsz2).trans q3)
                    clear hA2 q1 q1l q2 q3
                    go_wp2_with (go_at_call 36; (with_reducible refine (num_containsFunc _ S _ _ _ _ (fun q => nearW x q M) _ ent_pair2 (by omega) (Nat.le_refl _) HSN.out HAS.out).mono ?_); rintro e w16 ⟨rfl, hb16⟩; rw [HAN.out])
                    go_ret
                    exact ⟨rfl, HM.out _ (hB2.trans (hb16.mono hB2.size))⟩
              · have he0 : E ≠ 0 := by rw [← hE]; exact fun e => hf (HFI.out.1 e)
                have HEQ := Lib.hid hE
                have g3 : (E == 0) = false := beq_eq_false_iff_ne.2 he0
                have g4 : (E != 0) = true := bne_iff_ne.2 he0
                have HDS : Hid (decide (sum ∈ S) = false) := Lib.hid (decide_eq_false hf)
                clear hE hX hf he0
                go_upto_region 29 with (first
                  | (go_at_call 11; (with_reducible refine (Find_any _ L _ sum _ (by omega) (HI.out.grow hB2) (HT.out.grow hB2)).mono ?_); rintro e w11 ⟨hy, hb11⟩; obtain ⟨xv, xc, rfl, hxn⟩ := hy.out; rw [HEQ.out]; replace hB2 := hB2.trans (hb11.mono hB2.size); have hx2 := (hB2.cell (p := ⟨w.heap.size, 0, none⟩) hsz).trans x0; replace HSN := Lib.hid (HSN.out.grow hb11); clear hy hxn)
                  | (go_at_call 34; (with_reducible refine (contains_any _ S _ sum _ _ (by omega) HSN.out).mono ?_); rintro e w12 ⟨rfl, rfl⟩; rw [HDS.out]))
                go_upto_region 30 with (go_at_call 23; (with_reducible refine (Nearest_any _ L _ sum _ (by omega) (HI.out.grow hB2) (HT.out.grow hB2)).mono ?_); rintro e w13 ⟨hy, hb13⟩; obtain ⟨yv, yc, rfl, _⟩ := hy.out; rw [HNE.out.1, HNE.out.2.1, HYY.out]; replace hB2 := hB2.trans (hb13.mono hB2.size); have hx2 := (hB2.cell (p := ⟨w.heap.size, 0, none⟩) hsz).trans x0; replace HSN := Lib.hid (HSN.out.grow hb13); clear hy)
                have hA := below_new w13 (.cells #[.int .i64 M] 3)
                have y0 : (w13.alloc (.cells #[.int .i64 M] 3)).cell? ⟨w13.heap.size, 0, none⟩ = some (.int .i64 M) := cell_of_row _ _ 0 #[.int .i64 M] _ (0, 0) (heap_alloc_new _ _)
                have hnz : w13.heap.size < (w13.alloc (.cells #[.int .i64 M] 3)).heap.size := by simp
                replace HSN := Lib.hid (HSN.out.grow hA)
                replace hB2 := hB2.trans (hA.mono hB2.size)
                have hx2 := (hB2.cell (p := ⟨w.heap.size, 0, none⟩) hsz).trans x0
                generalize w13.alloc (.cells #[.int .i64 M] 3) = w14 at *
                obtain ⟨nb, hnb⟩ : ∃ nb, w13.heap.size = nb := ⟨_, rfl⟩
                rw [hnb] at y0 hnz ⊢
                clear hnb hA hb13
                go_upto_region 32 with (go_at_call 34; (with_reducible refine (contains_any _ S _ M _ _ (by omega) HSN.out).mono ?_); rintro e w15 ⟨rfl, rfl⟩; rw [HDM.out])
                go_upto_region 33 with (fail)
                have hA2 := below_new w14 (.cells #[.func (.func 35) #[] #[.pointer (some ⟨w.heap.size, 0, none⟩)]] 56)
                have q1 : (w14.alloc (.cells #[.func (.func 35) #[] #[.pointer (some ⟨w.heap.size, 0, none⟩)]] 56)).cell? ⟨w14.heap.size, 0, none⟩ = some (.func (.func 35) #[] #[.pointer (some ⟨w.heap.size, 0, none⟩)]) := cell_of_row _ _ 0 #[_] _ (0, 0) (heap_alloc_new _ _)
                have q1l : w14.heap.size < (w14.alloc (.cells #[.func (.func 35) #[] #[.pointer (some ⟨w.heap.size, 0, none⟩)]] 56)).heap.size := by simp
                have q2 := (hA2.cell (p := ⟨nb, 0, none⟩) hnz).trans y0
                replace hB2 := hB2.trans (hA2.mono hB2.size)
                have q3 := (hB2.cell (p := ⟨w.heap.size, 0, none⟩) hsz).trans x0
                replace HSN := Lib.hid (HSN.out.grow hA2)
                have hnz2 := Nat.lt_of_lt_of_le hnz hA2.size
                have hsz2 := Nat.lt_of_lt_of_le hsz hB2.size
                generalize w14.alloc (.cells #[.func (.func 35) #[] #[.pointer (some ⟨w.heap.size, 0, none⟩)]] 56) = w15 at *
                have HAS : Hid (AsksN 37 #[.pointer (some ⟨w14.heap.size, 0, none⟩), .pointer (some ⟨nb, 0, none⟩)] w15.heap.size w15 (fun q => nearW sum q M)) := Lib.hid fun W r hb => nearC_any w14.heap.size nb w.heap.size sum M r W ((hb.cell (p := ⟨w14.heap.size, 0, none⟩) q1l).trans q1) ((hb.cell (p := ⟨nb, 0, none⟩) hnz2).trans q2) ((hb.cell (p := ⟨w.heap.size, 0, none⟩) hsz2).trans q3)
                clear hA2 q1 q1l q2 q3
                go_wp2_with (go_at_call 36; (with_reducible refine (num_containsFunc _ S _ _ _ _ (fun q => nearW sum q M) _ ent_pair2 (by omega) (Nat.le_refl _) HSN.out HAS.out).mono ?_); rintro e w16 ⟨rfl, hb16⟩; rw [HAN.out])
                go_ret
                exact ⟨rfl, HM.out _ (hB2.trans (hb16.mono hB2.size))⟩
    · have HG : Hid ((givenE L != 0) = true ∧ (givenE L == 0) = false) := Lib.hid ⟨bne_iff_ne.2 hg, beq_eq_false_iff_ne.2 hg⟩
      obtain ⟨z, hz⟩ : ∃ z, givenE L = z := ⟨_, rfl⟩
      rw [hz] at HG
      have HZ := Lib.hid hz
      have g1 := HG.out.1
      clear hg hz HG
      go_enter Tryd.func8, Tryd.ntmps8
      go_upto_region 1 with (fail)
      generalize w.alloc (.cells #[.int .i64 sum] 3) = W0 at *
      go_wp2_with (first
        | (go_at_call 9; (with_reducible refine (awake_any _ HT.out).mono ?_); rintro e w1 ⟨rfl, hb1⟩; have hB := hb1; have hx := (hB.cell (p := ⟨w.heap.size, 0, none⟩) hsz).trans x0)
        | (go_at_call 13; (with_reducible refine (refgiven_any _ L _ W0.heap.size _ (by omega) (HI.out.below hB)).mono ?_); rintro e w5 ⟨rfl, rfl⟩; rw [HZ.out]))
      go_ret
      exact ⟨rfl, HM.out _ hB⟩
  · have g0 : decide (10 < (L.length : Int)) = true := decide_eq_true (by omega)
    go_enter Tryd.func8, Tryd.ntmps8
    go_upto_region 1 with (fail)
    generalize w.alloc (.cells #[.int .i64 sum] 3) = W0 at *
    go_wp2_with (go_at_call 9; (with_reducible refine (awake_any _ HT.out).mono ?_); rintro e w1 ⟨rfl, hb1⟩; have hB := hb1; have hx := (hB.cell (p := ⟨w.heap.size, 0, none⟩) hsz).trans x0)
    go_ret
    exact ⟨rfl, HM.out _ hB⟩
end Go.Proofs.YtfiefmhnonddhaaDoor
