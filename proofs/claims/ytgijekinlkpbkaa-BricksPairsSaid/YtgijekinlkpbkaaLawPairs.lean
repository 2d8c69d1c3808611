/-
  THE WALK of the law BricksPairs.
-/
import Derived.Test.YtgijekinlkpbkaaPairsP
import Derived.BigRegion
import Derived.Deep.RegionHeld3
namespace Go.Proofs.Ytgijekinlkpbkaa
open Go.RowKit Go.Shelf
theorem below_new2 (w : World) (o p : Obj) : Below w.heap.size w ((w.alloc o).alloc p) := (below_new w o).alloc (by simp) p
theorem held_next {wr w1 w2 : World} (h : Below wr.heap.size wr w1) (h2 : Below w1.heap.size w1 w2) : Below wr.heap.size wr w2 := h.trans (h2.mono h.size)
theorem below_a {W w : World} (o : Obj) (h : Below W.heap.size W w) : Below W.heap.size W (w.alloc o) := h.alloc h.size o
theorem few_n (a : Option Addr) (M : List BrickR) (n cap : Nat) (w : World) (hn : n = M.length) (h : Bricks w.heap.size w a M) :
    Calls Try.prog 10 #[.slice a n cap] w fun e w' => e = .returned (.bool (fewB M)) ∧ Below w.heap.size w w' := by
  subst hn
  exact few_any a M cap w h
theorem right_n (a : Option Addr) (M : List BrickR) (n cap : Nat) (w : World) (hn : n = M.length) (h : Bricks w.heap.size w a M) :
    Calls Try.prog 14 #[.slice a n cap] w fun e w' => e = .returned (.bool (brickB M)) ∧ Below w.heap.size w w' := by
  subst hn
  exact right_any a M cap w h
theorem sums_n (a : Option Addr) (M : List BrickR) (n cap : Nat) (w : World) (hn : n = M.length) (hcap : n ≤ cap) (hc7 : brickB M = true → countP M ≤ 700) (h : Bricks w.heap.size w a M) :
    Calls Try.prog 18 #[.slice a n cap] w fun e w' => Hid (∃ v, e = .returned (.tuple #[v, .int .i64 (sumsE M)]) ∧ w'.ownsRow w.heap.size 3 1 v (sumsC M).length (nflat (sumsC M))) ∧ Below w.heap.size w w' := by
  subst hn
  exact sums_any a M cap w hcap hc7 h
theorem brick_at {w : World} {base g cap : Nat} {L : List BrickR} (h : w.ownsRow base 38 3 (.slice (some ⟨g, 0, none⟩) L.length cap) L.length (kflat L)) {p : Nat} (hp : p < L.length) : w.cell? ⟨g, p * 3 + 2, none⟩ = some (.int .i64 (bg L p).count) := by
  rw [h.cellAt (p * 3 + 2) (by omega)]
  exact (kflat_at L p hp).2.2
theorem more_row {w : World} {base g cap : Nat} {L : List BrickR} (h : w.ownsRow base 38 3 (.slice (some ⟨g, 0, none⟩) L.length cap) L.length (kflat L)) {m : Nat} (hp : m < L.length) {ct : Int} (hc : (bg L m).count = ct) :
    Bricks (w.setCell ⟨g, m * 3 + 2, none⟩ (.int .i64 (ct + 1))).heap.size (w.setCell ⟨g, m * 3 + 2, none⟩ (.int .i64 (ct + 1))) (some ⟨g, 0, none⟩) (moreL L m) := by
  subst hc
  have h1 := (h.stored (m * 3 + 2) (.int .i64 ((bg L m).count + 1))).1
  rw [moreL_flat hp, ← moreL_len L m] at h1
  obtain ⟨a, c, e, _, _, _, h2⟩ := brick_of_row h1
  cases e
  exact h2
theorem ent_pair (args : Array Value) (w : World) : (callFunc 21 args).run Try.prog w = .ok (.enter 21 args) w := enters_of Try.func21 (by kernel_rfl) rfl args w
set_option maxHeartbeats 4000000 in
theorem pairC_any (bt : Nat) (ta : Option Addr) (T : List Int) (tc : Nat) (n₀ : Nat) (n : Int) (w : World) (hl : T.length ≤ 1100) (q : w.cell? ⟨bt, 0, none⟩ = some (.slice ta T.length tc)) (hT : Nums n₀ w ta T) :
    Calls Try.prog 21 #[.int .i64 n, .pointer (some ⟨bt, 0, none⟩)] w fun e w' => e = .returned (.bool (!num_any T (fun y => decide (y = n)))) ∧ w = w' := by
  have HT := Lib.hid hT
  clear hT
  go_enter Try.func21, Try.ntmps21
  go_wp2_with (go_at_call 22; (with_reducible refine (num_contains _ T _ n _ _ hl HT.out).mono ?_); rintro e w2 ⟨rfl, rfl⟩)
  go_ret
  exact ⟨rfl, rfl⟩
theorem asks_pair {w : World} {bt : Nat} {ta : Option Addr} {T : List Int} {tc : Nat} (hl : T.length ≤ 1100) (hlt : bt < w.heap.size) (q : w.cell? ⟨bt, 0, none⟩ = some (.slice ta T.length tc)) (hT : Nums w.heap.size w ta T) :
    AsksN 21 #[.pointer (some ⟨bt, 0, none⟩)] w.heap.size w (fun n => !num_any T (fun y => decide (y = n))) := by
  intro W r hb
  exact (pairC_any bt ta T tc _ r W hl ((hb.cell (p := ⟨bt, 0, none⟩) hlt).trans q) (hT.below hb)).mono fun e w' ⟨h1, h2⟩ => ⟨h1, by rw [h2]; exact Below.refl _ _⟩
set_option maxRecDepth 100000 in
set_option maxHeartbeats 32000000 in
theorem pairs_law (i : Nat) (a : Option Addr) (L : List BrickR) (cap : Nat) (w : World) (hi : i ≤ 255) (hcap : L.length ≤ cap) (hn : a = none → cap = 0) (hL : Bricks w.heap.size w a L) :
    Calls Try.prog 4 #[.slice a L.length cap, .int .u8 (i : Int)] w fun e w' => e = .returned (.bool true) ∧ Below w.heap.size w w' := by
  have HL := Lib.hid hL
  clear hL
  cases hf : fewB L
  · have HF := Lib.hid hf
    clear hf
    go_enter Try.func4, Try.ntmps4
    go_wp2_with (first
      | (go_at_call 9; (with_reducible refine (awake_any _).mono ?_); rintro e w1 ⟨rfl, hb⟩; have HB := Lib.hid hb; clear hb)
      | (go_at_call 10; (with_reducible refine (few_any _ L _ _ (HL.out.grow HB.out)).mono ?_); rintro e wx ⟨rfl, hb⟩; rw [HF.out]; have HB := Lib.hid (HB.out.trans (hb.mono HB.out.size)); clear hb))
    go_ret
    exact ⟨rfl, HB.out⟩
  have HF := Lib.hid hf
  obtain ⟨hl, h7⟩ := few_ok hf
  cases hb : brickB L
  · have HR := Lib.hid hb
    clear hf hb h7
    go_enter Try.func4, Try.ntmps4
    go_wp2_with (first
      | (go_at_call 9; (with_reducible refine (awake_any _).mono ?_); rintro e w1 ⟨rfl, hb⟩; have HB := Lib.hid hb; clear hb)
      | (go_at_call 10; (with_reducible refine (few_any _ L _ _ (HL.out.grow HB.out)).mono ?_); rintro e wx ⟨rfl, hb⟩; rw [HF.out]; have HB := Lib.hid (HB.out.trans (hb.mono HB.out.size)); clear hb)
      | (go_at_call 14; (with_reducible refine (right_any _ L _ _ (HL.out.grow HB.out)).mono ?_); rintro e wx ⟨rfl, hb⟩; rw [HR.out]; have HB := Lib.hid (HB.out.trans (hb.mono HB.out.size)); clear hb))
    go_ret
    exact ⟨rfl, HB.out⟩
  have HR := Lib.hid hb
  obtain ⟨hl8, _, _, hok⟩ := brick_ok hb
  have H7 := Lib.hid h7
  have hk7 : (sumsP L).length ≤ 700 := Nat.le_trans (sumsP_len L) (h7 hb)
  have hKp : 0 < (sumsP L).length := sumsP_pos hok
  have HK0 := Lib.hid (sums_first hok)
  have hsl := sums_last hok hKp
  obtain ⟨T, hT⟩ : ∃ T, restC L = T := ⟨_, rfl⟩
  obtain ⟨hT0, hT1⟩ := rest_bd hok
  have HTB : Hid (0 ≤ restC L ∧ restC L ≤ 503316480) := Lib.hid ⟨hT0, by omega⟩
  have HSM : Hid (sumsC L = sumsP L ∧ sumsE L = 0) := Lib.hid (by unfold sumsC sumsE; rw [hb]; exact ⟨rfl, rfl⟩)
  have HPR : Hid (∀ j, j < (sumsP L).length → ig (sumsP L) ((sumsP L).length - 1 - j) = T - ig (sumsP L) j) := Lib.hid fun j hj => by rw [sums_pair hj, hT]
  have HLT : Hid (∀ j, j + 1 < (sumsP L).length → ig (sumsP L) j < ig (sumsP L) (j + 1)) := Lib.hid fun j hj => sums_lt (Nat.lt_succ_self _) hj
  have HBD : Hid (∀ j, j < (sumsP L).length → 0 ≤ ig (sumsP L) j ∧ ig (sumsP L) j ≤ 503316480) := Lib.hid fun j hj => sumsP_bd hok hl8 hj
  have HNIL : Hid (L.length = 0 → (sumsP L).length = 1) := Lib.hid fun h => by rw [List.eq_nil_of_length_eq_zero h, sums_zero]; rfl
  have HOK := Lib.hid hok
  rw [hT] at HTB hsl
  obtain ⟨hT0', hT1'⟩ := HTB.out
  have HTR := Lib.hid hT
  obtain ⟨m, hm⟩ : ∃ m, (sumsP L).length - 1 = m := ⟨_, rfl⟩
  have hmK : m < (sumsP L).length := by omega
  have HKL : Hid (ig (sumsP L) m = T) := Lib.hid (by rw [← hm]; exact hsl)
  have z0 : ((sumsP L).length == 0) = false := beq_eq_false_iff_ne.2 (by omega)
  have z00 : (((sumsP L).length : Int) == 0) = false := beq_eq_false_iff_ne.2 (by omega)
  have z1 : ((sumsP L).length : Int) - 1 = (m : Int) := by omega
  have HMM := Lib.hid hm
  generalize hK : sumsP L = K at *
  have HKE := Lib.hid hK
  clear hf hb h7 hok hT hT0 hT1 hsl hm hK HTB
  go_enter Try.func4, Try.ntmps4
  go_wp2_with (first
    | (go_at_call 9; (with_reducible refine (awake_any _).mono ?_); rintro e w1 ⟨rfl, hb⟩; have HB := Lib.hid hb; clear hb)
    | (go_at_call 10; (with_reducible refine (few_any _ L _ _ (HL.out.grow HB.out)).mono ?_); rintro e wx ⟨rfl, hb⟩; rw [HF.out]; have HB := Lib.hid (HB.out.trans (hb.mono HB.out.size)); clear hb)
    | (go_at_call 14; (with_reducible refine (right_any _ L _ _ (HL.out.grow HB.out)).mono ?_); rintro e wx ⟨rfl, hb⟩; rw [HR.out]; have HB := Lib.hid (HB.out.trans (hb.mono HB.out.size)); clear hb)
    | (go_at_call 18; (with_reducible refine (sums_any _ L _ _ hcap H7.out (HL.out.grow HB.out)).mono ?_); rintro e wx ⟨hx, hb⟩; obtain ⟨v, rfl, hv⟩ := hx.out; rw [HSM.out.1] at hv; rw [HSM.out.2]; obtain ⟨sa, sc, rfl, _, _, _, hS⟩ := num_of_row hv; have HK := Lib.hid hS; obtain ⟨sb, so, rfl, hsb, hcs⟩ := hS hKp; have HSB := Lib.hid hsb; have e0 := hcs 0 hKp; have eL := hcs m (by omega); rw [HK0.out, Nat.add_zero] at e0; rw [HKL.out] at eL; have HCS := Lib.hid hcs; have HB := Lib.hid (HB.out.trans (hb.mono HB.out.size)); clear hx hv hS hcs hb hsb))
  go_loop [50] (fun v => ∃ k : Nat, k ≤ K.length ∧ v = .int .i64 k) (fun v => K.length - (intOf v).toNat)
  case atStart => exact ⟨0, Nat.zero_le _, rfl⟩
  case round =>
    obtain ⟨k, hk, rfl⟩ := hrel
    by_cases hlt : k < K.length
    · have e1 := HCS.out k hlt
      have e2 := HCS.out (m - k) (by omega)
      have hpr := HPR.out k hlt
      rw [HMM.out] at hpr
      rw [hpr] at e2
      obtain ⟨x0, x1⟩ := HBD.out k hlt
      have HX : Hid (∀ j, j + 1 = k → ig K j < ig K k) := Lib.hid fun j hj => by subst hj; exact HLT.out j hlt
      obtain ⟨p, hp⟩ : ∃ p, m - k = p := ⟨_, rfl⟩
      rw [hp] at e2
      have z2 : (m : Int) - (k : Int) = (p : Int) := by omega
      have z3 : (p : Int) < K.length := by omega
      have z4 : p < K.length := by omega
      generalize hx : ig K k = x at *
      have g3 : ((T - x) != (T - x)) = false := bne_self_eq_false _
      clear hpr hp hx
      rcases Nat.eq_zero_or_pos k with h0 | h0
      · subst h0
        go_wp2_with fail
        go_round
        case rel => exact ⟨0 + 1, by omega, by go_num⟩
        case measure => simp [intOf]; omega
      · obtain ⟨q, hq⟩ : ∃ q, k - 1 = q := ⟨_, rfl⟩
        have e3 := HCS.out q (by omega)
        have hy := HX.out q (by omega)
        have z5 : (k : Int) - 1 = (q : Int) := by omega
        have g4 : decide (0 < (k : Int)) = true := decide_eq_true (by omega)
        have g5 : decide (0 < k) = true := decide_eq_true h0
        have z6 : (q : Int) < K.length := by omega
        have z7 : q < K.length := by omega
        generalize ig K q = y at *
        have g6 : decide (x ≤ y) = false := decide_eq_false (by omega)
        clear hq
        go_wp2_with fail
        go_round
        case rel => exact ⟨k + 1, by omega, by go_num⟩
        case measure => simp [intOf]; omega
    · obtain rfl : k = K.length := by omega
      by_cases hLz : L.length = 0
      · have g1 : ((L.length : Int) == 0) = true := beq_iff_eq.2 (by omega)
        have g2 : ((K.length : Int) == 1) = true := beq_iff_eq.2 (by have := HNIL.out hLz; omega)
        clear hLz
        go_wp2_with fail
        go_ret
        exact ⟨rfl, HB.out⟩
      · have g1 : ((L.length : Int) == 0) = false := beq_eq_false_iff_ne.2 (by omega)
        have hLp : 0 < L.length := by omega
        obtain ⟨p, hp⟩ : ∃ p, i % L.length = p := ⟨_, rfl⟩
        have hp3 : p < L.length := by rw [← hp]; exact Nat.mod_lt _ hLp
        have g2 : IntKind.i64.wrap (i : Int) = (i : Int) := IntWalk.i64_in _ (by omega)
        have g3 : (i : Int) % (L.length : Int) = (p : Int) := by rw [← hp]; simp
        have g4 : (i : Int).tmod (L.length : Int) = (p : Int) := by rw [Int.tmod_eq_emod_of_nonneg (by omega), g3]
        have hp4 : (p : Int) < L.length := by omega
        obtain ⟨ct, hct⟩ : ∃ c, (bg L p).count = c := ⟨_, rfl⟩
        obtain ⟨wt, hwt⟩ : ∃ c, (bg L p).weight = c := ⟨_, rfl⟩
        have hbg := ok_bg HOK.out hp3
        rw [hct, hwt] at hbg
        obtain ⟨b1, b2, b3, b4⟩ := hbg
        have HCT := Lib.hid hct
        obtain ⟨M, hM⟩ : ∃ M, moreL L p = M := ⟨_, rfl⟩
        have hMn : L.length = M.length := by rw [← hM, moreL_len]
        have HM := Lib.hid hM
        have HA1 : Hid (BrickOK M → num_any (sumsP M) (fun y => decide (y = T + wt)) = true) := Lib.hid fun ok => by
          rw [← hM] at ok ⊢
          exact moreL_all hp3 ok _ (by rw [HTR.out, hwt])
        have HA2 : Hid (num_any K (fun n => !num_any (sumsP M) (fun y => decide (y = n))) = false) := Lib.hid (by rw [← hM, ← HKE.out]; exact moreL_sub p)
        have HWT := Lib.hid hwt
        have HMN := Lib.hid hMn
        clear hp hct hwt hM hLz hMn
        cases hf2 : fewB M
        · have HF2 := Lib.hid hf2
          clear hf2
          go_wp2_with (first
            | (go_at_call 19; (with_reducible refine (brick_clone _ L _ _ (by omega) hn (HL.out.grow HB.out)).mono ?_); rintro e wc hx; obtain ⟨v, rfl, hr, hb⟩ := hx.out; obtain ⟨ma, mc, rfl, hm1, _, _, _⟩ := brick_of_row hr; obtain ⟨g, rfl, hg1, hg2⟩ := row_addr hr hLp; have o1 := brick_at hr hp3; rw [HCT.out] at o1; have o2 := hr.frozenAt (p * 3 + 2); have HM1 := Lib.hid hm1; have HST := Lib.hid (more_row (m := p) hr hp3 HCT.out); rw [HM.out] at HST; have HBS := Lib.hid (hb.setCell (p := ⟨g, p * 3 + 2, none⟩) hg1 (.int .i64 (ct + 1))); have HB := Lib.hid (HB.out.trans (HBS.out.mono HB.out.size)); have HK := Lib.hid (HK.out.grow HBS.out); clear hx hr hb hm1 hg1)
            | (go_at_call 10; (with_reducible refine (few_n _ M _ _ _ HMN.out HST.out).mono ?_); rintro e wx ⟨rfl, hb⟩; rw [HF2.out]; have HST := Lib.hid (HST.out.grow hb); have HK := Lib.hid (HK.out.grow hb); have HB := Lib.hid (HB.out.trans (hb.mono HB.out.size)); clear hb))
          go_ret
          exact ⟨rfl, HB.out⟩
        have HF2 := Lib.hid hf2
        obtain ⟨_, h72⟩ := few_ok hf2
        cases hb2 : brickB M
        · have HR2 := Lib.hid hb2
          clear hf2 hb2 h72
          go_wp2_with (first
            | (go_at_call 19; (with_reducible refine (brick_clone _ L _ _ (by omega) hn (HL.out.grow HB.out)).mono ?_); rintro e wc hx; obtain ⟨v, rfl, hr, hb⟩ := hx.out; obtain ⟨ma, mc, rfl, hm1, _, _, _⟩ := brick_of_row hr; obtain ⟨g, rfl, hg1, hg2⟩ := row_addr hr hLp; have o1 := brick_at hr hp3; rw [HCT.out] at o1; have o2 := hr.frozenAt (p * 3 + 2); have HM1 := Lib.hid hm1; have HST := Lib.hid (more_row (m := p) hr hp3 HCT.out); rw [HM.out] at HST; have HBS := Lib.hid (hb.setCell (p := ⟨g, p * 3 + 2, none⟩) hg1 (.int .i64 (ct + 1))); have HB := Lib.hid (HB.out.trans (HBS.out.mono HB.out.size)); have HK := Lib.hid (HK.out.grow HBS.out); clear hx hr hb hm1 hg1)
            | (go_at_call 10; (with_reducible refine (few_n _ M _ _ _ HMN.out HST.out).mono ?_); rintro e wx ⟨rfl, hb⟩; rw [HF2.out]; have HST := Lib.hid (HST.out.grow hb); have HK := Lib.hid (HK.out.grow hb); have HB := Lib.hid (HB.out.trans (hb.mono HB.out.size)); clear hb)
            | (go_at_call 14; (with_reducible refine (right_n _ M _ _ _ HMN.out HST.out).mono ?_); rintro e wx ⟨rfl, hb⟩; rw [HR2.out]; have HST := Lib.hid (HST.out.grow hb); have HK := Lib.hid (HK.out.grow hb); have HB := Lib.hid (HB.out.trans (hb.mono HB.out.size)); clear hb))
          go_ret
          exact ⟨rfl, HB.out⟩
        have HR2 := Lib.hid hb2
        have H72 := Lib.hid h72
        have hk72 : (sumsP M).length ≤ 700 := Nat.le_trans (sumsP_len M) (h72 hb2)
        have HSM2 : Hid (sumsC M = sumsP M ∧ sumsE M = 0) := Lib.hid (by unfold sumsC sumsE; rw [hb2]; exact ⟨rfl, rfl⟩)
        have HA1' := Lib.hid (HA1.out (brick_ok hb2).2.2.2)
        clear hf2 hb2 h72 HA1
        go_upto_region 23 with (first
          | (go_at_call 19; (with_reducible refine (brick_clone _ L _ _ (by omega) hn (HL.out.grow HB.out)).mono ?_); rintro e wc hx; obtain ⟨v, rfl, hr, hb⟩ := hx.out; obtain ⟨ma, mc, rfl, hm1, _, _, _⟩ := brick_of_row hr; obtain ⟨g, rfl, hg1, hg2⟩ := row_addr hr hLp; have o1 := brick_at hr hp3; rw [HCT.out] at o1; have o2 := hr.frozenAt (p * 3 + 2); have HM1 := Lib.hid hm1; have HST := Lib.hid (more_row (m := p) hr hp3 HCT.out); rw [HM.out] at HST; have HBS := Lib.hid (hb.setCell (p := ⟨g, p * 3 + 2, none⟩) hg1 (.int .i64 (ct + 1))); have HB := Lib.hid (HB.out.trans (HBS.out.mono HB.out.size)); have HK := Lib.hid (HK.out.grow HBS.out); clear hx hr hb hm1 hg1)
          | (go_at_call 10; (with_reducible refine (few_n _ M _ _ _ HMN.out HST.out).mono ?_); rintro e wx ⟨rfl, hb⟩; rw [HF2.out]; have HST := Lib.hid (HST.out.grow hb); have HK := Lib.hid (HK.out.grow hb); have HB := Lib.hid (HB.out.trans (hb.mono HB.out.size)); clear hb)
          | (go_at_call 14; (with_reducible refine (right_n _ M _ _ _ HMN.out HST.out).mono ?_); rintro e wx ⟨rfl, hb⟩; rw [HR2.out]; have HST := Lib.hid (HST.out.grow hb); have HK := Lib.hid (HK.out.grow hb); have HB := Lib.hid (HB.out.trans (hb.mono HB.out.size)); clear hb)
          | (go_at_call 18; (with_reducible refine (sums_n _ M _ _ _ HMN.out HM1.out H72.out HST.out).mono ?_); rintro e wx ⟨hx, hb⟩; obtain ⟨v, rfl, hv⟩ := hx.out; rw [HSM2.out.1] at hv; rw [HSM2.out.2]; obtain ⟨ta, tc, rfl, _, _, _, hS⟩ := num_of_row hv; have HT := Lib.hid hS; have HK := Lib.hid (HK.out.grow hb); have HB := Lib.hid (HB.out.trans (hb.mono HB.out.size)); clear hx hv hS hb))
        obtain ⟨lb, lo, rfl, hlb, hlc⟩ := (HL.out.grow HB.out) hLp
        obtain ⟨_, q2, _⟩ := hlc p hp3
        rw [HWT.out] at q2
        have hT1 : (wx.alloc (.cells #[.slice ta (sumsP M).length tc] 25)).cell? ⟨wx.heap.size, 0, none⟩ = some (.slice ta (sumsP M).length tc) := by go_simp
        have hT2 : (wx.alloc (.cells #[.slice ta (sumsP M).length tc] 25)).cell? ⟨lb, lo + p * 3 + 1, none⟩ = some (.int .i64 wt) := (World.cell?_alloc_lt _ _ _ hlb).trans q2
        have hb0 := below_new wx (.cells #[.slice ta (sumsP M).length tc] 25)
        have hzl : wx.heap.size < (wx.alloc (.cells #[.slice ta (sumsP M).length tc] 25)).heap.size := by simp
        have HT := Lib.hid (HT.out.grow hb0)
        have HK := Lib.hid (HK.out.grow hb0)
        have HB := Lib.hid (HB.out.trans (hb0.mono HB.out.size))
        have hlb2 := Nat.lt_of_lt_of_le hlb hb0.size
        have s1 : IntKind.i64.wrap (T + wt) = T + wt := IntWalk.i64_in _ (by omega)
        have r1 : (L.length : Int) = (M.length : Int) ∨ True := Or.inr trivial
        clear hb0 hlc q2 r1
        generalize hx0 : wx.heap.size = bt at *
        generalize wx.alloc (.cells #[.slice ta (sumsP M).length tc] 25) = W1 at *
        have HS : Hid (∀ w', Below W1.heap.size W1 w' → Below W1.heap.size W1 w' ∧ w'.cell? ⟨bt, 0, none⟩ = some (.slice ta (sumsP M).length tc) ∧ w'.cell? ⟨lb, lo + p * 3 + 1, none⟩ = some (.int .i64 wt)) := Lib.hid fun w' h => ⟨h, (h.cell (p := ⟨bt, 0, none⟩) hzl).trans hT1, (h.cell (p := ⟨lb, lo + p * 3 + 1, none⟩) hlb2).trans hT2⟩
        have HZ := Lib.hid hzl
        have HQ := Lib.hid hT1
        clear hT1 hT2 hx0 hzl hlb hlb2
        have hbr := Below.refl W1.heap.size W1
        have hbd := hbr.drew
        go_region_held3 (fun w' => Below W1.heap.size W1 w' ∧ w'.cell? ⟨bt, 0, none⟩ = some (.slice ta (sumsP M).length tc) ∧ w'.cell? ⟨lb, lo + p * 3 + 1, none⟩ = some (.int .i64 wt))
          (first | exact HS.out _ hbd | (go_split_ands; refine HS.out _ ?_; repeat' (first | assumption | apply below_a | apply Below.drew)))
          (first
            | (go_at_call 20; go_split_ands; (with_reducible refine (num_containsFunc (some ⟨sb, so, none⟩) K sc W1.drew.heap.size 21 #[.pointer (some ⟨bt, 0, none⟩)] (fun n => !num_any (sumsP M) (fun y => decide (y = n))) W1.drew ent_pair ?_ (Nat.le_refl _) ?_ (asks_pair (w := W1.drew) (bt := bt) (ta := ta) (T := sumsP M) (tc := tc) ?_ ?_ ?_ ?_)).mono ?_); (next => omega); (next => exact HK.out.grow hbd); (next => omega); (next => exact Nat.lt_of_lt_of_le HZ.out hbd.size); (next => exact (HS.out _ hbd).2.1); (next => exact HT.out.grow hbd); rintro e yy ⟨rfl, hyy⟩; rw [HA2.out]; have hxx := held_next (wr := W1) hbd hyy)
            | (go_at_call 22; go_split_ands; (with_reducible refine (num_contains ta (sumsP M) tc (T + wt) yy.heap.size yy ?_ ?_).mono ?_); (next => omega); (next => exact HT.out.grow hxx); rintro e yz ⟨rfl, rfl⟩; rw [HA1'.out]))
        all_goals go_wp2_with fail
        all_goals go_ret
        all_goals exact ⟨rfl, HB.out.trans (hxx.mono HB.out.size)⟩
theorem pairs_int (i : Int) (a : Option Addr) (L : List BrickR) (cap : Nat) (w : World) (hi : 0 ≤ i ∧ i ≤ 255) (hcap : L.length ≤ cap) (hn : a = none → cap = 0) (hL : Bricks w.heap.size w a L) :
    Calls Try.prog 4 #[.slice a L.length cap, .int .u8 i] w fun e w' => e = .returned (.bool true) ∧ Below w.heap.size w w' := by
  obtain ⟨n, rfl⟩ := Int.eq_ofNat_of_zero_le hi.1
  exact pairs_law n a L cap w (by omega) hcap hn hL
end Go.Proofs.Ytgijekinlkpbkaa
