/-
  THE WALK of the law SubsetsOrder: it answers true at every list and number.
-/
import Derived.Test.YtfiefmhnonddhaaDoorOrdP
import Derived.Deep.RegionLawGrows
namespace Go.Proofs.YtfiefmhnonddhaaDoor
open Go.RowKit Go.Shelf

theorem reverse_any {w : World} {base cap : Nat} {a : Option Addr} {L : List Int} (h : w.ownsRow base 3 1 (.slice a L.length cap) L.length (nflat L)) (hl : L.length ≤ 1000000) :
    Calls Tryd.prog 19 #[.slice a L.length cap] w fun e w' => e = .returned (.tuple #[]) ∧ w'.ownsRow base 3 1 (.slice a L.length cap) L.length (nflat L.reverse) ∧ w.grownBy w' (Value.slice a L.length cap).ownBlock := by
  cases a with
  | none =>
    have h0 : L.length = 0 := by
      rcases h.2 with ⟨_, h0⟩ | ⟨g, _, _, e, _⟩
      · exact h0
      · cases e
    obtain rfl : L = [] := List.eq_nil_of_length_eq_zero h0
    refine (Tryd.slices_Reverse_int_empty none cap w).mono fun e w' ⟨he, hw⟩ => ⟨he, ?_, ?_⟩
    · rw [hw]; exact h
    · rw [hw]; exact ⟨rfl, rfl, rfl, Nat.le_refl _, fun _ _ _ => rfl⟩
  | some ad =>
    obtain ⟨g, rfl⟩ : ∃ g, ad = ⟨g, 0, none⟩ := by
      rcases h.2 with ⟨e, _⟩ | ⟨g, _, _, e, _⟩
      · cases e
      · cases e; exact ⟨g, rfl⟩
    exact reverse_own h hl
theorem own_nums {w : World} {base n₀ cap : Nat} {a : Option Addr} {L : List Int} (h : w.ownsRow base 3 1 (.slice a L.length cap) L.length (nflat L)) (hb : ∀ g, (Value.slice a L.length cap).ownBlock = some g → g < n₀) : Nums n₀ w a L := fun hl => by
  obtain ⟨g, rfl, _, _⟩ := row_addr h hl
  refine ⟨g, 0, rfl, hb g rfl, fun i hi => ?_⟩
  rw [Nat.zero_add, h.cellAt i (by omega), nflat_at L i hi]

theorem num_appends {ops : Array Oper} {rest : List Oper} {o : Oper} {a : Act} {w : World} {Q : Exit → Act → World → Prop} (hgd : o.guard = none) (s x : Operand)
    (ho : o.op = .call { callee := .builtin .append, args := #[s, x], argTypes := #[22, 22] })
    (base : Nat) (v : Value) (L : List (Int)) (hs : a.eval s = v) (hown : w.ownsRow base 3 1 v L.length (nflat L))
    (ax : Option Addr) (X : List Int) (m cx n₀ : Nat) (hx : a.eval x = .slice ax m cx) (hm : X.length = m) (hnil : ax = none → cx = 0) (hX : Nums n₀ w ax X) (hl : L.length + X.length ≤ 1000000) (hbase : base ≤ w.heap.size)
    (h : ∀ v' w', w'.ownsRow base 3 1 v' (L ++ X).length (nflat (L ++ X)) → w.grownBy w' v.ownBlock → wpList Tryd.prog ops Q rest (a.put o.dst v') w') : wpList Tryd.prog ops Q (o :: rest) a w := by
  subst hm
  obtain ⟨i0, hi, hz0, hz1, hz2⟩ := info_parts num_info
  cases ax with
  | none =>
    obtain rfl : X = [] := List.eq_nil_of_length_eq_zero (by
      rcases Nat.eq_zero_or_pos X.length with h | h
      · exact h
      · obtain ⟨b, off, e, _⟩ := hX h
        cases e)
    obtain rfl := hnil rfl
    refine wpList_append_own_none hgd s x 22 ho base 3 i0 1 Tryd.underlying22 hi v L.length (nflat L) hs hown hx ?_
    refine h v w (by rw [List.append_nil]; exact hown) ⟨rfl, rfl, rfl, Nat.le_refl _, fun _ _ _ => rfl⟩
  | some ad =>
    refine wpList_append_own _ hgd s x 22 ho base 3 i0 _ 1 8 Tryd.underlying22 hi hz0 hz1 hz2 rfl (by decide) v L.length (nflat L) hs hown ad X.length cx (nflat X) hx (by rw [num_len, Nat.mul_one]) (fun j u hj => ?_) (num_one X) (by unfold maxLen; omega) (by omega) hbase ?_
    · have hlt : j < X.length := by
        rw [← num_len]
        exact (List.getElem?_eq_some_iff.1 hj).1
      obtain ⟨b, off, e, _⟩ := hX (by omega)
      cases e
      exact num_cells hX j u hj
    · intro v' w' h1 h2 _
      refine h v' w' ?_ h2
      rw [List.length_append, show nflat (L ++ X) = nflat L ++ nflat X by simp [nflat]]
      exact h1
theorem same_gen (va vb : Option Addr) (P Q : List LstR) (m ca cb : Nat) (w : World) (hp : P.length = m) (hq : Q.length = m) (hm : m ≤ 1000000) (he : xsOf P = xsOf Q) (h1 : Lsts w.heap.size w va P) (h2 : Lsts w.heap.size w vb Q) (h3 : Each w.heap.size w P) (h4 : Each w.heap.size w Q) :
    Calls Tryd.prog 22 #[.slice va m ca, .slice vb m cb] w fun e w' => e = .returned (.bool true) ∧ Below w.heap.size w w' := by
  have := same_any va vb P Q ca cb w (by omega) h1 h2 h3 h4
  rw [hp, hq, decide_eq_true he] at this
  exact this
/-- A list of lists in memory. -/
def PartsIn (w : World) (v : Option Addr) (X : List (List Int)) : Prop := ∃ P : List LstR, xsOf P = X ∧ Lsts w.heap.size w v P ∧ Each w.heap.size w P
theorem PartsIn.grow {w w' : World} {v : Option Addr} {X : List (List Int)} (h : PartsIn w v X) (hb : Below w.heap.size w w') : PartsIn w' v X := by
  obtain ⟨P, h1, h2, h3⟩ := h
  exact ⟨P, h1, h2.grow hb, h3.grow hb⟩
theorem parts_in (a : Option Addr) (L : List Int) (n cap : Nat) (w : World) (hn : L.length = n) (hl : L.length ≤ 1000000) (hI : Nums w.heap.size w a L) (hT : Tabs w) :
    Calls Tryd.prog 21 #[.slice a n cap] w fun e w' => Hid (∃ v c, e = .returned (.tuple #[.slice v (partsX L).length c, .int .i64 (partsE L)]) ∧ PartsIn w' v (partsX L)) ∧ Below w.heap.size w w' := by
  subst hn
  refine (Parts_any a L cap w hl hI hT).mono fun e w' ⟨h, hb⟩ => ⟨?_, hb⟩
  obtain ⟨v, c, P, he, hx, h1, h2⟩ := h.out
  have hlen : P.length = (partsX L).length := by rw [← hx, xsOf_len]
  rw [hlen] at he
  exact Lib.hid ⟨v, c, he, P, hx, h1, h2⟩
theorem sums_in (a : Option Addr) (L : List Int) (n cap : Nat) (w : World) (hn : L.length = n) (hg : givenE L = 0) (hI : Nums w.heap.size w a L) (hT : Tabs w) :
    Calls Tryd.prog 20 #[.slice a n cap] w fun e w' => Hid (∃ v c, e = .returned (.tuple #[.slice v (sumsX L).length c, .int .i64 0]) ∧ Nums w'.heap.size w' v (sumsX L)) ∧ Below w.heap.size w w' := by
  subst hn
  have := Sums_any a L cap w (by have := (given_small hg).1; omega) hI hT
  rw [hg] at this
  exact this

set_option maxRecDepth 100000 in
set_option maxHeartbeats 16000000 in
theorem laworder_law (a : Option Addr) (L : List Int) (cap : Nat) (more : Int) (w : World) (hm : 0 ≤ more ∧ more ≤ 4294967295) (hnil : a = none → cap = 0) (hI : Nums w.heap.size w a L) (hT : Tabs w) :
    Calls Tryd.prog 4 #[.slice a L.length cap, .int .u32 more] w fun e w' => e = .returned (.bool true) ∧ Below w.heap.size w w' := by
  have HI := Lib.hid hI
  have HT := Lib.hid hT
  have HNL := Lib.hid hnil
  clear hI hT hnil
  have hB : Below w.heap.size w w := Below.refl _ _
  by_cases hl : L.length ≤ 8
  · have g0 : decide (8 < (L.length : Int)) = false := decide_eq_false (by omega)
    by_cases hg : givenE L = 0
    · have HG := Lib.hid hg
      have HB := Lib.hid (given_small hg).2
      have HG2 := Lib.hid (given_rev hg)
      have HG3 := Lib.hid (given_neg hg)
      have HG4 := Lib.hid (given_more hg hl hm)
      have HLR : Hid (L.reverse.length = L.length) := Lib.hid List.length_reverse
      have HLN : Hid ((negL L).length = L.length) := Lib.hid (negL_len L)
      have HSX : Hid (sumsX L = sumsP L ∧ sumsX L.reverse = sumsP L ∧ sumsX (negL L) = sumsP (negL L) ∧ (sumsP (negL L)).length = (sumsP L).length ∧ (sumsP L).length ≤ 1100) := Lib.hid (by
        refine ⟨by unfold sumsX; rw [if_pos hg], by unfold sumsX; rw [if_pos HG2.out, sums_rev], by unfold sumsX; rw [if_pos HG3.out], sums_neg_len L, ?_⟩
        rw [sumsP_ref]
        have := rsums_len L (2 ^ L.length)
        have : 2 ^ L.length ≤ 256 := Nat.pow_le_pow_right (by decide) hl
        omega)
      have HPB : Hid (∀ x, x ∈ sumsP (negL L) → -18014398509481984 ≤ x ∧ x ≤ 18014398509481984) := Lib.hid fun x hx => allS_bound HG3.out x ((allS_mem _ x).2 (((sumsP_ok _).2 x).1 hx))
      have HNA : Hid (∀ i, i < (sumsP L).length → ig (sumsP L) i = -ig (sumsP (negL L)) ((sumsP L).length - 1 - i)) := Lib.hid fun i hi => sums_neg_at hi
      have HPR := Lib.hid (parts_rev hg)
      have HPN := Lib.hid (parts_neg hg)
      have HSP : Hid (∀ a b c d w, Nums w.heap.size w a (sumsP L) → Nums w.heap.size w b (sumsP L) → Calls Tryd.prog 15 #[.slice a (sumsP L).length c, .slice b (sumsP L).length d] w fun e w' => e = .returned (.bool true) ∧ Below w.heap.size w w') := Lib.hid fun a b c d w h1 h2 => num_same a b (sumsP L) c d w HSX.out.2.2.2.2 h1 h2
      have HPX : Hid ((partsX L).length ≤ 1000000) := Lib.hid (by
        by_cases hT : totalL L = 0
        · obtain ⟨m, e, hp, _⟩ := parts_most hg hT
          rw [e]
          have h1 : m ≤ 2 ^ L.length := by
            have hz : zeroB L (2 ^ L.length - 1) = true := by unfold zeroB; exact decide_eq_true (by rw [full_total]; exact hT)
            have hpos := Nat.two_pow_pos L.length
            obtain ⟨k, _, hk, hmo⟩ := mostL_ok L (2 ^ L.length - 1) (by omega)
            have := (most_whole (zero_adds L) hz hmo).2 m (by rw [zero_fun]; exact hp)
            omega
          have : 2 ^ L.length ≤ 256 := Nat.pow_le_pow_right (by decide) hl
          omega
        · rw [parts_none hg hT]; simp)
      have HPM : Hid (totalL L = 0 → (partsX L).length + 1 ≤ (partsX (L ++ [more, -more])).length ∧ partsE (L ++ [more, -more]) = 0) := Lib.hid fun hT => parts_more hg HG4.out hT
      have HPE : Hid (partsE L = if totalL L = 0 then 0 else 18) := Lib.hid (partsE_iff hg)
      have HPO : Hid (totalL L ≠ 0 → partsX L = []) := Lib.hid fun h => parts_none hg h
      clear hg
      generalize sumsP L = S at *
      generalize sumsP (negL L) = S3 at *
      go_enter Tryd.func4, Tryd.ntmps4
      go_upto_region 5 with (first
        | (go_at_call 9; (with_reducible refine (awake_any _ HT.out).mono ?_); rintro e w1 ⟨rfl, hb1⟩; replace hB := hb1; clear hb1)
        | (go_at_call 13; (with_reducible refine (refgiven_any _ L _ w.heap.size _ (by omega) (HI.out.below hB)).mono ?_); rintro e w5 ⟨rfl, rfl⟩; rw [HG.out]))
      go_upto_region 6 with (go_at_call 18; (with_reducible refine (clone_any _ L _ _ (by omega) HNL.out (HI.out.grow hB)).mono ?_); first
        | (have hchk := HR5; rintro e w3 ⟨hy, hb3⟩; obtain ⟨v6, rfl, hr6⟩ := hy.out; obtain ⟨a6, c6, rfl, _, _, _, _⟩ := num_of_row hr6; have HR6 := Lib.hid hr6; have HB3 := Lib.hid hb3; replace hB := hB.trans (hb3.mono hB.size); clear hchk hy hr6)
        | (rintro e w2 ⟨hy, hb2⟩; obtain ⟨v5, rfl, hr5⟩ := hy.out; obtain ⟨a5, c5, rfl, _, _, _, _⟩ := num_of_row hr5; have hB1 := hB; have HR5 := Lib.hid hr5; replace hB := hB.trans (hb2.mono hB.size); clear hy hr5))
      have hr5 := ownsRow_below HR5.out HB3.out
      have h5b : ∀ g, (Value.slice a5 L.length c5).ownBlock = some g → g < w2.heap.size := fun g h => (HR5.out.lt g h).2
      have HR5b := Lib.hid hr5
      have H5B := Lib.hid h5b
      clear hr5 h5b
      have hs1 := hB1.size
      have hs2 : w1.heap.size ≤ w2.heap.size := hb2.size
      go_upto_region 8 with (go_at_call 19; (with_reducible refine (reverse_any HR5b.out (by omega)).mono ?_); rintro e w4 ⟨rfl, hr5c, hg4⟩; have HR5c := Lib.hid hr5c; have HG4' := Lib.hid hg4; clear hr5c hg4)
      have hB4 : Below w.heap.size w w4 := grown_own HR5b.out HG4'.out hB hB.size hs1
      have hr6 := HR6.out.kept HG4'.out (by
        cases a6 with
        | none => exact .inl rfl
        | some ad =>
          refine .inr fun e => ?_
          have h1 := (HR6.out.lt _ (show (Value.slice (some ad) L.length c6).ownBlock = _ from rfl)).1
          have h2 := H5B.out _ (by rw [← e]; rfl)
          omega)
      have HR6b := Lib.hid hr6
      have hw24 : w2.heap.size ≤ w4.heap.size := Nat.le_trans HB3.out.size HG4'.out.size
      have HN5 : Hid (Nums w2.heap.size w4 a5 L.reverse) := Lib.hid (by
        have h := HR5c.out
        rw [← HLR.out] at h
        exact own_nums h (by rw [HLR.out]; exact H5B.out))
      have HNI : Hid (Nums w.heap.size w4 a L) := Lib.hid (HI.out.below hB4)
      clear hr6
      obtain ⟨b6, hb6e⟩ : ∃ b, w2.heap.size = b := ⟨_, rfl⟩
      rw [hb6e] at HR6b HN5 hs2 hw24
      have h06 : w.heap.size ≤ b6 := by omega
      clear HR5 HR5b HR5c HR6 H5B HG4' HB3 hb2 hB hB1 hb6e
      go_loopw [41] (fun iv wr => ∃ i : Nat, iv = .int .i64 i ∧ i ≤ L.length ∧ Hid (wr.ownsRow b6 3 1 (.slice a6 L.length c6) L.length (nflat (negTo L i))) ∧ Below b6 w4 wr) (fun iv _ => L.length - (intOf iv).toNat)
      case atStart => exact ⟨0, rfl, Nat.zero_le _, by rw [negTo_zero]; exact HR6b, Below.refl _ _⟩
      case round =>
        clear HR6b
        obtain ⟨i, rfl, hi, HR, hBl⟩ := hrel
        by_cases hlt : i < L.length
        · obtain ⟨g6, rfl, hg6, hg6w⟩ := row_addr HR.out (by omega)
          have c0 : wr.cell? ⟨g6, i, none⟩ = some (.int .i64 (ig L i)) := by
            rw [HR.out.cellAt i (by omega), nflat_at _ _ (by rw [negTo_len]; exact hlt), negTo_at L i i hlt, if_neg (by omega)]
          have hib := HB.out i hlt
          have hst := (HR.out.stored i (.int .i64 (-ig L i))).1
          rw [← nflat_set, negTo_set] at hst
          have hfz := HR.out.frozenAt i
          obtain ⟨y, hy⟩ : ∃ y, ig L i = y := ⟨_, rfl⟩
          rw [hy] at c0 hib hst
          have HST := Lib.hid hst
          have hw : wrap64 (-y) = -y := by unfold wrap64; omega
          clear hst hy
          go_wp2_with fail
          go_roundw
          case rel => exact ⟨i + 1, by go_num, by omega, HST, hBl.setCell (show b6 ≤ (⟨g6, i, none⟩ : Addr).block from hg6) _⟩
          case measure => simp [intOf]; omega
        · obtain rfl : i = L.length := by omega
          rw [negTo_all] at HR
          have HN6 : Hid (Nums wr.heap.size wr a6 (negL L)) := Lib.hid (by
            have h := HR.out
            rw [← HLN.out] at h
            exact own_nums h (fun g hg => (h.lt g hg).2))
          have hB2 : Below w.heap.size w wr := hB4.trans (hBl.mono h06)
          have HNI2 : Hid (Nums wr.heap.size wr a L) := Lib.hid ((HI.out.below hB2).mono hB2.size)
          have HN52 : Hid (Nums wr.heap.size wr a5 L.reverse) := Lib.hid ((HN5.out.below hBl).mono (by have := hBl.size; omega))
          have HTT := Lib.hid (HT.out.grow hB2)
          clear HR HN5 HNI hBl hB4
          go_upto_region 18 with (first
            | (go_at_call 20; (with_reducible refine (sums_in a L _ _ _ rfl HG.out HNI2.out HTT.out).mono ?_); rintro e w21 ⟨hy, hb⟩; obtain ⟨sav, sac, rfl, hn⟩ := hy.out; rw [HSX.out.1] at hn; rw [HSX.out.1]; have SAN := Lib.hid hn; replace HNI2 := Lib.hid (HNI2.out.grow hb); replace HN52 := Lib.hid (HN52.out.grow hb); replace HN6 := Lib.hid (HN6.out.grow hb); replace HTT := Lib.hid (HTT.out.grow hb); replace hB2 := hB2.trans (hb.mono hB2.size); clear hy hn hb)
            | (go_at_call 20; (with_reducible refine (sums_in a5 L.reverse _ _ _ HLR.out HG2.out HN52.out HTT.out).mono ?_); rintro e w22 ⟨hy, hb⟩; obtain ⟨sbv, sbc, rfl, hn⟩ := hy.out; rw [HSX.out.2.1] at hn; rw [HSX.out.2.1]; have SBN := Lib.hid hn; replace HNI2 := Lib.hid (HNI2.out.grow hb); replace HN52 := Lib.hid (HN52.out.grow hb); replace HN6 := Lib.hid (HN6.out.grow hb); replace HTT := Lib.hid (HTT.out.grow hb); replace SAN := Lib.hid (SAN.out.grow hb); replace hB2 := hB2.trans (hb.mono hB2.size); clear hy hn hb)
            | (go_at_call 20; (with_reducible refine (sums_in a6 (negL L) _ _ _ HLN.out HG3.out HN6.out HTT.out).mono ?_); rintro e w23 ⟨hy, hb⟩; obtain ⟨scv, scc, rfl, hn⟩ := hy.out; rw [HSX.out.2.2.1] at hn; rw [HSX.out.2.2.1, HSX.out.2.2.2.1]; have SCN := Lib.hid hn; replace HNI2 := Lib.hid (HNI2.out.grow hb); replace HN52 := Lib.hid (HN52.out.grow hb); replace HN6 := Lib.hid (HN6.out.grow hb); replace HTT := Lib.hid (HTT.out.grow hb); replace SAN := Lib.hid (SAN.out.grow hb); replace SBN := Lib.hid (SBN.out.grow hb); replace hB2 := hB2.trans (hb.mono hB2.size); clear hy hn hb)
            | (go_at_call 15; (with_reducible refine (HSP.out _ _ _ _ _ SAN.out SBN.out).mono ?_); rintro e w24 ⟨rfl, hb⟩; replace HNI2 := Lib.hid (HNI2.out.grow hb); replace HN52 := Lib.hid (HN52.out.grow hb); replace HN6 := Lib.hid (HN6.out.grow hb); replace HTT := Lib.hid (HTT.out.grow hb); replace SAN := Lib.hid (SAN.out.grow hb); replace SBN := Lib.hid (SBN.out.grow hb); replace SCN := Lib.hid (SCN.out.grow hb); replace hB2 := hB2.trans (hb.mono hB2.size); clear hb))
          go_loopw [93] (fun iv wv => ∃ i : Nat, iv = .int .i64 i ∧ i ≤ S.length ∧ Below w24.heap.size w24 wv) (fun iv _ => S.length - (intOf iv).toNat)
          case atStart => exact ⟨0, rfl, Nat.zero_le _, Below.refl _ _⟩
          case round =>
            obtain ⟨i, rfl, hi, hBl⟩ := hrel
            by_cases hlt : i < S.length
            · have hlc := HSX.out.2.2.2.1
              obtain ⟨b8, o8, rfl, hb8, hc8⟩ := SAN.out (by omega)
              obtain ⟨b9, o9, rfl, hb9, hc9⟩ := SCN.out (by omega)
              have c1 := (hBl.cell (p := ⟨b8, o8 + i, none⟩) hb8).trans (hc8 i hlt)
              have c2 := (hBl.cell (p := ⟨b9, o9 + (S.length - 1 - i), none⟩) hb9).trans (hc9 (S.length - 1 - i) (by omega))
              have hp := HNA.out i hlt
              have hb1' := HPB.out (ig S3 (S.length - 1 - i)) (by rw [ig_eq _ _ (show S.length - 1 - i < S3.length by omega)]; exact List.getElem_mem _)
              have hl1100 := HSX.out.2.2.2.2
              obtain ⟨y, hy⟩ : ∃ y, ig S3 (S.length - 1 - i) = y := ⟨_, rfl⟩
              rw [hy] at c2 hp hb1'
              rw [hp] at c1
              have f1 : IntKind.i64.wrap (-y) = -y := by rw [IntKind.wrap_i64]; omega
              have f2 : ((S.length : Int) - 1 - i).toNat = S.length - 1 - i := by omega
              have f3 : (0 : Int) ≤ (S.length : Int) - 1 - i := by omega
              have f4 : IntKind.i64.wrap ((S.length : Int) - 1) = (S.length : Int) - 1 := by rw [IntKind.wrap_i64]; omega
              have f5 : IntKind.i64.wrap ((S.length : Int) - 1 - i) = (S.length : Int) - 1 - i := by rw [IntKind.wrap_i64]; omega
              have f6 : (S.length : Int) - 1 - i < S.length := by omega
              have f7 : (-y != -y) = false := bne_eq_false_iff_eq.2 rfl
              clear hc8 hc9 hy hp hb1' hlc
              go_upto_region 20 with (fail)
              go_quiet (fail)
              go_wp2_with fail
              go_roundw
              case rel => exact ⟨i + 1, by go_num, by omega, below_drewN hBl _⟩
              case measure => simp [intOf]; omega
            · obtain rfl : i = S.length := by omega
              replace HNI2 := Lib.hid (HNI2.out.grow hBl)
              replace HN52 := Lib.hid (HN52.out.grow hBl)
              replace HN6 := Lib.hid (HN6.out.grow hBl)
              replace HTT := Lib.hid (HTT.out.grow hBl)
              replace hB2 := hB2.trans (hBl.mono hB2.size)
              have HSM : Hid (∀ (va vb : Option Addr) (ca cb : Nat) (w : World), PartsIn w va (partsX L) → PartsIn w vb (partsX L) → Calls Tryd.prog 22 #[.slice va (partsX L).length ca, .slice vb (partsX L).length cb] w fun e w' => e = .returned (.bool true) ∧ Below w.heap.size w w') := Lib.hid fun va vb ca cb w ⟨P, h1, h2, h3⟩ ⟨Q, k1, k2, k3⟩ =>
                same_gen va vb P Q _ ca cb w (by rw [← h1, xsOf_len]) (by rw [← k1, xsOf_len]) HPX.out (h1.trans k1.symm) h2 k2 h3 k3
              clear SAN SBN SCN hBl
              by_cases hT0 : totalL L = 0
              · have HEZ : Hid (partsE L = 0) := Lib.hid (by rw [HPE.out, if_pos hT0])
                have HPM2 := Lib.hid (HPM.out hT0)
                have gm1 := HPX.out
                have gm2 : decide ((partsX L).length + 1 ≤ (partsX (L ++ [more, -more])).length) = true := decide_eq_true HPM2.out.1
                have gm3 : decide (((partsX L).length : Int) + 1 ≤ (partsX (L ++ [more, -more])).length) = true := decide_eq_true (by have := HPM2.out.1; omega)
                clear hT0
                go_wp2_with (first
                  | (go_at_call 21; (with_reducible refine (parts_in a L _ _ _ rfl (by omega) HNI2.out HTT.out).mono ?_); rintro e w31 ⟨hy, hb⟩; obtain ⟨pav, pac, rfl, hn⟩ := hy.out; rw [HEZ.out]; have PAN := Lib.hid hn; replace HNI2 := Lib.hid (HNI2.out.grow hb); replace HN52 := Lib.hid (HN52.out.grow hb); replace HN6 := Lib.hid (HN6.out.grow hb); replace HTT := Lib.hid (HTT.out.grow hb); replace hB2 := hB2.trans (hb.mono hB2.size); clear hy hn hb)
                  | (go_at_call 21; (with_reducible refine (parts_in a5 L.reverse _ _ _ HLR.out (by rw [HLR.out]; omega) HN52.out HTT.out).mono ?_); rintro e w32 ⟨hy, hb⟩; obtain ⟨pbv, pbc, rfl, _⟩ := hy.out; rw [HPR.out.1, HPR.out.2, HEZ.out]; replace HNI2 := Lib.hid (HNI2.out.grow hb); replace HN52 := Lib.hid (HN52.out.grow hb); replace HN6 := Lib.hid (HN6.out.grow hb); replace HTT := Lib.hid (HTT.out.grow hb); replace PAN := Lib.hid (PAN.out.grow hb); replace hB2 := hB2.trans (hb.mono hB2.size); clear hy hb)
                  | (go_at_call 21; (with_reducible refine (parts_in a6 (negL L) _ _ _ HLN.out (by rw [HLN.out]; omega) HN6.out HTT.out).mono ?_); rintro e w33 ⟨hy, hb⟩; obtain ⟨pcv, pcc, rfl, hn⟩ := hy.out; rw [HPN.out.1] at hn; rw [HPN.out.1, HPN.out.2, HEZ.out]; have PCN := Lib.hid hn; replace HNI2 := Lib.hid (HNI2.out.grow hb); replace HN52 := Lib.hid (HN52.out.grow hb); replace HN6 := Lib.hid (HN6.out.grow hb); replace HTT := Lib.hid (HTT.out.grow hb); replace PAN := Lib.hid (PAN.out.grow hb); replace hB2 := hB2.trans (hb.mono hB2.size); clear hy hn hb)
                  | (go_at_call 22; (with_reducible refine (HSM.out _ _ _ _ _ PAN.out PCN.out).mono ?_); rintro e w34 ⟨rfl, hb⟩; replace HNI2 := Lib.hid (HNI2.out.grow hb); replace HN52 := Lib.hid (HN52.out.grow hb); replace HN6 := Lib.hid (HN6.out.grow hb); replace HTT := Lib.hid (HTT.out.grow hb); replace PAN := Lib.hid (PAN.out.grow hb); replace hB2 := hB2.trans (hb.mono hB2.size); clear hb)
                  | (go_at_call 18; (with_reducible refine (clone_any _ L _ _ (by omega) HNL.out HNI2.out).mono ?_); rintro e w35 ⟨hy, hbc⟩; obtain ⟨v9, rfl, hr9⟩ := hy.out; have HR9 := Lib.hid hr9; have hbcs := hbc.size; clear hy hr9)
                  | (at_builtin; refine num_appends rfl _ _ rfl w34.heap.size _ L rfl (HR9.out.alloc _) _ [more, -more] 2 2 _ rfl rfl (fun e => by cases e) (nums_new _ 2 [more, -more] _ rfl (by intro i hi; match i, hi with | 0, _ => rfl | 1, _ => rfl) _) (by simp; omega) (by simp; omega) ?_; intro v37 w37 hown37 hg37; have hb37 := grown_own (HR9.out.alloc _) hg37 (hbc.alloc hbcs _) (by simp; omega) (Nat.le_refl _); obtain ⟨a37, c37, rfl, _, _, _, hn37⟩ := num_of_row hown37; have HN37 := Lib.hid hn37; replace HTT := Lib.hid (HTT.out.grow hb37); replace hB2 := hB2.trans (hb37.mono hB2.size); clear hown37 hg37 hn37)
                  | (go_at_call 21; (with_reducible refine (parts_in a37 (L ++ [more, -more]) _ _ _ (by simp) (by simp; omega) HN37.out HTT.out).mono ?_); rintro e w38 ⟨hy, hb⟩; obtain ⟨pdv, pdc, rfl, _⟩ := hy.out; rw [HPM2.out.2]; replace hB2 := hB2.trans (hb.mono hB2.size); clear hy hb))
                go_ret
                exact ⟨rfl, hB2⟩
              · have HEZ : Hid (partsE L = 18) := Lib.hid (by rw [HPE.out, if_neg hT0])
                have HPO2 := Lib.hid (HPO.out hT0)
                rw [HPO2.out, List.length_nil] at HSM
                clear hT0
                go_wp2_with (first
                  | (go_at_call 21; (with_reducible refine (parts_in a L _ _ _ rfl (by omega) HNI2.out HTT.out).mono ?_); rintro e w31 ⟨hy, hb⟩; obtain ⟨pav, pac, rfl, hn⟩ := hy.out; rw [HPO2.out] at hn; rw [HEZ.out, HPO2.out]; have PAN := Lib.hid hn; replace HNI2 := Lib.hid (HNI2.out.grow hb); replace HN52 := Lib.hid (HN52.out.grow hb); replace HN6 := Lib.hid (HN6.out.grow hb); replace HTT := Lib.hid (HTT.out.grow hb); replace hB2 := hB2.trans (hb.mono hB2.size); clear hy hn hb)
                  | (go_at_call 21; (with_reducible refine (parts_in a5 L.reverse _ _ _ HLR.out (by rw [HLR.out]; omega) HN52.out HTT.out).mono ?_); rintro e w32 ⟨hy, hb⟩; obtain ⟨pbv, pbc, rfl, _⟩ := hy.out; rw [HPR.out.1, HPR.out.2, HEZ.out, HPO2.out]; replace HNI2 := Lib.hid (HNI2.out.grow hb); replace HN52 := Lib.hid (HN52.out.grow hb); replace HN6 := Lib.hid (HN6.out.grow hb); replace HTT := Lib.hid (HTT.out.grow hb); replace PAN := Lib.hid (PAN.out.grow hb); replace hB2 := hB2.trans (hb.mono hB2.size); clear hy hb)
                  | (go_at_call 21; (with_reducible refine (parts_in a6 (negL L) _ _ _ HLN.out (by rw [HLN.out]; omega) HN6.out HTT.out).mono ?_); rintro e w33 ⟨hy, hb⟩; obtain ⟨pcv, pcc, rfl, hn⟩ := hy.out; rw [HPN.out.1, HPO2.out] at hn; rw [HPN.out.1, HPN.out.2, HEZ.out, HPO2.out]; have PCN := Lib.hid hn; replace HNI2 := Lib.hid (HNI2.out.grow hb); replace HN52 := Lib.hid (HN52.out.grow hb); replace HN6 := Lib.hid (HN6.out.grow hb); replace HTT := Lib.hid (HTT.out.grow hb); replace PAN := Lib.hid (PAN.out.grow hb); replace hB2 := hB2.trans (hb.mono hB2.size); clear hy hn hb)
                  | (go_at_call 22; (with_reducible refine (HSM.out _ _ _ _ _ PAN.out PCN.out).mono ?_); rintro e w34 ⟨rfl, hb⟩; replace HNI2 := Lib.hid (HNI2.out.grow hb); replace HN52 := Lib.hid (HN52.out.grow hb); replace HN6 := Lib.hid (HN6.out.grow hb); replace HTT := Lib.hid (HTT.out.grow hb); replace PAN := Lib.hid (PAN.out.grow hb); replace hB2 := hB2.trans (hb.mono hB2.size); clear hb))
                go_ret
                exact ⟨rfl, hB2⟩
    · have HG : Hid ((givenE L != 0) = true) := Lib.hid (bne_iff_ne.2 hg)
      obtain ⟨z, hz⟩ : ∃ z, givenE L = z := ⟨_, rfl⟩
      rw [hz] at HG
      have HZ := Lib.hid hz
      have g1 := HG.out
      clear hg hz HG
      go_enter Tryd.func4, Tryd.ntmps4
      go_wp2_with (first
        | (go_at_call 9; (with_reducible refine (awake_any _ HT.out).mono ?_); rintro e w1 ⟨rfl, hb1⟩; replace hB := hb1)
        | (go_at_call 13; (with_reducible refine (refgiven_any _ L _ w.heap.size _ (by omega) (HI.out.below hB)).mono ?_); rintro e w5 ⟨rfl, rfl⟩; rw [HZ.out]))
      go_ret
      exact ⟨rfl, hB⟩
  · have g0 : decide (8 < (L.length : Int)) = true := decide_eq_true (by omega)
    go_enter Tryd.func4, Tryd.ntmps4
    go_wp2_with (go_at_call 9; (with_reducible refine (awake_any _ HT.out).mono ?_); rintro e w1 ⟨rfl, hb1⟩)
    go_ret
    exact ⟨rfl, hb1⟩
end Go.Proofs.YtfiefmhnonddhaaDoor
