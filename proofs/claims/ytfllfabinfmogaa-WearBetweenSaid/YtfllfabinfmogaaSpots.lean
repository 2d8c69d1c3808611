/-
  THE WALK of wear.Spots.
-/
import Derived.Test.YtfllfabinfmogaaSpotQ
import Derived.Test.YtfllfabinfmogaaApp
import Derived.Test.YtfllfabinfmogaaSortW
import Derived.Test.YtfllfabinfmogaaRat4
import Derived.Test.YtfllfabinfmogaaMapP
import Derived.Deep.CutRange
namespace Go.Proofs.Ytfllfabinfmogaa
open Go.RowKit Go.Shelf Go.Maps

def spanBad (len : Int) (s : Int × Int) : Bool := decide (s.1 < 0) || decide (s.2 ≤ s.1) || decide (len < s.2)
set_option maxHeartbeats 1000000 in
theorem asks_spanBad (bx : Nat) (len : Int) (n₀ : Nat) (w : World) (hbx : bx < n₀) (hc : w.cell? ⟨bx, 0, none⟩ = some (.int .i64 len)) :
    AsksS 32 #[.pointer (some ⟨bx, 0, none⟩)] n₀ w (spanBad len) := by
  intro W r hB
  show Calls _ _ #[spanV r, _] _ _
  unfold spanV
  have c0 : W.cell? ⟨bx, 0, none⟩ = some (.int .i64 len) := (hB.cell (p := ⟨bx, 0, none⟩) hbx).trans hc
  have hz : bx < W.heap.size := World.block_lt_of_cell? _ _ c0
  obtain ⟨r1, r2⟩ := r
  simp only
  have key : ∀ b1 b2 b3 : Bool, decide (r1 < 0) = b1 → decide (r2 ≤ r1) = b2 → decide (len < r2) = b3 → Hid (spanBad len (r1, r2) = (b1 || b2 || b3)) := fun b1 b2 b3 h1 h2 h3 => Lib.hid (by unfold spanBad; rw [h1, h2, h3])
  cases h1 : decide (r1 < 0)
  all_goals cases h2 : decide (r2 ≤ r1)
  all_goals cases h3 : decide (len < r2)
  all_goals
    have H := key _ _ _ h1 h2 h3
    clear key hc
    go_enter Try.func32, Try.ntmps32
    go_wp2_with fail
    go_ret
    exact ⟨ret_bool (by rw [H.out]; simp), below_new _ _⟩
theorem ent_spanBad (args : Array Value) (w : World) : (callFunc 32 args).run Try.prog w = .ok (.enter 32 args) w := enters_of Try.func32 (by kernel_rfl) rfl args w

theorem own_base {w : World} {b b' size n : Nat} {e : TypeId} {v : Value} {xs : List Value} (h : w.ownsRow b' e size v n xs) (hb : b ≤ b') : w.ownsRow b e size v n xs := by
  refine ⟨h.1, ?_⟩
  rcases h.2 with hn | ⟨g, cap, cur, e1, hb1, rest⟩
  · exact .inl hn
  · exact .inr ⟨g, cap, cur, e1, Nat.le_trans hb hb1, rest⟩
theorem map_below {H : Type} {w w' : World} {b n : Nat} {D : DataW H} (h : w.ownsMap Try.prog 3 (plainElem Try.prog 3) b n D) (hB : Below w.heap.size w w') : w'.ownsMap Try.prog 3 (plainElem Try.prog 3) b n D := by
  have hlt := h.lt
  obtain ⟨es, clock, hb, F, hs, hD⟩ := h
  exact ⟨es, clock, (hB.block b hlt).trans hb, F, hs, hD⟩
theorem og_last {S : List (Int × Int)} (hl : 0 < S.length) : S.getLast? = some (og S (S.length - 1)) := by
  rw [List.getLast?_eq_getElem?, og_get (by omega)]
theorem spotS_same {L S : List (Int × Int)} {t : Int} (hl : 0 < S.length) (h : (og S (S.length - 1)).2 = cov L t) : spotS L S t = S := by
  unfold spotS
  rw [og_last hl]
  exact if_pos h
theorem spotS_new {L S : List (Int × Int)} {t : Int} (hl : 0 < S.length) (h : ¬ (og S (S.length - 1)).2 = cov L t) : spotS L S t = S ++ [(t, cov L t)] := by
  unfold spotS
  rw [og_last hl]
  exact if_neg h
theorem nodup_len : ∀ {ks K : List Int}, ks.Nodup → (∀ x ∈ ks, x ∈ K) → ks.length ≤ K.length
  | [], _, _, _ => Nat.zero_le _
  | x :: t, K, h, hs => by
    rw [List.nodup_cons] at h
    have hx : x ∈ K := hs x (List.mem_cons_self ..)
    have := nodup_len (ks := t) (K := K.erase x) h.2 fun y hy => by
      have hne : y ≠ x := fun e => h.1 (e ▸ hy)
      exact (List.mem_erase_of_ne hne).2 (hs y (List.mem_cons_of_mem _ hy))
    rw [List.length_erase_of_mem hx] at this
    have hp : 0 < K.length := List.length_pos_of_mem hx
    simp only [List.length_cons]
    omega
theorem coll_len {H : Type} {D : DataW H} {left : Lit → Bool} {ks : List Int} {L : List (Int × Int)} (h : Coll D left ks) (hD : ChgMap L D) : ks.length ≤ 2 * L.length + 1 :=
  Nat.le_trans (nodup_len h.1 fun x hx => (hD.2.1 x).1 ((h.2 x).1 hx).1) (keysF_len L)

/-- What is wrong with a length and spans. -/
def spotsE (len : Int) (L : List (Int × Int)) : Int := if len < 1 ∨ 1048576 < len then 2 else if 1000 < L.length then 4 else if L.any (spanBad len) then 1 else 0
theorem spots_ok {len : Int} {L : List (Int × Int)} (h : spotsE len L = 0) : 1 ≤ len ∧ len ≤ 1048576 ∧ L.length ≤ 1000 ∧ SpansOK len L ∧ L.any (spanBad len) = false := by
  unfold spotsE at h
  split at h
  · cases h
  · split at h
    · cases h
    · split at h
      · cases h
      · rename_i h1 h2 h3
        refine ⟨by omega, by omega, by omega, fun s hs => ?_, Bool.eq_false_iff.2 h3⟩
        have := List.any_eq_false.1 (Bool.eq_false_iff.2 h3) s hs
        unfold spanBad at this
        simp at this
        omega

theorem keyI : Keyed Try.prog 3 := int_keyed Try.underlying3
theorem zeroI (w : World) : (zeroValue 3).run Try.prog w = .ok (.int .i64 0) w := by kernel_rfl

set_option maxRecDepth 100000 in
set_option maxHeartbeats 16000000 in
theorem spots_good {H : Type} (len : Int) (a : Option Addr) (L : List (Int × Int)) (cap : Nat) (w : World) (h : Spans w.heap.size w a L) (he : spotsE len L = 0) :
    Calls Try.prog 19 #[.int .i64 len, .slice a L.length cap] w fun e w' => Hid (∃ v, e = .returned (.tuple #[v, .int .i64 0]) ∧ w'.ownsRow w.heap.size 48 2 v (spotsP len L).length (oflat (spotsP len L))) ∧ Below w.heap.size w w' := by
  obtain ⟨l1, l2, hl, hOK, hany⟩ := spots_ok he
  have HS := Lib.hid h
  have HOK := Lib.hid hOK
  have HAN : Hid (span_any L (spanBad len) = false) := Lib.hid (by rw [span_any_eq]; exact hany)
  clear h he hOK hany
  have hW0 := below_new w (.cells #[.int .i64 len] 3)
  have c0 : (w.alloc (.cells #[.int .i64 len] 3)).cell? ⟨w.heap.size, 0, none⟩ = some (.int .i64 len) := by simp
  have hz0 : w.heap.size < (w.alloc (.cells #[.int .i64 len] 3)).heap.size := by simp
  have hmm := @run_makeMap Try.prog
  have g1 : decide (len < 1) = false := decide_eq_false (by omega)
  have g2 : decide (1048576 < len) = false := decide_eq_false (by omega)
  have g3 : decide ((1000 : Int) < L.length) = false := decide_eq_false (by omega)
  go_enter Try.func19, Try.ntmps19
  go_upto_region 1 with (fail)
  obtain ⟨Bl, hBl⟩ : ∃ b, w.heap.size = b := ⟨_, rfl⟩
  rw [hBl] at c0 hz0
  simp only [hBl]
  generalize w.alloc (.cells #[.int .i64 len] 3) = W0 at *
  go_upto_region 7 with (go_at_call 31; (with_reducible refine (span_containsFunc _ L _ _ _ _ (spanBad len) _ ent_spanBad (by omega) (Nat.le_refl _) (HS.out.grow hW0) (asks_spanBad Bl len _ _ hz0 c0)).mono ?_); rintro e w2 ⟨rfl, hb2⟩; rw [HAN.out])
  have b2 := hb2
  have hW2 := hW0.trans (hb2.mono hW0.size)
  have hS2 := (HS.out.grow hW0).grow hb2
  have c2 := (hb2.cell (p := ⟨Bl, 0, none⟩) hz0).trans c0
  clear hb2 c0 hz0 hW0 HAN HS b2
  obtain ⟨Wa, rfl⟩ : ∃ W : World, W = w2 := ⟨_, rfl⟩
  have HS := Lib.hid hS2
  clear hS2
  obtain ⟨w3, hins, hown3, hg3⟩ := (World.ownsMap_made (H := H) Wa Try.prog 3 (plainElem Try.prog 3)).update keyI Try.underlying68 (by unfold maxLen; omega) (keyOf_int_mk Try.underlying3 (a := 0) (by decide)) (plainElem_int Try.underlying3 (a := 0) (by decide))
  have hb3 : Below Wa.heap.size Wa w3 := ((Below.refl _ _).alloc (Nat.le_refl _) _).grown hg3 (by simp) (fun j hj => by cases hj; exact Nat.le_refl _)
  have HC3 := Lib.hid (chg_start (H := H))
  go_upto_region 8 with (fail)
  clear hins hmm hg3
  obtain ⟨Bm, hBm⟩ : ∃ b, Wa.heap.size = b := ⟨_, rfl⟩
  have hBmle : Wa.heap.size ≤ Bm := by omega
  simp only [hBm] at hown3 ⊢
  clear hBm
  go_wp2_with fail
  go_loopw [34] (fun i wr => ∃ (k : Nat) (D : DataW H), k ≤ L.length ∧ i = .int .i64 k ∧ wr.ownsMap Try.prog 3 (plainElem Try.prog 3) Bm (2 * k + 1) D ∧ Hid (ChgMap (L.take k) D) ∧ Below Wa.heap.size Wa wr) (fun i _ => L.length - (intOf i).toNat)
  case atStart => exact ⟨0, _, Nat.zero_le _, rfl, hown3, HC3, hb3⟩
  case round =>
    obtain ⟨k, D, hk, rfl, hown, HD, hC⟩ := hrel
    clear hown3 HC3 hb3
    by_cases hlt : k < L.length
    · obtain ⟨b, off, rfl, hb, hcx⟩ := HS.out (by omega)
      obtain ⟨e0, e1⟩ := hcx k hlt
      have d0 := (hC.cell (p := ⟨b, off + k * 2, none⟩) hb).trans e0
      have d1 := (hC.cell (p := ⟨b, off + k * 2 + 1, none⟩) hb).trans e1
      have hok := HOK.out (sg L k) (by rw [sg_eq L k hlt]; exact List.getElem_mem hlt)
      have HT : Hid (L.take (k + 1) = L.take k ++ [sg L k]) := Lib.hid (by rw [sg_eq L k hlt]; exact List.take_succ_eq_append_getElem hlt)
      have hcb1 := chg_bd (L.take k) (sg L k).1
      have hcb2 := chg_bd (L.take k) (sg L k).2
      have htl : (L.take k).length ≤ 1000 := by rw [List.length_take]; omega
      clear hcx e0 e1
      go_upto_region 11 with (fail)
      have hownS := hown.alloc (.cells #[.int .i64 (sg L k).1, .int .i64 (sg L k).2] 54)
      have hCS := hC.alloc hC.size (.cells #[.int .i64 (sg L k).1, .int .i64 (sg L k).2] 54)
      obtain ⟨x0, x1⟩ := new_cells wr (.int .i64 (sg L k).1) (.int .i64 (sg L k).2) 54
      have hBw : Bm < wr.heap.size := hown.lt
      clear hown hC d0 d1
      generalize wr.alloc (.cells #[.int .i64 (sg L k).1, .int .i64 (sg L k).2] 54) = wS at *
      generalize wr.heap.size = Bs at *
      obtain ⟨p, hp⟩ : ∃ p, sg L k = p := ⟨_, rfl⟩
      rw [hp] at x0 x1 hok HT hcb1 hcb2
      clear hp
      have wk1 : (Lit.int .i64 p.1).wf = true := WalkArith.wf_i64 (by omega)
      have wk2 : (Lit.int .i64 p.2).wf = true := WalkArith.wf_i64 (by omega)
      obtain ⟨c1, hc1⟩ : ∃ c, chg (L.take k) p.1 = c := ⟨_, rfl⟩
      obtain ⟨c2, hc2⟩ : ∃ c, chg (L.take k) p.2 = c := ⟨_, rfl⟩
      have wv1 : (Lit.int .i64 (c1 + 1)).wf = true := WalkArith.wf_i64 (by omega)
      have wv2 : (Lit.int .i64 (c2 - 1)).wf = true := WalkArith.wf_i64 (by omega)
      have HPUT := Lib.hid (chg_put HD.out hok.2.1)
      have HA1 : Hid (∀ c, D.atKey (.int .i64 p.1) (.lit (.int .i64 0)) = .lit (.int .i64 c) → c = c1) := Lib.hid fun c h => (chg_at HD.out h).trans hc1
      have HA2 : Hid (∀ c, (D.put (.int .i64 p.1) (.lit (.int .i64 (c1 + 1)))).atKey (.int .i64 p.2) (.lit (.int .i64 0)) = .lit (.int .i64 c) → c = c2) := Lib.hid fun c h => (chg_at2 HD.out hok.2.1 h).trans hc2
      rw [hc1, hc2] at HPUT
      rw [hc1] at hcb1
      rw [hc2] at hcb2
      clear hc1 hc2
      have hne : some Bs ≠ some Bm := fun e => by injection e with e; omega
      go_upto_region 12 with (first
        | (at_lookup; refine wpList_lookup_own_int _ rfl _ _ 68 rfl 3 3 .i64 keyI Try.underlying68 Try.underlying3 (zeroI _) Bm _ _ rfl hownS _ _ rfl (keyOf_int_mk Try.underlying3 wk1) ?_; intro c hat hwc; obtain rfl := HA1.out c hat; clear hat hwc)
        | (at_mapUpdate; refine wpList_mapUpdate_own _ rfl _ _ _ 68 rfl 3 3 keyI Try.underlying68 _ Bm _ _ rfl hownS (by unfold maxLen; omega) _ _ _ rfl rfl (keyOf_int_mk Try.underlying3 wk1) _ [] (plainElem_int Try.underlying3 wv1) ?_; intro w4 hown4 hgrow4))
      have y1 := hgrow4.cell x1 hne
      have hC4 := hCS.grown hgrow4 hCS.size (fun j hj => by cases hj; exact hBmle)
      clear x0 x1 hownS hgrow4 hCS HA1
      go_wp2_with (first
        | (at_lookup; refine wpList_lookup_own_int _ rfl _ _ 68 rfl 3 3 .i64 keyI Try.underlying68 Try.underlying3 (zeroI _) Bm _ _ rfl hown4 _ _ rfl (keyOf_int_mk Try.underlying3 wk2) ?_; intro c hat hwc; obtain rfl := HA2.out c hat; clear hat hwc)
        | (at_mapUpdate; refine wpList_mapUpdate_own _ rfl _ _ _ 68 rfl 3 3 keyI Try.underlying68 _ Bm _ _ rfl hown4 (by unfold maxLen; omega) _ _ _ rfl rfl (keyOf_int_mk Try.underlying3 wk2) _ [] (plainElem_int Try.underlying3 wv2) ?_; intro w5 hown5 hgrow5))
      have hC5 := hC4.grown hgrow5 hC4.size (fun j hj => by cases hj; exact hBmle)
      go_roundw
      case rel => exact ⟨k + 1, _, by omega, by go_num, hown5, by rw [HT.out]; exact HPUT, hC5⟩
      case measure => simp [intOf]; omega
    · obtain rfl : k = L.length := by omega
      have HD2 : Hid (ChgMap L D) := Lib.hid (by have := HD.out; rwa [List.take_length] at this)
      clear HD
      obtain ⟨wo, rfl⟩ : ∃ W : World, W = wr := ⟨_, rfl⟩
      go_wp2_with (at_range; refine wpList_range_own _ rfl _ 68 rfl 3 3 keyI Try.underlying68 _ Bm _ D rfl hown ?_; intro w0 hrg0 hg0 hs0)
      go_frame
      have hC0 := hC.grown (hg0.but none) hC.size (fun j hj => by cases hj)
      have hBr : Bm < w0.heap.size := hrg0.owns.lt
      have hrr := hrg0.lt
      have hrW : Wa.heap.size ≤ wo.heap.size := hC.size
      generalize wo.heap.size = r at *
      clear hs0 hg0 hown hC
      obtain ⟨B0, hB0⟩ : ∃ b, w0.heap.size = b := ⟨_, rfl⟩
      have HC0 := Lib.hid (coll_start D)
      go_loopw [9, 10] (fun v _ wr => ∃ (left : Lit → Bool) (cnt : Nat) (ks : List Int), wr.ranges Try.prog 3 (plainElem Try.prog 3) Bm r (2 * L.length + 1) D left cnt ∧ wr.ownsRow B0 3 1 v ks.length (nflat ks) ∧ Hid (Coll D left ks) ∧ B0 ≤ wr.heap.size ∧ Below Wa.heap.size Wa wr) (fun _ _ wr => wr.rangeLeft Bm r)
      case atStart => exact ⟨_, _, [], hrg0, World.ownsRow_nil _ _ _ _, HC0, by omega, hC0⟩
      case round =>
        obtain ⟨left, cnt, ks, hrg, hrow, HCo, hBB, hC⟩ := hrel
        have hkl := coll_len HCo.out HD2.out
        clear hrg0 HC0 hC0
        go_wp2_with (at_next; refine wpList_next_ranges_ii _ rfl _ rfl 3 3 .i64 .i64 keyI Try.underlying3 Try.underlying3 Bm r _ _ _ _ rfl hrg ?_ ?_)
        · intro hc0 hl0
          have HK : Hid (sortI ks = keysF L) := Lib.hid (coll_end HCo.out HD2.out hl0)
          have hown := hrg.owns
          have hks : 0 < ks.length := by
            have h := congrArg List.length HK.out
            rw [sortI_len] at h
            have h0 : (0 : Int) ∈ keysF L := (keysF_mem L 0).2 (.inl rfl)
            have := List.length_pos_of_mem h0
            omega
          obtain ⟨pg, pcap, hve⟩ : ∃ g cap, u9 = .slice (some ⟨g, 0, none⟩) ks.length cap := by
            rcases hrow.2 with ⟨_, h0⟩ | ⟨g, cap, cur, e1, _⟩
            · omega
            · exact ⟨g, cap, e1⟩
          subst hve
          have hpg := (hrow.lt pg rfl).1
          clear hrg HCo hl0 hc0
          obtain ⟨wl, rfl⟩ : ∃ W : World, W = wr := ⟨_, rfl⟩
          go_upto_region 20 with (go_at_call 33; (with_reducible refine (sort_own hrow (by omega)).mono ?_); rintro e w6 ⟨rfl, hrow6, hg6⟩)
          have hown6 := hown.kept hg6 (fun e => by injection e with e; omega)
          have hC6 : Below Wa.heap.size Wa w6 := hC.grown hg6 hC.size (fun j hj => by cases hj; omega)
          have hkl : ks.length = (keysF L).length := by rw [← sortI_len, HK.out]
          rw [HK.out, hkl] at hrow6
          obtain ⟨na, ncap, hve, _, _, _, hN⟩ := num_of_row hrow6
          injection hve with hve1 hve2 hve3
          subst hve1 hve3
          have HN := Lib.hid hN
          have HKI := Lib.hid (keysF_incr L)
          have HKL := keysF_len L
          have HKM : Hid (∀ k, k < (keysF L).length → 0 ≤ ig (keysF L) k ∧ ig (keysF L) k ≤ len) := Lib.hid fun k hk => by
            have hm : ig (keysF L) k ∈ keysF L := by rw [ig_eq _ k hk]; exact List.getElem_mem hk
            rcases (keysF_mem L _).1 hm with h | ⟨s, hs, h | h⟩
            · omega
            · have := HOK.out s hs; omega
            · have := HOK.out s hs; omega
          clear hrow hrow6 hg6 hown hC hN hve2 HK hBB
          rw [hkl]
          clear hkl hks
          go_wp2_with fail
          go_loopw [11, 12, 63] (fun v n i wr => ∃ k : Nat, k ≤ (keysF L).length ∧ Hid (∀ j, j < k → ig (keysF L) j < len) ∧ i = .int .i64 k ∧ n = .int .i64 (nTo L (keysF L) k) ∧ wr.ownsRow w6.heap.size 48 2 v (spotK L ((keysF L).take k)).length (oflat (spotK L ((keysF L).take k))) ∧ Below w6.heap.size w6 wr) (fun _ _ i _ => (keysF L).length - (intOf i).toNat)
          case atStart => exact ⟨0, Nat.zero_le _, Lib.hid (fun j h => absurd h (Nat.not_lt_zero _)), rfl, rfl, World.ownsRow_nil _ _ _ _, Below.refl _ _⟩
          case round =>
            obtain ⟨k, hk, HLT, rfl, rfl, hrow, hD⟩ := hrel
            by_cases hlt : k < (keysF L).length
            · obtain ⟨b2, off2, hve, hb2, hcx⟩ := HN.out (by omega)
              injection hve with hve
              injection hve with hv1 hv2
              subst hv1 hv2
              have e0 := (hD.cell (p := ⟨pg, 0 + k, none⟩) hb2).trans (hcx k hlt)
              have hownr := map_below hown6 hD
              have hcl := (hD.cell (p := ⟨Bl, 0, none⟩) (Nat.lt_of_lt_of_le (World.block_lt_of_cell? _ _ c2) hC6.size)).trans ((hC6.cell (p := ⟨Bl, 0, none⟩) (World.block_lt_of_cell? _ _ c2)).trans c2)
              have hkm := HKM.out k hlt
              have hDs := hD.size
              have hnb := nTo_bd L (keysF L) k
              have hmul : k * L.length ≤ 2001 * 1000 := Nat.mul_le_mul (by omega) hl
              have hsum := nTo_keys HOK.out k hlt
              have hcb := chg_bd L (ig (keysF L) k)
              have HTK : Hid ((keysF L).take (k + 1) = (keysF L).take k ++ [ig (keysF L) k]) := Lib.hid (by rw [ig_eq _ k hlt]; exact List.take_succ_eq_append_getElem hlt)
              have HNS : Hid (nTo L (keysF L) (k + 1) = nTo L (keysF L) k + chg L (ig (keysF L) k)) := Lib.hid rfl
              rw [HNS.out] at hsum
              have hSl : (spotK L ((keysF L).take k)).length ≤ 3000 := Nat.le_trans (spotK_len _ _) (by rw [List.length_take]; omega)
              have HSP : Hid (spotK L ((keysF L).take (k + 1)) = spotS L (spotK L ((keysF L).take k)) (ig (keysF L) k)) := Lib.hid (by rw [HTK.out, spotK_snoc])
              obtain ⟨t, ht⟩ : ∃ t, ig (keysF L) k = t := ⟨_, rfl⟩
              obtain ⟨c, hc⟩ : ∃ c, chg L t = c := ⟨_, rfl⟩
              obtain ⟨N, hN⟩ : ∃ N, nTo L (keysF L) k = N := ⟨_, rfl⟩
              obtain ⟨S, hS⟩ : ∃ S, spotK L ((keysF L).take k) = S := ⟨_, rfl⟩
              have HT := Lib.hid ht
              have HA : Hid (∀ c', D.atKey (.int .i64 t) (.lit (.int .i64 0)) = .lit (.int .i64 c') → c' = c) := Lib.hid fun c' h => (chg_at HD2.out h).trans hc
              rw [ht, hc, hN] at hsum HNS
              rw [ht] at hcb HSP
              rw [hc] at hcb
              rw [ht] at e0 hkm
              rw [hN] at hnb ⊢
              rw [hS] at hrow hSl HSP
              have HS0 := Lib.hid hS
              have hNb : -2001000 ≤ N ∧ N ≤ 2001000 := by omega
              have hsum2 := Lib.hid hsum
              have wk : (Lit.int .i64 t).wf = true := WalkArith.wf_i64 (by omega)
              clear ht hc hN hS hcx hnb hsum hmul
              rw [Nat.zero_add] at e0
              obtain ⟨oa, ocap, rfl, _, _, _, hO⟩ := load_of_row hrow
              by_cases htl : t = len
              · have q1 : (t == len) = true := by simpa using htl
                have HF : Hid (S = spotsP len L) := Lib.hid (by
                  unfold spotsP
                  rw [← HS0.out, keys_take k HLT.out hk (.inr (HT.out.trans htl))])
                clear htl
                go_wp2_with (at_lookup; refine wpList_lookup_own_int _ rfl _ _ 68 rfl 3 3 .i64 keyI Try.underlying68 Try.underlying3 (zeroI _) Bm _ _ rfl hownr _ _ rfl (keyOf_int_mk Try.underlying3 wk) ?_; intro c' hat hwc; obtain rfl := (HA.out c' hat).symm; clear hat hwc)
                go_ret2
                have hfin := hW2.trans ((hC6.trans (hD.mono hC6.size)).mono hW2.size)
                have hz0 := Nat.le_trans hW2.size hC6.size
                have hfin0 := hfin
                have hz := hz0
                rw [hBl] at hfin hz
                refine ⟨Lib.hid ⟨_, rfl, ?_⟩, by first | exact hfin | exact hfin0⟩
                rw [← HF.out]
                first | exact own_base hrow hz | exact own_base hrow hz0
              · have q1 : (t == len) = false := by simpa using htl
                have hlen : t < len := by omega
                have HLT2 : Hid (∀ j, j < k + 1 → ig (keysF L) j < len) := Lib.hid fun j hj => by
                  rcases (show j < k ∨ j = k by omega) with l | l
                  · exact HLT.out j l
                  · subst l; rw [HT.out]; exact hlen
                clear htl
                by_cases hS0 : S.length = 0
                · have q2 : ((S.length : Int) == 0) = true := by rw [hS0]; rfl
                  have HST : Hid (spotS L S t = S ++ [(t, N + c)]) := Lib.hid (by
                    have : S = [] := List.length_eq_zero_iff.1 hS0
                    subst this
                    unfold spotS
                    rw [← hsum2.out]
                    rfl)
                  clear hS0
                  go_wp2_with (first
                    | (at_lookup; refine wpList_lookup_own_int _ rfl _ _ 68 rfl 3 3 .i64 keyI Try.underlying68 Try.underlying3 (zeroI _) Bm _ _ rfl hownr _ _ rfl (keyOf_int_mk Try.underlying3 wk) ?_; intro c' hat hwc; obtain rfl := (HA.out c' hat).symm; clear hat hwc)
                    | (at_builtin; refine load_append rfl _ _ rfl w6.heap.size _ S rfl (hrow.alloc _) _ (t, N + c) rfl (by simp) (by omega) (by first | omega | (simp <;> omega)) ?_; intro v5 w5 hown5 hg5))
                  have hD5 := (hD.alloc hD.size _).grown hg5 (by have := hD.size; simp; omega) (fun j hj => (hrow.lt _ hj).1)
                  go_roundw
                  case rel => exact ⟨k + 1, by omega, HLT2, by go_num, by rw [HNS.out], by rw [HSP.out, HST.out]; exact hown5, hD5⟩
                  case measure => simp [intOf]; omega
                · have q2 : ((S.length : Int) == 0) = false := beq_eq_false_iff_ne.2 (by omega)
                  obtain ⟨ob, ooff, rfl, hob, hoc⟩ := hO (by omega)
                  obtain ⟨_, o1⟩ := hoc (S.length - 1) (by omega)
                  have hS1 : (1 : Int) ≤ S.length := by omega
                  have s1 : IntKind.i64.wrap ((S.length : Int) - 1) = (S.length : Int) - 1 := IntWalk.i64_in _ (by omega)
                  have s2 : ((S.length : Int) - 1).toNat = S.length - 1 := by omega
                  obtain ⟨W, hWq⟩ : ∃ x, (og S (S.length - 1)).2 = x := ⟨_, rfl⟩
                  rw [hWq] at o1
                  by_cases hw : W = N + c
                  · have q3 : (W != N + c) = false := by simpa using hw
                    have HST : Hid (spotS L S t = S) := Lib.hid (spotS_same (by omega) (by rw [hWq, hw, hsum2.out]))
                    clear hw hS0 hoc hWq
                    go_wp2_with (first
                      | (at_lookup; refine wpList_lookup_own_int _ rfl _ _ 68 rfl 3 3 .i64 keyI Try.underlying68 Try.underlying3 (zeroI _) Bm _ _ rfl hownr _ _ rfl (keyOf_int_mk Try.underlying3 wk) ?_; intro c' hat hwc; obtain rfl := (HA.out c' hat).symm; clear hat hwc)
                      | (at_builtin; refine load_append rfl _ _ rfl w6.heap.size _ S rfl (hrow.alloc _) _ (t, N + c) rfl (by simp) (by omega) (by first | omega | (simp <;> omega)) ?_; intro v5 w5 hown5 hg5))
                    go_roundw
                    case rel => exact ⟨k + 1, by omega, HLT2, by go_num, by rw [HNS.out], by rw [HSP.out, HST.out]; exact hrow, hD⟩
                    case measure => simp [intOf]; omega
                  · have q3 : (W != N + c) = true := by simpa using hw
                    have HST : Hid (spotS L S t = S ++ [(t, N + c)]) := Lib.hid (by rw [hsum2.out]; exact spotS_new (by omega) (by rw [hWq, ← hsum2.out]; exact hw))
                    clear hw hS0 hoc hWq
                    go_wp2_with (first
                      | (at_lookup; refine wpList_lookup_own_int _ rfl _ _ 68 rfl 3 3 .i64 keyI Try.underlying68 Try.underlying3 (zeroI _) Bm _ _ rfl hownr _ _ rfl (keyOf_int_mk Try.underlying3 wk) ?_; intro c' hat hwc; obtain rfl := (HA.out c' hat).symm; clear hat hwc)
                      | (at_builtin; refine load_append rfl _ _ rfl w6.heap.size _ S rfl (hrow.alloc _) _ (t, N + c) rfl (by simp) (by omega) (by first | omega | (simp <;> omega)) ?_; intro v5 w5 hown5 hg5))
                    have hD5 := (hD.alloc hD.size _).grown hg5 (by have := hD.size; simp; omega) (fun j hj => (hrow.lt _ hj).1)
                    go_roundw
                    case rel => exact ⟨k + 1, by omega, HLT2, by go_num, by rw [HNS.out], by rw [HSP.out, HST.out]; exact hown5, hD5⟩
                    case measure => simp [intOf]; omega
            · obtain rfl : k = (keysF L).length := by omega
              have HF : Hid (spotK L ((keysF L).take (keysF L).length) = spotsP len L) := Lib.hid (by
                unfold spotsP
                rw [keys_take (keysF L).length HLT.out (Nat.le_refl _) (.inl rfl)])
              rw [HF.out] at hrow
              go_wp2_with fail
              go_ret2
              have hfin := hW2.trans ((hC6.trans (hD.mono hC6.size)).mono hW2.size)
              have hz0 := Nat.le_trans hW2.size hC6.size
              have hfin0 := hfin
              have hz := hz0
              rw [hBl] at hfin hz
              exact ⟨Lib.hid ⟨_, rfl, by first | exact own_base hrow hz | exact own_base hrow hz0⟩, by first | exact hfin | exact hfin0⟩
        · intro x c w1 cnt1 hwx hwc hlx hat hrg1 hlt1 hg1 hs1 hen
          have HCN := Lib.hid (coll_step HCo.out hlx (has_true_of_atKey hat))
          have hrow1 := hrow.kept hg1 (by rcases ho : Value.ownBlock u9 with _ | k; exact .inl rfl; exact .inr (fun e => by have := (hrow.lt k ho).1; injection e with e; omega))
          have hC1 := hC.grown hg1 hC.size (fun j hj => by cases hj; omega)
          have hBB1 : B0 ≤ w1.heap.size := by omega
          clear hs1
          go_wp2_with (at_builtin; refine num_append rfl _ _ rfl B0 _ ks rfl (hrow1.alloc _) _ x rfl (by simp) (by omega) (by first | omega | (simp <;> omega)) ?_; intro v5 w5 hown5 hg5)
          have hrg5 := (hrg1.alloc (.cells #[.int .i64 x] 3)).kept hg5 (fun e => by have := (hrow1.lt _ e.symm).1; omega) (fun e => by have := (hrow1.lt _ e.symm).1; omega)
          have hC5 : Below Wa.heap.size Wa w5 := (hC1.alloc hC1.size (.cells #[.int .i64 x] 3)).grown hg5 (by have := hC1.size; simp; omega) (fun j hj => by have := (hrow1.lt _ hj).1; omega)
          have hz5 : B0 ≤ w5.heap.size := Nat.le_trans (by simp; omega) hg5.size
          go_roundw
          case rel => exact ⟨_, cnt1, _, hrg5, hown5, HCN, hz5, hC5⟩
          case measure => rw [hrg5.left_eq, hrg.left_eq]; exact hlt1
end Go.Proofs.Ytfllfabinfmogaa
