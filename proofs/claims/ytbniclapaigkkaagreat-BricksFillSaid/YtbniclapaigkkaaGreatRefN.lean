/-
  THE WALK of the reference's Nearest (26).
-/
import Derived.Test.YtbniclapaigkkaaGreatRefS
import Derived.Test.YtbniclapaigkkaaGreatSums
namespace Go.Proofs.YtbniclapaigkkaaGreat
open Go.RowKit Go.Shelf
def NearTo (K : List Int) (w : Int) (k : Nat) (b : Int) : Prop := (∃ i, i < K.length ∧ (i < k ∨ (k = 0 ∧ i = 0)) ∧ b = ig K i) ∧ ∀ j, j < k → ¬ nearer w (ig K j) b
theorem nearTo_zero {K : List Int} (w : Int) (h : 0 < K.length) : NearTo K w 0 (ig K 0) := ⟨⟨0, h, Or.inr ⟨rfl, rfl⟩, rfl⟩, fun _ hj => absurd hj (Nat.not_lt_zero _)⟩
theorem nearTo_take {K : List Int} {w b : Int} {k : Nat} (hk : k < K.length) (h : NearTo K w k b) (hn : farN w (ig K k) < farN w b) : NearTo K w (k + 1) (ig K k) := by
  refine ⟨⟨k, hk, Or.inl (by omega), rfl⟩, fun j hj => ?_⟩
  rcases Nat.lt_succ_iff_lt_or_eq.1 hj with q | rfl
  · exact nearer_trans (Or.inl hn) (h.2 j q)
  · unfold nearer; omega
theorem nearTo_keep {K : List Int} {w b : Int} {k : Nat} (hi : K.Pairwise (· < ·)) (hk : k < K.length) (h : NearTo K w k b) (hn : ¬ farN w (ig K k) < farN w b) : NearTo K w (k + 1) b := by
  obtain ⟨⟨i, hi1, hi2, rfl⟩, h2⟩ := h
  refine ⟨⟨i, hi1, Or.inl (by omega), rfl⟩, fun j hj => ?_⟩
  rcases Nat.lt_succ_iff_lt_or_eq.1 hj with q | rfl
  · exact h2 j q
  · have := ig_le (hi.imp fun h => Int.le_of_lt h) (show i ≤ j by omega) hk
    unfold nearer
    omega
theorem nearTo_all {L : List BrickR} {w b : Int} (ok : BrickOK L) (h : NearTo (sumsP L) w (sumsP L).length b) : b = nearP w L := by
  obtain ⟨⟨i, hi1, _, rfl⟩, h2⟩ := h
  refine nearP_unique ok (sumsP_mem.1 (mem_ig.2 ⟨i, hi1, rfl⟩)) fun x hx => ?_
  obtain ⟨j, hj, rfl⟩ := mem_ig.1 (sumsP_mem.2 hx)
  exact h2 j hj
set_option maxHeartbeats 4000000 in
theorem away_any (n wt : Int) (w : World) (h1 : -1125899906842624 ≤ wt ∧ wt ≤ 1125899906842624) (h2 : -1125899906842624 ≤ n ∧ n ≤ 1125899906842624) :
    Calls Tryz.prog 50 #[.int .i64 n, .int .i64 wt] w fun e w' => e = .returned (.int .i64 (farN wt n)) ∧ w = w' := by
  have s1 : IntKind.i64.wrap (n - wt) = n - wt := IntWalk.i64_in _ (by omega)
  have s2 : IntKind.i64.wrap (wt - n) = wt - n := IntWalk.i64_in _ (by omega)
  by_cases q : n < wt
  · have HF : Hid (farN wt n = wt - n) := Lib.hid (if_pos q)
    go_enter Tryz.func50, Tryz.ntmps50
    go_wp2
    go_ret
    exact ⟨by rw [HF.out]; rfl, rfl⟩
  · have HF : Hid (farN wt n = n - wt) := Lib.hid (if_neg q)
    go_enter Tryz.func50, Tryz.ntmps50
    go_wp2
    go_ret
    exact ⟨by rw [HF.out]; rfl, rfl⟩
set_option maxRecDepth 100000 in
set_option maxHeartbeats 8000000 in
theorem refnear_any (wt : Int) (a : Option Addr) (L : List BrickR) (cap : Nat) (w : World) (hw : -1099511627776 ≤ wt ∧ wt ≤ 1099511627776) (ok : BrickOK L) (hl : L.length ≤ 8) (h7 : countP L ≤ 700) (h : Bricks w.heap.size w a L) :
    Calls Tryz.prog 28 #[.slice a L.length cap, .int .i64 wt] w fun e w' => Hid (∃ v, e = .returned v ∧ NumsV w'.heap.size w' v (listS (firstP (nearP wt L) (nearP wt L) L))) ∧ Below w.heap.size w w' := by
  have HU := Lib.hid h
  have HOK := Lib.hid ok
  have H7 := Lib.hid h7
  have HBD : Hid (∀ i, i < (sumsP L).length → 0 ≤ ig (sumsP L) i ∧ ig (sumsP L) i ≤ 503316480) := Lib.hid fun i hi => sumsP_bd ok hl hi
  have HALL : Hid (∀ b, NearTo (sumsP L) wt (sumsP L).length b → b = nearP wt L) := Lib.hid fun b h => nearTo_all ok h
  have hpos := sumsP_pos ok
  have HI := Lib.hid (sumsP_incr L)
  have hK7 : (sumsP L).length ≤ 700 := Nat.le_trans (sumsP_len L) h7
  clear h ok h7
  go_enter Tryz.func28, Tryz.ntmps28
  go_upto_region 2 with (go_at_call 49; (with_reducible refine (refsums_any _ L _ _ HOK.out hl H7.out HU.out).mono ?_); rintro e w1 ⟨hx, hb1⟩; obtain ⟨v1, rfl, sa, sc, rfl, s1, s2, s3, hs⟩ := hx.out)
  have HS := Lib.hid hs
  have HU1 := Lib.hid (HU.out.grow hb1)
  clear hx hs HU
  obtain ⟨K, hK⟩ : ∃ K, sumsP L = K := ⟨_, rfl⟩
  rw [hK] at HBD HALL hpos HI hK7 HS s1
  simp only [hK]
  clear hK
  obtain ⟨b, off, rfl, hb, hx⟩ := HS.out hpos
  have d0 := hx 0 hpos
  rw [Nat.add_zero] at d0
  have j0 : (0 : Int) < (K.length : Int) := by omega
  clear hx
  go_wp2_with fail
  go_loop [6, 7] (fun s i => ∃ (k : Nat) (b : Int), k ≤ K.length ∧ i = .int .i64 k ∧ s = .int .i64 b ∧ 0 ≤ b ∧ b ≤ 503316480 ∧ Hid (NearTo K wt k b)) (fun _ i => K.length - (intOf i).toNat)
  case atStart => exact ⟨0, ig K 0, Nat.zero_le _, rfl, rfl, (HBD.out 0 hpos).1, (HBD.out 0 hpos).2, Lib.hid (nearTo_zero wt hpos)⟩
  case round =>
    obtain ⟨k, b1, hk, rfl, rfl, b0, bm, HT⟩ := hrel
    by_cases hlt : k < K.length
    · obtain ⟨b', off', e, _, hx⟩ := HS.out hpos
      cases e
      have d1 := hx k hlt
      obtain ⟨x0, xm⟩ := HBD.out k hlt
      have HTK : Hid (farN wt (ig K k) < farN wt b1 → NearTo K wt (k + 1) (ig K k)) := Lib.hid fun h => nearTo_take hlt HT.out h
      have HKP : Hid (¬ farN wt (ig K k) < farN wt b1 → NearTo K wt (k + 1) b1) := Lib.hid fun h => nearTo_keep HI.out hlt HT.out h
      clear hx d0
      generalize ig K k = x at *
      by_cases q : farN wt x < farN wt b1
      · have g1 : decide (farN wt x < farN wt b1) = true := decide_eq_true q
        have HT2 := Lib.hid (HTK.out q)
        clear HTK HKP q HT
        go_wp2_with (go_at_call 50; (first | (with_reducible refine (away_any x wt _ (by omega) (by omega)).mono ?_) | (with_reducible refine (away_any b1 wt _ (by omega) (by omega)).mono ?_)); rintro e w2 ⟨rfl, rfl⟩)
        go_round
        case rel => exact ⟨k + 1, x, by omega, by go_num, rfl, x0, xm, HT2⟩
        case measure => simp [intOf]; omega
      · have g1 : decide (farN wt x < farN wt b1) = false := decide_eq_false q
        have HT2 := Lib.hid (HKP.out q)
        clear HTK HKP q HT
        go_wp2_with (go_at_call 50; (first | (with_reducible refine (away_any x wt _ (by omega) (by omega)).mono ?_) | (with_reducible refine (away_any b1 wt _ (by omega) (by omega)).mono ?_)); rintro e w2 ⟨rfl, rfl⟩)
        go_round
        case rel => exact ⟨k + 1, b1, by omega, by go_num, rfl, b0, bm, HT2⟩
        case measure => simp [intOf]; omega
    · obtain rfl : k = K.length := by omega
      have HE := Lib.hid (HALL.out b1 HT.out)
      go_wp2_with (go_at_call 51; (with_reducible refine (reffirst_any b1 b1 _ L _ _ HOK.out hl HU1.out).mono ?_); rintro e w2 ⟨hx, hb2⟩; obtain ⟨v2, rfl, hv2⟩ := hx.out; have HV2 := Lib.hid hv2; clear hx hv2)
      go_ret
      refine ⟨Lib.hid ⟨_, rfl, ?_⟩, hb1.trans (hb2.mono hb1.size)⟩
      have hq := HV2.out
      rw [HE.out] at hq
      exact hq
end Go.Proofs.YtbniclapaigkkaaGreat
