/-
  The search for the nearest sum (bricks: nearest), by induction on the kinds that are left; the method nearest; Nearest.
-/
import Derived.Test.YtbniclapaigkkaaGreatNearN
import Derived.Test.YtbniclapaigkkaaGreatFirst
namespace Go.Proofs.YtbniclapaigkkaaGreat
open Go.RowKit Go.Shelf
theorem near_any {B Bs : Nat} {wt : Int} (a : Option Addr) (L : List BrickR) (cap : Nat) (hw : -1099511627776 ≤ wt ∧ wt ≤ 1099511627776) (hl : L.length ≤ 8) (hok : BrickOK L) :
    ∀ (d k : Nat) (s : Int) (st : Option Int) (w : World), k + d = L.length → 0 ≤ s → s + restC (L.drop k) ≤ 503316480 → (∀ b, st = some b → 0 ≤ b ∧ b ≤ 503316480) →
      NearS B w Bs wt st → SearchAt B w Bs a L cap → Bricks B w a L →
      Calls Tryz.prog 63 #[.int .i64 k, .int .i64 s, .pointer (some ⟨B + 1, 0, none⟩), .pointer (some ⟨B, 0, none⟩), .pointer (some ⟨B + 3, 0, none⟩), .pointer (some ⟨B + 4, 0, none⟩), .pointer (some ⟨B + 2, 0, none⟩), .pointer (some ⟨B + 5, 0, none⟩)] w fun e w' => e = .returned (.tuple #[]) ∧ NearS B w' Bs wt (visitN wt (L.drop k) s st) ∧ Below B w w' := by
  intro d
  induction d with
  | zero =>
    intro k s st w hk hs0 hs1 hbd hV hS hB
    have hk' : k = L.length := by omega
    have e0 : L.drop k = [] := by rw [hk']; exact List.drop_length
    have hz : restC (L.drop k) = 0 := by rw [e0]; rfl
    by_cases c : ∃ b, st = some b ∧ (farN wt b < leastN wt s (restC (L.drop k)) ∨ (leastN wt s (restC (L.drop k)) = farN wt b ∧ b ≤ s))
    · obtain ⟨b, rfl, h⟩ := c
      rw [visitN_skip wt (L.drop k) s b (fun x hx => hok x (List.mem_of_mem_drop hx)) _ rfl h]
      refine (near_skip a L cap k s b w (by omega) hw ⟨hs0, hs1⟩ (by omega) (hbd b rfl) hV hS h).mono ?_
      rintro e w' ⟨rfl, m, rfl⟩
      exact ⟨rfl, hV.grow (below_drewN (Below.refl _ _) m), below_drewN (Below.refl _ _) m⟩
    · have hgo : ∀ b, st = some b → ¬ (farN wt b < leastN wt s (restC (L.drop k)) ∨ (leastN wt s (restC (L.drop k)) = farN wt b ∧ b ≤ s)) := fun b e h => c ⟨b, e, h⟩
      have hF : visitN wt (L.drop k) s st = some s := by
        rw [e0]
        unfold visitN stepN
        cases st with
        | none => rfl
        | some b =>
          have := hgo b rfl
          rw [hz] at this
          have hn : nearer wt s b := by
            unfold leastN at this
            unfold nearer
            unfold farN at this ⊢
            split at this <;> split <;> omega
          simp only []
          rw [if_pos hn]
      rw [hF]
      exact near_leaf a L cap k s st w (by omega) hw ⟨hs0, hs1⟩ (by omega) hbd hV hS hgo hk'
  | succ d ih =>
    intro k s st w hk hs0 hs1 hbd hV hS hB
    have hr : 0 ≤ restC (L.drop k) := (rest_bd (fun x hx => hok x (List.mem_of_mem_drop hx) : BrickOK (L.drop k))).1
    by_cases c : ∃ b, st = some b ∧ (farN wt b < leastN wt s (restC (L.drop k)) ∨ (leastN wt s (restC (L.drop k)) = farN wt b ∧ b ≤ s))
    · obtain ⟨b, rfl, h⟩ := c
      rw [visitN_skip wt (L.drop k) s b (fun x hx => hok x (List.mem_of_mem_drop hx)) _ rfl h]
      refine (near_skip a L cap k s b w (by omega) hw ⟨hs0, hs1⟩ (by omega) (hbd b rfl) hV hS h).mono ?_
      rintro e w' ⟨rfl, m, rfl⟩
      exact ⟨rfl, hV.grow (below_drewN (Below.refl _ _) m), below_drewN (Below.refl _ _) m⟩
    · have hgo : ∀ b, st = some b → ¬ (farN wt b < leastN wt s (restC (L.drop k)) ∨ (leastN wt s (restC (L.drop k)) = farN wt b ∧ b ≤ s)) := fun b e h => c ⟨b, e, h⟩
      have hlt : k < L.length := by omega
      obtain ⟨w1, w2, c1, c2⟩ := ok_bg hok hlt
      have hd := restC_drop hlt
      refine near_node a L cap k s st w (by omega) hw ⟨hs0, hs1⟩ hr hbd hV hS hgo hl hlt hok hB fun x st' w' hx hb' hV' hS' hB' => ?_
      have m1 : (x : Int) * (bg L k).weight ≤ (bg L k).count * (bg L k).weight := Int.mul_le_mul_of_nonneg_right hx (by omega)
      have m2 : 0 ≤ (x : Int) * (bg L k).weight := Int.mul_nonneg (by omega) (by omega)
      have m3 : (bg L k).weight * (bg L k).count = (bg L k).count * (bg L k).weight := Int.mul_comm _ _
      exact ih (k + 1) (s + x * (bg L k).weight) st' w' (by omega) (by omega) (by omega) hb' hV' hS' hB'
theorem near_start (w : World) (Bs B : Nat) (wt : Int) (hB : w.heap.size = B) (W : World) (hW : W = ((((((w.alloc (.cells #[.pointer (some ⟨Bs, 0, none⟩)] 65)).alloc (.cells #[.int .i64 wt] 3)).alloc (.cells #[.int .i64 0] 3)).alloc (.cells #[.bool false] 4)).alloc (.cells #[.func (.func 62) #[] #[.pointer (some ⟨B + 1, 0, none⟩)]] 67)).alloc (.cells #[.func (.func 63) #[] #[.pointer (some ⟨B + 1, 0, none⟩), .pointer (some ⟨B, 0, none⟩), .pointer (some ⟨B + 3, 0, none⟩), .pointer (some ⟨B + 4, 0, none⟩), .pointer (some ⟨B + 2, 0, none⟩), .pointer (some ⟨B + 5, 0, none⟩)]] 86))) :
    NearS B W Bs wt none ∧ Below B w W := by
  subst hB
  have hb : Below w.heap.size w W := by
    rw [hW]
    refine Below.alloc (Below.alloc (Below.alloc (Below.alloc (Below.alloc (below_new w _) ?_ _) ?_ _) ?_ _) ?_ _) ?_ _ <;> (simp <;> omega)
  refine ⟨⟨?_, ?_, ?_, ?_, ?_, ?_, ?_, ?_, ?_⟩, hb⟩
  all_goals subst hW
  all_goals simp [go_sem]
set_option maxRecDepth 100000 in
set_option maxHeartbeats 16000000 in
theorem nearest_any {Bs : Nat} (wt : Int) (a : Option Addr) (L : List BrickR) (cap : Nat) (w : World) (hw : -1099511627776 ≤ wt ∧ wt ≤ 1099511627776) (hl : L.length ≤ 8) (hok : BrickOK L) (hS : SearchAt w.heap.size w Bs a L cap) (hBK : Bricks w.heap.size w a L) :
    Calls Tryz.prog 41 #[.pointer (some ⟨Bs, 0, none⟩), .int .i64 wt] w fun e w' => e = .returned (.int .i64 (nearP wt L)) ∧ Below w.heap.size w w' := by
  have HSE := Lib.hid hS
  have HBK := Lib.hid hBK
  have HOK := Lib.hid hok
  have HRB : Hid ((0 : Int) + restC (L.drop 0) ≤ 503316480) := Lib.hid (by have := (bounds_bg hok hl).2; rw [List.drop_zero]; omega)
  have HF : Hid (visitN wt (L.drop 0) 0 none = some (nearP wt L)) := Lib.hid (nearP_some hok)
  clear hS hBK hok
  go_enter Tryz.func41, Tryz.ntmps41
  go_upto_region 5 with (fail)
  simp only [Nat.add_assoc, Nat.reduceAdd]
  obtain ⟨B, hB⟩ : ∃ B, w.heap.size = B := ⟨_, rfl⟩
  have HBe := Lib.hid hB
  rw [hB] at HSE HBK
  simp only [hB]
  obtain ⟨W6, hW⟩ : ∃ W, W = ((((((w.alloc (.cells #[.pointer (some ⟨Bs, 0, none⟩)] 65)).alloc (.cells #[.int .i64 wt] 3)).alloc (.cells #[.int .i64 0] 3)).alloc (.cells #[.bool false] 4)).alloc (.cells #[.func (.func 62) #[] #[.pointer (some ⟨B + 1, 0, none⟩)]] 67)).alloc (.cells #[.func (.func 63) #[] #[.pointer (some ⟨B + 1, 0, none⟩), .pointer (some ⟨B, 0, none⟩), .pointer (some ⟨B + 3, 0, none⟩), .pointer (some ⟨B + 4, 0, none⟩), .pointer (some ⟨B + 2, 0, none⟩), .pointer (some ⟨B + 5, 0, none⟩)]] 86)) := ⟨_, rfl⟩
  obtain ⟨hV, hB6⟩ := near_start w Bs B wt hB W6 hW
  have HV := Lib.hid hV
  have hcv := hV.cv
  rw [← hW]
  clear hW hV hB
  go_wp2_with (go_at_call 63; (refine (near_any a L cap hw hl HOK.out L.length 0 0 none _ (by omega) (Int.le_refl _) HRB.out (fun _ h => by cases h) HV.out (HSE.out.keep hB6) (HBK.out.below hB6)).mono ?_); rintro e y ⟨rfl, hVy, hBy⟩; have hV2 := hVy; rw [HF.out] at hV2; have q2 := hV2.cb; have hBw := hB6.trans hBy; clear hVy hV2)
  go_ret
  exact ⟨rfl, by rw [HBe.out]; exact hBw⟩
def nearC (wt : Int) (L : List BrickR) : St := if brickB L = true ∧ -1099511627776 ≤ wt ∧ wt ≤ 1099511627776 then winC (nearP wt L) (nearP wt L) L else none
def nearE (wt : Int) (L : List BrickR) : Int := if brickB L = true then (if -1099511627776 ≤ wt ∧ wt ≤ 1099511627776 then winE (nearP wt L) (nearP wt L) L else 2) else 1
set_option maxRecDepth 100000 in
set_option maxHeartbeats 16000000 in
theorem near26_any (wt : Int) (a : Option Addr) (L : List BrickR) (cap : Nat) (w : World) (hcap : L.length ≤ cap) (h : Bricks w.heap.size w a L) :
    Calls Tryz.prog 17 #[.slice a L.length cap, .int .i64 wt] w fun e w' => Hid (∃ v, e = .returned (.tuple #[v, .int .i64 (nearE wt L)]) ∧ RowV w.heap.size w' v (nearC wt L)) ∧ Below w.heap.size w w' := by
  have HU := Lib.hid h
  clear h
  cases hb : brickB L
  · have HB := Lib.hid hb
    have HC : Hid (nearC wt L = none) := Lib.hid (by unfold nearC; rw [hb]; rfl)
    have HE : Hid (nearE wt L = 1) := Lib.hid (by unfold nearE; rw [hb]; rfl)
    clear hb
    go_enter Tryz.func17, Tryz.ntmps17
    go_wp2_with (go_at_call 37; (with_reducible refine (valid_any _ L _ _ hcap HU.out).mono ?_); rintro e w1 ⟨rfl, hb1⟩; rw [HB.out])
    go_ret2
    rw [HC.out, HE.out]
    exact ⟨Lib.hid ⟨_, rfl, rfl⟩, hb1⟩
  have HB := Lib.hid hb
  obtain ⟨hl, _, _, hok⟩ := brick_ok hb
  have HOK := Lib.hid hok
  by_cases q1 : wt < -1099511627776
  · have HC : Hid (nearC wt L = none) := Lib.hid (by unfold nearC; rw [if_neg (by omega)])
    have HE : Hid (nearE wt L = 2) := Lib.hid (by unfold nearE; rw [if_pos hb, if_neg (by omega)])
    clear hb hok
    have g1 : decide (wt < -1099511627776) = true := decide_eq_true q1
    go_enter Tryz.func17, Tryz.ntmps17
    go_wp2_with (go_at_call 37; (with_reducible refine (valid_any _ L _ _ hcap HU.out).mono ?_); rintro e w1 ⟨rfl, hb1⟩; rw [HB.out])
    go_ret2
    rw [HC.out, HE.out]
    exact ⟨Lib.hid ⟨_, rfl, rfl⟩, hb1⟩
  · by_cases q2 : 1099511627776 < wt
    · have HC : Hid (nearC wt L = none) := Lib.hid (by unfold nearC; rw [if_neg (by omega)])
      have HE : Hid (nearE wt L = 2) := Lib.hid (by unfold nearE; rw [if_pos hb, if_neg (by omega)])
      clear hb hok
      have g1 : decide (wt < -1099511627776) = false := decide_eq_false q1
      have g2 : decide (1099511627776 < wt) = true := decide_eq_true q2
      go_enter Tryz.func17, Tryz.ntmps17
      go_wp2_with (go_at_call 37; (with_reducible refine (valid_any _ L _ _ hcap HU.out).mono ?_); rintro e w1 ⟨rfl, hb1⟩; rw [HB.out])
      go_ret2
      rw [HC.out, HE.out]
      exact ⟨Lib.hid ⟨_, rfl, rfl⟩, hb1⟩
    · have HC : Hid (nearC wt L = winC (nearP wt L) (nearP wt L) L) := Lib.hid (by unfold nearC; rw [if_pos ⟨hb, by omega, by omega⟩])
      have HE : Hid (nearE wt L = winE (nearP wt L) (nearP wt L) L) := Lib.hid (by unfold nearE; rw [if_pos hb, if_pos ⟨by omega, by omega⟩])
      clear hb hok
      have g1 : decide (wt < -1099511627776) = false := decide_eq_false q1
      have g2 : decide (1099511627776 < wt) = false := decide_eq_false q2
      have hw : -1099511627776 ≤ wt ∧ wt ≤ 1099511627776 := by omega
      go_enter Tryz.func17, Tryz.ntmps17
      go_wp2_with (first
        | (go_at_call 37; (with_reducible refine (valid_any _ L _ _ hcap HU.out).mono ?_); rintro e w1 ⟨rfl, hb1⟩; rw [HB.out])
        | (go_at_call 40; (with_reducible refine (newSearch_any _ L _ _ HOK.out hl (HU.out.grow hb1)).mono ?_); rintro e w2 ⟨hx, hb2⟩; obtain ⟨Bs, rfl, hBs, hSE⟩ := hx.out; have HSE := Lib.hid hSE; have hB2 := hb1.trans (hb2.mono hb1.size); clear hx hSE)
        | (go_at_call 41; (with_reducible refine (nearest_any _ _ L _ _ hw hl HOK.out HSE.out (HU.out.grow hB2)).mono ?_); rintro e w3 ⟨rfl, hb3⟩; have hB3 := hB2.trans (hb3.mono hB2.size))
        | (go_at_call 18; (with_reducible refine (window_any _ _ _ L _ _ hcap (HU.out.grow hB3)).mono ?_); rintro e w4 ⟨hx, hb4⟩; obtain ⟨v, rfl, hv⟩ := hx.out; have HV := Lib.hid (hv.base hB3.size); have hB4 := hB3.trans (hb4.mono hB3.size); clear hx hv))
      go_ret2
      rw [HC.out, HE.out]
      exact ⟨Lib.hid ⟨_, rfl, HV.out⟩, hB4⟩
end Go.Proofs.YtbniclapaigkkaaGreat
