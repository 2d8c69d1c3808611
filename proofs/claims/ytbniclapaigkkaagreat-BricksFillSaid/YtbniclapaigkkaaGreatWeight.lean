/-
  THE WALK of arbor's Weight.
-/
import Derived.Test.YtbniclapaigkkaaGreatSumW
namespace Go.Proofs.YtbniclapaigkkaaGreat
open Go.RowKit Go.Shelf
def weightE (L : List BrickR) (c : List Int) : Int := if brickB L = true then (if c.length = L.length then (if IsC L c then 0 else 2) else 3) else 1
def weightN (L : List BrickR) (c : List Int) : Int := if brickB L = true ∧ IsC L c then sumC L c else 0
set_option maxRecDepth 100000 in
set_option maxHeartbeats 8000000 in
theorem weight_any (a : Option Addr) (L : List BrickR) (cap : Nat) (ac : Option Addr) (c : List Int) (cc : Nat) (w : World) (hcap : L.length ≤ cap) (h : Bricks w.heap.size w a L) (hN : Nums w.heap.size w ac c) :
    Calls Tryz.prog 13 #[.slice a L.length cap, .slice ac c.length cc] w fun e w' => e = .returned (.tuple #[.int .i64 (weightN L c), .int .i64 (weightE L c)]) ∧ Below w.heap.size w w' := by
  have HU := Lib.hid h
  have HN := Lib.hid hN
  clear h hN
  cases hb : brickB L
  · have HB := Lib.hid hb
    have HC : Hid (weightN L c = 0) := Lib.hid (by unfold weightN; rw [hb]; rfl)
    have HE : Hid (weightE L c = 1) := Lib.hid (by unfold weightE; rw [hb]; rfl)
    rw [HC.out, HE.out]
    clear hb
    go_enter Tryz.func13, Tryz.ntmps13
    go_wp2_with (go_at_call 37; (with_reducible refine (valid_any _ L _ _ hcap HU.out).mono ?_); rintro e w1 ⟨rfl, hb1⟩; rw [HB.out])
    go_ret2
    exact ⟨rfl, hb1⟩
  have HB := Lib.hid hb
  obtain ⟨hl, _, _, hok⟩ := brick_ok hb
  by_cases he : c.length = L.length
  · have HOK := Lib.hid hok
    have HE := Lib.hid he
    have HYES : Hid ((∀ j, j < L.length → 0 ≤ ig c j ∧ ig c j ≤ (bg L j).count) → weightN L c = sumTo L c L.length ∧ weightE L c = 0) := Lib.hid fun h => by
      have hi : IsC L c := isC_iff.2 ⟨he, h⟩
      unfold weightN weightE
      rw [if_pos ⟨hb, hi⟩, if_pos hb, if_pos he, if_pos hi, sumTo_all he]
      exact ⟨rfl, rfl⟩
    have HNO : Hid (∀ j, j < L.length → (ig c j < 0 ∨ (bg L j).count < ig c j) → weightN L c = 0 ∧ weightE L c = 2) := Lib.hid fun j hj h => by
      have hi : ¬ IsC L c := fun hi => by have := (isC_iff.1 hi).2 j hj; omega
      unfold weightN weightE
      rw [if_neg fun h => hi h.2, if_pos hb, if_pos he, if_neg hi]
      exact ⟨rfl, rfl⟩
    have HSB : Hid (∀ k, k ≤ L.length → (∀ j, j < k → 0 ≤ ig c j ∧ ig c j ≤ (bg L j).count) → 0 ≤ sumTo L c k ∧ sumTo L c k ≤ 62914560 * (k : Int)) := Lib.hid fun k => by
      induction k with
      | zero => exact fun _ _ => by simp [sumTo]
      | succ k ih =>
        intro hk h
        obtain ⟨i1, i2⟩ := ih (by omega) fun j hj => h j (by omega)
        obtain ⟨w1, w2, _, c2⟩ := ok_bg hok (show k < L.length by omega)
        obtain ⟨n1, n2⟩ := h k (by omega)
        have a1 : 0 ≤ (bg L k).weight * ig c k := Int.mul_nonneg (by omega) n1
        have a2 : (bg L k).weight * ig c k ≤ 1048576 * 60 := Int.mul_le_mul w2 (by omega) n1 (by omega)
        simp only [sumTo]
        omega
    have g1 : ((L.length : Int) != (L.length : Int)) = false := bne_self_eq_false _
    rw [he]
    clear hb hok he
    go_enter Tryz.func13, Tryz.ntmps13
    go_wp2_with (go_at_call 37; (with_reducible refine (valid_any _ L _ _ hcap HU.out).mono ?_); rintro e w1 ⟨rfl, hb1⟩; rw [HB.out])
    have HU1 := Lib.hid (HU.out.below hb1)
    have HN1 := Lib.hid (HN.out.below hb1)
    clear HU HN
    go_loop [6, 21] (fun s i => ∃ k : Nat, k ≤ L.length ∧ i = .int .i64 k ∧ s = .int .i64 (sumTo L c k) ∧ Hid (∀ j, j < k → 0 ≤ ig c j ∧ ig c j ≤ (bg L j).count)) (fun _ i => L.length - (intOf i).toNat)
    case atStart => exact ⟨0, Nat.zero_le _, rfl, rfl, Lib.hid fun j hj => absurd hj (Nat.not_lt_zero _)⟩
    case round =>
      obtain ⟨k, hk, rfl, rfl, HS⟩ := hrel
      by_cases hlt : k < L.length
      · obtain ⟨b, off, rfl, hb, hx⟩ := HU1.out (by omega)
        obtain ⟨_, e1, e3⟩ := hx k hlt
        obtain ⟨b2, off2, rfl, hb2, hx2⟩ := HN1.out (by have := HE.out; omega)
        have e2 := hx2 k (by have := HE.out; omega)
        obtain ⟨q1, q2, q3, q4⟩ := ok_bg HOK.out hlt
        obtain ⟨s1, s2⟩ := HSB.out k hk HS.out
        have HS1 : Hid (sumTo L c (k + 1) = sumTo L c k + (bg L k).weight * ig c k) := Lib.hid rfl
        have HN2 := Lib.hid (HNO.out k hlt)
        have HK : Hid (0 ≤ ig c k → ig c k ≤ (bg L k).count → ∀ j, j < k + 1 → 0 ≤ ig c j ∧ ig c j ≤ (bg L j).count) := Lib.hid fun h1 h2 j hj => by
          rcases Nat.lt_succ_iff_lt_or_eq.1 hj with h | rfl
          · exact HS.out j h
          · exact ⟨h1, h2⟩
        clear hx hx2
        by_cases p1 : ig c k < 0
        · have HZ := Lib.hid (HN2.out (Or.inl p1))
          have g2 : decide (ig c k < 0) = true := decide_eq_true p1
          clear HN2 HK
          generalize ig c k = n at *
          go_wp2_with fail
          go_ret2
          rw [HZ.out.1, HZ.out.2]
          exact ⟨rfl, hb1⟩
        · have g2 : decide (ig c k < 0) = false := decide_eq_false p1
          by_cases p2 : (bg L k).count < ig c k
          · have HZ := Lib.hid (HN2.out (Or.inr p2))
            have g3 : decide ((bg L k).count < ig c k) = true := decide_eq_true p2
            clear HN2 HK
            generalize ig c k = n at *
            generalize (bg L k).count = C at *
            go_wp2_with fail
            go_ret2
            rw [HZ.out.1, HZ.out.2]
            exact ⟨rfl, hb1⟩
          · have g3 : decide ((bg L k).count < ig c k) = false := decide_eq_false p2
            have HK1 := Lib.hid (HK.out (by omega) (by omega))
            clear HN2 HK
            have a1 : 0 ≤ (bg L k).weight * ig c k := Int.mul_nonneg (by omega) (by omega)
            have a2 : (bg L k).weight * ig c k ≤ 1048576 * 60 := Int.mul_le_mul q2 (by omega) (by omega) (by omega)
            generalize ig c k = n at *
            generalize (bg L k).count = C at *
            generalize (bg L k).weight = W at *
            generalize sumTo L c k = s at *
            have am : W * n = n * W := Int.mul_comm _ _
            rw [am] at a1 a2 HS1
            have t1 : IntKind.i64.wrap (n * W) = n * W := IntWalk.i64_in _ (by omega)
            have t2 : IntKind.i64.wrap (s + n * W) = s + n * W := IntWalk.i64_in _ (by omega)
            clear am
            go_wp2_with fail
            go_round
            case rel => exact ⟨k + 1, by omega, by go_num, by rw [HS1.out], HK1⟩
            case measure => simp [intOf]; omega
      · obtain rfl : k = L.length := by omega
        have HZ := Lib.hid (HYES.out HS.out)
        go_wp2_with fail
        go_ret2
        rw [HZ.out.1, HZ.out.2]
        exact ⟨rfl, hb1⟩
  · have HC : Hid (weightN L c = 0) := Lib.hid (by unfold weightN; rw [if_neg]; rintro ⟨_, h⟩; exact he (isC_len h))
    have HE : Hid (weightE L c = 3) := Lib.hid (by unfold weightE; rw [if_pos hb, if_neg he])
    rw [HC.out, HE.out]
    have g1 : ((c.length : Int) != (L.length : Int)) = true := bne_iff_ne.2 (by omega)
    clear hb hok he
    go_enter Tryz.func13, Tryz.ntmps13
    go_wp2_with (go_at_call 37; (with_reducible refine (valid_any _ L _ _ hcap HU.out).mono ?_); rintro e w1 ⟨rfl, hb1⟩; rw [HB.out])
    go_ret2
    exact ⟨rfl, hb1⟩
end Go.Proofs.YtbniclapaigkkaaGreat
