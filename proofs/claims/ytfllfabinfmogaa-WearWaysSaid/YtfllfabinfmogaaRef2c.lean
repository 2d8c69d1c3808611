/-
  THE WALK of the reference's binary gcd (02), where the high words are 0.
-/
import Derived.Test.YtfllfabinfmogaaRef2b
import Derived.Laws.Bits64b
import Derived.StillTailTactics
import Derived.Outline
namespace Go.Proofs.Ytfllfabinfmogaa
open Go.RowKit Go.Shelf

theorem and_one (x : Int) (h0 : 0 ≤ x) (h1 : x < 18446744073709551616) : bits .and .u64 x 1 = x % 2 := by
  obtain ⟨n, rfl⟩ := Int.eq_ofNat_of_zero_le h0
  have h := bits_and_u64_nat n 1 (by omega) (by omega)
  have e : n &&& 1 = n % 2 := Nat.and_two_pow_sub_one_eq_mod n 1
  rw [e] at h
  exact h.trans (by omega)

/-- The measures: the number in a block, of two. -/
def mA (n : Nat) (w : World) : Nat := (intOf ((w.cell? ⟨n, 1, none⟩).getD (.int .i64 0))).toNat
theorem mA_of {w : World} {n : Nat} {x y : Int} (h : UU w n x y) : mA n w = x.toNat := by unfold mA; rw [h.2.1]; rfl
theorem mB_of {w : World} {n : Nat} {x y : Int} (h : UU w n x y) : mA (n + 1) w = y.toNat := by unfold mA; rw [h.2.2.2.1]; rfl
def mAB (n : Nat) (w : World) : Nat := mA n w + mA (n + 1) w
theorem mAB_of {w : World} {n : Nat} {x y : Int} (h : UU w n x y) : mAB n w = x.toNat + y.toNat := by unfold mAB; rw [mA_of h, mB_of h]
/-- What loop 2 keeps. -/
def G2 (g : Nat) (x y : Int) : Prop := Int.gcd x y = g ∧ g % 2 = 1
/-- What loop 5 keeps. -/
def G5 (k : Nat) (g : Nat) (j : Nat) (z : Int) : Prop := (2 : Int) ^ j * z = 2 ^ k * (g : Int)

set_option maxRecDepth 100000 in
set_option maxHeartbeats 16000000 in
theorem rgcd_any (a b : Int) (a0 : 0 ≤ a) (a1 : a < 18446744073709551616) (b0 : 0 < b) (b1 : b < 18446744073709551616) (w : World) :
    Calls Try.prog 71 #[.agg #[.int .u64 0, .int .u64 a], .agg #[.int .u64 0, .int .u64 b]] w fun e w' => e = .returned (.agg #[.int .u64 0, .int .u64 (Int.gcd a b : Int)]) ∧ Below w.heap.size w w' := by
  by_cases ha : a = 0
  · have ha' : (a == 0) = true := by simpa using ha
    have HR : Hid ((Int.gcd a b : Int) = b) := Lib.hid (by rw [ha]; simp; omega)
    rw [HR.out]
    clear ha
    go_enter Try.func71, Try.ntmps71
    go_wp2_with fail
    refine bodyPost_ret (v := .agg #[.int .u64 0, .int .u64 b]) (by simp [results, Try.results71, go_sem]) rfl ⟨rfl, ?_⟩
    exact ((below_new _ _).alloc (by simp) _).alloc (by simp <;> omega) _
  · have ha' : (a == 0) = false := by simpa using ha
    have ap : 0 < a := by omega
    clear ha
    have HGB : Hid ((Int.gcd a b : Int) ≤ b) := Lib.hid (Int.le_of_dvd b0 (Int.gcd_dvd_right a b))
    obtain ⟨GG, hGG⟩ : ∃ G : Int, (Int.gcd a b : Int) = G := ⟨_, rfl⟩
    rw [hGG]
    rw [hGG] at HGB
    have HGG := Lib.hid hGG
    clear hGG
    go_enter Try.func71, Try.ntmps71
    go_wp2_with fail
    go_loopw [5] (fun t wr => ∃ (k : Nat) (x y : Int), t = .int .i64 k ∧ k ≤ 64 ∧ 0 < x ∧ x < 18446744073709551616 ∧ 0 < y ∧ y < 18446744073709551616 ∧ Hid (Int.gcd a b = 2 ^ k * Int.gcd x y ∧ 2 ^ k * x ≤ a) ∧ UU wr w.heap.size x y ∧ Below w.heap.size w wr) (fun _ wr => mA w.heap.size wr)
    case atStart =>
      refine ⟨0, a, b, rfl, by omega, ap, a1, b0, b1, Lib.hid ⟨by simp, by simp⟩, ?_, ?_⟩
      · refine ⟨?_, ?_, ?_, ?_, ?_, ?_, ?_, ?_, ?_, ?_, ?_, ?_, ?_⟩
        all_goals first | (simp [go_sem, World.cell?_alloc_past]; done) | (simp; done) | (simp <;> omega)
      · exact ((below_new _ _).alloc (by simp) _).alloc (by simp <;> omega) _
    case round =>
      obtain ⟨k, x, y, rfl, hk, x0, x1, y0, y1, HG, hU, hB⟩ := hrel
      have HU := Lib.hid hU
      obtain ⟨u0, u1, u2, u3, u4, u5, f0, f1, f2, f3, f4, f5, uz⟩ := hU
      have hx1 := and_one x (by omega) x1
      have hy1 := and_one y (by omega) y1
      by_cases cb : x % 2 = 0 ∧ y % 2 = 0
      · have cx' : (x % 2 == 0) = true := by simpa using cb.1
        have cy' : (y % 2 == 0) = true := by simpa using cb.2
        have kl : k < 64 := by
          rcases Nat.lt_or_ge k 64 with l | l
          · exact l
          · obtain rfl : k = 64 := by omega
            have := HG.out.2
            omega
        have HN : Hid (Int.gcd a b = 2 ^ (k + 1) * Int.gcd (x / 2) (y / 2) ∧ 2 ^ (k + 1) * (x / 2) ≤ a) := Lib.hid ⟨by
            rw [HG.out.1, gcd_half2 cb.1 cb.2, Nat.pow_succ, Nat.mul_assoc], by
            have h := HG.out.2
            have e : (2 : Int) ^ (k + 1) * (x / 2) = 2 ^ k * x := by rw [Int.pow_succ, Int.mul_assoc, show 2 * (x / 2) = x by omega]
            rw [e]; exact h⟩
        have s1 : IntKind.i64.wrap ((k : Int) + 1) = (k : Int) + 1 := IntWalk.i64_in _ (by omega)
        have hbr := Below.refl wr.heap.size wr
        have x2 : 0 < x / 2 := by omega
        have y2 : 0 < y / 2 := by omega
        clear cb
        go_wp2_with fail
        go_region_with (first
          | (go_at_call 79; (with_reducible refine (half_any x (by omega) x1 _).mono ?_); rintro e w1 ⟨rfl, hb1⟩; have hx : Below wr.heap.size wr w1 := hbr.drew.trans hb1; obtain ⟨u0, u1, u2, u3, u4, u5, f0, f1, f2, f3, f4, f5, uz⟩ := UU.carry HU.out hx)
          | (go_at_call 79; (with_reducible refine (half_any y (by omega) y1 _).mono ?_); rintro e w2 ⟨rfl, hb2⟩; have hy := held_next (wr := wr) hx hb2; obtain ⟨u0, u1, u2, u3, u4, u5, f0, f1, f2, f3, f4, f5, uz⟩ := UU.carry HU.out hy))
        all_goals simp only [Act.put, List.setIfInBounds_toArray, List.set_cons_zero, List.set_cons_succ, List.getElem_toArray, List.getElem_cons_succ, List.getElem_cons_zero]
        all_goals go_wp2_with fail
        all_goals go_roundw
        all_goals have U2 := UU.carry HU.out hy
        all_goals have B2 : Below w.heap.size w w2 := hB.trans (hy.mono hB.size)
        all_goals first
          | exact ⟨k + 1, x / 2, y / 2, by go_num, by omega, x2, by omega, y2, by omega, HN, by first | exact (U2.setA _).setB _ | exact (U2.setB _).setA _, by repeat' (first | exact B2 | refine Below.setCell ?_ (by simp) _)⟩
          | ((first | rw [mA_of ((U2.setA (x / 2)).setB (y / 2)), mA_of HU.out] | rw [mA_of ((U2.setB (y / 2)).setA (x / 2)), mA_of HU.out]); omega)
      · have HO : Hid (Int.gcd x y % 2 = 1) := Lib.hid (odd_one (by omega))
        by_cases cx : x % 2 = 0
        all_goals
          first
            | (have cx' : (x % 2 == 0) = true := by simpa using cx
               have cy' : (y % 2 == 0) = false := by simp; omega
               clear cb cx
               go_wp2_with fail)
            | (have cx' : (x % 2 == 0) = false := by simpa using cx
               clear cb cx
               go_wp2_with fail)
          obtain ⟨g, hg⟩ : ∃ g : Nat, Int.gcd x y = g := ⟨_, rfl⟩
          have HP : Hid (GG = 2 ^ k * (g : Int)) := Lib.hid (by have := HG.out.1; rw [hg] at this; rw [← HGG.out, this]; simp)
          have HG2 : Hid (G2 g x y) := Lib.hid ⟨hg, by rw [← hg]; exact HO.out⟩
          clear HO HG hg u0 u1 u2 u3 u4 u5 f0 f1 f2 f3 f4 f5 uz hx1 hy1 
          obtain ⟨wp, rfl⟩ : ∃ W : World, W = wr := ⟨_, rfl⟩
          go_loopw [] (fun wr => ∃ (x y : Int), 0 ≤ x ∧ x < 18446744073709551616 ∧ 0 < y ∧ y < 18446744073709551616 ∧ Hid (G2 g x y) ∧ UU wr w.heap.size x y ∧ Below w.heap.size w wr) (fun wr => mAB w.heap.size wr)
          case atStart => exact ⟨x, y, by omega, x1, y0, y1, HG2, HU.out, hB⟩
          case round =>
            obtain ⟨x, y, x0, x1, y0, y1, HG, hU, hB⟩ := hrel
            have HU := Lib.hid hU
            obtain ⟨u0, u1, u2, u3, u4, u5, f0, f1, f2, f3, f4, f5, uz⟩ := hU
            by_cases cz : x = 0
            · have cz' : (x == 0) = true := by simpa using cz
              have HZ : Hid (G5 k g k y) := Lib.hid (by
                have h := HG.out.1
                rw [cz] at h
                unfold G5
                rw [← h]
                congr 1
                simp
                omega)
              have HU2 : Hid (UU wr w.heap.size 0 y) := Lib.hid (by have := HU.out; rwa [cz] at this)
              clear cz HG HU HG2
              go_wp2_with fail
              clear u0 u1 u2 u3 u4 u5 f0 f1 f2 f3 f4 f5 uz cz'
              obtain ⟨wo, rfl⟩ : ∃ W : World, W = wr := ⟨_, rfl⟩
              go_loopw [5] (fun t wr => ∃ (j : Nat) (z : Int), t = .int .i64 j ∧ j ≤ 64 ∧ 0 < z ∧ z < 18446744073709551616 ∧ Hid (G5 k g j z) ∧ UU wr w.heap.size 0 z ∧ Below w.heap.size w wr) (fun t _ => (intOf t).toNat)
              case atStart => exact ⟨k, y, rfl, hk, y0, y1, HZ, HU2.out, hB⟩
              case round =>
                obtain ⟨j, z, rfl, hj, z0, z1, HG, hU, hB⟩ := hrel
                have HU := Lib.hid hU
                obtain ⟨u0, u1, u2, u3, u4, u5, f0, f1, f2, f3, f4, f5, uz⟩ := hU
                rcases (show j = 0 ∨ ∃ i, j = i + 1 by cases j with | zero => exact .inl rfl | succ i => exact .inr ⟨i, rfl⟩) with rfl | ⟨i, rfl⟩
                · obtain rfl : z = GG := by
                    have h := HG.out
                    unfold G5 at h
                    rw [Int.pow_zero, Int.one_mul, ← HP.out] at h
                    exact h
                  go_wp2_with fail
                  have l0 := (two_cells (v0 := .int .u64 0) (v1 := .int .u64 z) u4 u5).1
                  have l1 := (two_cells (v0 := .int .u64 0) (v1 := .int .u64 z) u4 u5).2
                  refine bodyPost_ret (v := .agg #[.int .u64 0, .int .u64 z]) (by simp [results, Try.results71, go_sem, l0, l1]) rfl ⟨rfl, ?_⟩
                  exact below_s _ _ (below_s _ _ hB (by simp <;> omega)) (by simp <;> omega)
                · have hz : z + z < 18446744073709551616 := by
                    have h := HG.out
                    unfold G5 at h
                    rw [← HP.out, Int.pow_succ, Int.mul_assoc] at h
                    have p1 : (1 : Int) ≤ 2 ^ i := by
                      have := Nat.one_le_two_pow (n := i)
                      have e : ((2 ^ i : Nat) : Int) = (2 : Int) ^ i := by simp
                      omega
                    have := Int.mul_le_mul_of_nonneg_right p1 (show 0 ≤ 2 * z by omega)
                    have := HGB.out
                    omega
                  have HN : Hid (G5 k g i (z + z)) := Lib.hid (by
                    have h := HG.out
                    unfold G5 at *
                    rw [Int.pow_succ, Int.mul_assoc, Int.two_mul] at h
                    exact h)
                  have hi0 : (0 : Int) ≤ i := by omega
                  clear HG
                  go_wp2_with (go_at_call 82; (with_reducible refine (rplus_any z z (by omega) (by omega) hz _).mono ?_); rintro e w1 ⟨rfl, hb1⟩; have U1 := UU.carry HU.out hb1; obtain ⟨u0, u1, u2, u3, u4, u5, f0, f1, f2, f3, f4, f5, uz⟩ := U1)
                  go_roundw
                  case rel => exact ⟨i, z + z, by go_num, by omega, by omega, hz, HN, (UU.carry HU.out hb1).setB _, below_s _ _ (below_s _ _ (hB.trans (hb1.mono hB.size)) (Nat.le_succ _)) (Nat.le_succ _)⟩
                  case measure => simp [intOf]
            · have cz' : (x == 0) = false := by simpa using cz
              have xp : 0 < x := by omega
              clear cz HG2
              have HUX := HU
              go_wp2_with fail
              clear u0 u1 u2 u3 u4 u5 f0 f1 f2 f3 f4 f5 uz cz' HU
              obtain ⟨wo, rfl⟩ : ∃ W : World, W = wr := ⟨_, rfl⟩
              go_loopw [] (fun wr => ∃ x' : Int, 0 < x' ∧ x' ≤ x ∧ Hid (G2 g x' y) ∧ UU wr w.heap.size x' y ∧ Below w.heap.size w wr) (fun wr => mA w.heap.size wr)
              case atStart => exact ⟨x, xp, Int.le_refl _, HG, HUX.out, hB⟩
              case round =>
                clear HG hB
                obtain ⟨x', xp', xl, HG, hU, hB⟩ := hrel
                have HU := Lib.hid hU
                obtain ⟨u0, u1, u2, u3, u4, u5, f0, f1, f2, f3, f4, f5, uz⟩ := hU
                have hx1 := and_one x' (by omega) (by omega)
                by_cases ex : x' % 2 = 0
                · have ex' : (x' % 2 == 0) = true := by simpa using ex
                  have HN : Hid (G2 g (x' / 2) y) := Lib.hid ⟨by rw [gcd_halfL (by rw [HG.out.1]; exact HG.out.2) ex]; exact HG.out.1, HG.out.2⟩
                  have x2 : 0 < x' / 2 := by omega
                  clear ex HG
                  go_wp2_with (go_at_call 79; (with_reducible refine (half_any x' (by omega) (by omega) _).mono ?_); rintro e w1 ⟨rfl, hb1⟩; have U1 := UU.carry HU.out hb1; obtain ⟨u0, u1, u2, u3, u4, u5, f0, f1, f2, f3, f4, f5, uz⟩ := U1)
                  go_roundw
                  case rel => exact ⟨x' / 2, x2, by omega, HN, (UU.carry HU.out hb1).setA _, below_s _ _ (below_s _ _ (hB.trans (hb1.mono hB.size)) (Nat.le_refl _)) (Nat.le_refl _)⟩
                  case measure => rw [mA_of ((UU.carry HU.out hb1).setA (x' / 2)), mA_of HU.out]; omega
                · have ex' : (x' % 2 == 0) = false := by simpa using ex
                  clear ex
                  go_wp2_with fail
                  clear u0 u1 u2 u3 u4 u5 f0 f1 f2 f3 f4 f5 uz ex' hx1
                  obtain ⟨wq, rfl⟩ : ∃ W : World, W = wr := ⟨_, rfl⟩
                  go_loopw [] (fun wr => ∃ y' : Int, 0 < y' ∧ y' ≤ y ∧ Hid (G2 g x' y') ∧ UU wr w.heap.size x' y' ∧ Below w.heap.size w wr) (fun wr => mA (w.heap.size + 1) wr)
                  case atStart => exact ⟨y, y0, Int.le_refl _, HG, HU.out, hB⟩
                  case round =>
                    clear HG hB HU
                    obtain ⟨y', yp', yl, HG, hU, hB⟩ := hrel
                    have HU := Lib.hid hU
                    obtain ⟨u0, u1, u2, u3, u4, u5, f0, f1, f2, f3, f4, f5, uz⟩ := hU
                    have hy1 := and_one y' (by omega) (by omega)
                    by_cases ey : y' % 2 = 0
                    · have ey' : (y' % 2 == 0) = true := by simpa using ey
                      have HN : Hid (G2 g x' (y' / 2)) := Lib.hid ⟨by rw [gcd_halfR (by rw [HG.out.1]; exact HG.out.2) ey]; exact HG.out.1, HG.out.2⟩
                      have y2 : 0 < y' / 2 := by omega
                      clear ey HG
                      go_wp2_with (go_at_call 79; (with_reducible refine (half_any y' (by omega) (by omega) _).mono ?_); rintro e w1 ⟨rfl, hb1⟩; have U1 := UU.carry HU.out hb1; obtain ⟨u0, u1, u2, u3, u4, u5, f0, f1, f2, f3, f4, f5, uz⟩ := U1)
                      go_roundw
                      case rel => exact ⟨y' / 2, y2, by omega, HN, (UU.carry HU.out hb1).setB _, below_s _ _ (below_s _ _ (hB.trans (hb1.mono hB.size)) (Nat.le_succ _)) (Nat.le_succ _)⟩
                      case measure => rw [mB_of ((UU.carry HU.out hb1).setB (y' / 2)), mB_of HU.out]; omega
                    · have ey' : (y' % 2 == 0) = false := by simpa using ey
                      clear ey
                      have HUq := HU
                      by_cases lt : x' < y'
                      · have lt' : decide (x' < y') = true := decide_eq_true lt
                        have HN : Hid (G2 g (y' - x') x') := Lib.hid ⟨by rw [gcd_sub, Int.gcd_comm]; exact HG.out.1, HG.out.2⟩
                        go_upto_region 13 with (go_at_call 80; (with_reducible refine (rless_any x' y' _).mono ?_); rw [lt']; rintro e w1 ⟨rfl, hb1⟩; have U1 := UU.carry HU.out hb1; obtain ⟨u0, u1, u2, u3, u4, u5, f0, f1, f2, f3, f4, f5, uz⟩ := U1)
                        have U3 := ((UU.carry HU.out hb1).setA y').setB x'
                        have B3 : Below w.heap.size w ((((w1.setCell ⟨w.heap.size, 0, none⟩ (.int .u64 0)).setCell ⟨w.heap.size, 1, none⟩ (.int .u64 y')).setCell ⟨w.heap.size + 1, 0, none⟩ (.int .u64 0)).setCell ⟨w.heap.size + 1, 1, none⟩ (.int .u64 x')) := below_s _ _ (below_s _ _ (below_s _ _ (below_s _ _ (hB.trans (hb1.mono hB.size)) (Nat.le_refl _)) (Nat.le_refl _)) (Nat.le_succ _)) (Nat.le_succ _)
                        clear u0 u1 u2 u3 u4 u5 f0 f1 f2 f3 f4 f5 uz lt' ey' hy1 hb1 HU HG
                        generalize ((((w1.setCell ⟨w.heap.size, 0, none⟩ (.int .u64 0)).setCell ⟨w.heap.size, 1, none⟩ (.int .u64 y')).setCell ⟨w.heap.size + 1, 0, none⟩ (.int .u64 0)).setCell ⟨w.heap.size + 1, 1, none⟩ (.int .u64 x')) = w3 at *
                        have HU3 := Lib.hid U3
                        obtain ⟨u0, u1, u2, u3, u4, u5, f0, f1, f2, f3, f4, f5, uz⟩ := U3
                        go_wp2_with (go_at_call 81; (with_reducible refine (rminus_any y' x' (by omega) (by omega) (by omega) _).mono ?_); rintro e w4 ⟨rfl, hb4⟩; have U4 := UU.carry HU3.out hb4; obtain ⟨u0, u1, u2, u3, u4, u5, f0, f1, f2, f3, f4, f5, uz⟩ := U4)
                        go_roundw
                        case rel => exact ⟨y' - x', x', by omega, by omega, by omega, by omega, HN, (UU.carry HU3.out hb4).setA _, below_s _ _ (below_s _ _ (B3.trans (hb4.mono B3.size)) (Nat.le_refl _)) (Nat.le_refl _)⟩
                        case measure => rw [mAB_of ((UU.carry HU3.out hb4).setA (y' - x')), mAB_of HUX.out]; omega
                      · have lt' : decide (x' < y') = false := decide_eq_false lt
                        have HN : Hid (G2 g (x' - y') y') := Lib.hid ⟨by rw [gcd_sub]; exact HG.out.1, HG.out.2⟩
                        go_wp2_with (first | (go_at_call 80; (with_reducible refine (rless_any x' y' _).mono ?_); rw [lt']; rintro e w1 ⟨rfl, hb1⟩; have U1 := UU.carry HU.out hb1; obtain ⟨u0, u1, u2, u3, u4, u5, f0, f1, f2, f3, f4, f5, uz⟩ := U1) | (go_at_call 81; (with_reducible refine (rminus_any x' y' (by omega) (by omega) (by omega) _).mono ?_); rintro e w4 ⟨rfl, hb4⟩; have U4 := UU.carry (UU.carry HU.out hb1) hb4; obtain ⟨u0, u1, u2, u3, u4, u5, f0, f1, f2, f3, f4, f5, uz⟩ := U4))
                        have hb5 : Below wr.heap.size wr w4 := held_next hb1 hb4
                        go_roundw
                        case rel => exact ⟨x' - y', y', by omega, by omega, by omega, by omega, HN, (UU.carry HU.out hb5).setA _, below_s _ _ (below_s _ _ (hB.trans (hb5.mono hB.size)) (Nat.le_refl _)) (Nat.le_refl _)⟩
                        case measure => rw [mAB_of ((UU.carry HU.out hb5).setA (x' - y')), mAB_of HUX.out]; omega
end Go.Proofs.Ytfllfabinfmogaa
