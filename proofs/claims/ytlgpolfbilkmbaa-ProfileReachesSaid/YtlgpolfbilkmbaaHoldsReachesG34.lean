/-
  THE WALK of the reference's binary gcd (02), where the high words are 0: what its two numbers' memory looks like; the plain steps.
  THE WALK of the reference's binary gcd (02), where the high words are 0.
  THE WALK of the reference's comparison of two fractions (02) that are not negative.
  THE WALKS of the reference's Valid of fractions, and All; and of Valid of curves, where it answers true.
  THE WALK of the reference's Valid of curves, at valid curves whose times are not below 0.
-/
import Derived.Laws.Bits64b
import Derived.StillTailTactics
import Derived.Outline
import Derived.Test.YtlgpolfbilkmbaaRef2a
import Derived.Test.YtlgpolfbilkmbaaRat4
import Derived.Test.YtlgpolfbilkmbaaRCmp
import Derived.Test.YtlgpolfbilkmbaaTake
import Derived.Test.YtlgpolfbilkmbaaHoldsReachesG31
namespace Go.Proofs.Ytlgpolfbilkmbaa
open Go.RowKit Go.Shelf

/-- Binary gcd, plain. -/
theorem gcd_half2 {x y : Int} (hx : x % 2 = 0) (hy : y % 2 = 0) : Int.gcd x y = 2 * Int.gcd (x / 2) (y / 2) := by
  have h := Int.gcd_mul_left 2 (x / 2) (y / 2)
  rw [show 2 * (x / 2) = x by omega, show 2 * (y / 2) = y by omega] at h
  exact h
theorem gcd_half1 {x y : Int} (hx : x % 2 = 0) (hy : y % 2 = 1) : Int.gcd (x / 2) y = Int.gcd x y := by
  have c : Int.gcd 2 y = 1 := by
    rw [show y = 1 + (y / 2) * 2 by omega, Int.gcd_add_mul_right_right]
    rfl
  have h := Int.gcd_mul_right_left_of_gcd_eq_one (n := 2) (k := x / 2) c
  rw [show 2 * (x / 2) = x by omega] at h
  exact h.symm
theorem gcd_odd {x y : Int} (h : Int.gcd x y % 2 = 1) (hx : x % 2 = 0) : y % 2 = 1 := by
  rcases (show y % 2 = 0 ∨ y % 2 = 1 by omega) with c | c
  · have := gcd_half2 hx c; omega
  · exact c
theorem gcd_halfL {x y : Int} (h : Int.gcd x y % 2 = 1) (hx : x % 2 = 0) : Int.gcd (x / 2) y = Int.gcd x y := gcd_half1 hx (gcd_odd h hx)
theorem gcd_halfR {x y : Int} (h : Int.gcd x y % 2 = 1) (hy : y % 2 = 0) : Int.gcd x (y / 2) = Int.gcd x y := by
  rw [Int.gcd_comm x, Int.gcd_comm x]
  exact gcd_halfL (by rw [Int.gcd_comm]; exact h) hy
theorem gcd_sub {x y : Int} : Int.gcd (x - y) y = Int.gcd x y := by
  rw [Int.gcd_sub_self_left]
theorem odd_one {x y : Int} (hx : x % 2 = 1 ∨ y % 2 = 1) : Int.gcd x y % 2 = 1 := by
  rcases (show Int.gcd x y % 2 = 0 ∨ Int.gcd x y % 2 = 1 by omega) with c | c
  · have h2 : (2 : Nat) ∣ Int.gcd x y := Nat.dvd_of_mod_eq_zero c
    have d1 : (2 : Int) ∣ x := Int.dvd_trans (Int.natCast_dvd_natCast.2 h2) (Int.gcd_dvd_left x y)
    have d2 : (2 : Int) ∣ y := Int.dvd_trans (Int.natCast_dvd_natCast.2 h2) (Int.gcd_dvd_right x y)
    omega
  · exact c

def UU (w : World) (n : Nat) (x y : Int) : Prop := w.cell? ⟨n, 0, none⟩ = some (.int .u64 0) ∧ w.cell? ⟨n, 1, none⟩ = some (.int .u64 x) ∧ w.cell? ⟨n + 1, 0, none⟩ = some (.int .u64 0) ∧ w.cell? ⟨n + 1, 1, none⟩ = some (.int .u64 y) ∧ w.cell? ⟨n + 1 + 1, 0, none⟩ = some (.int .u64 0) ∧ w.cell? ⟨n + 1 + 1, 1, none⟩ = some (.int .u64 0) ∧ w.frozen? ⟨n, 0, none⟩ = false ∧ w.frozen? ⟨n, 1, none⟩ = false ∧ w.frozen? ⟨n + 1, 0, none⟩ = false ∧ w.frozen? ⟨n + 1, 1, none⟩ = false ∧ w.frozen? ⟨n + 1 + 1, 0, none⟩ = false ∧ w.frozen? ⟨n + 1 + 1, 1, none⟩ = false ∧ n + 1 + 1 < w.heap.size
theorem UU.carry {W w : World} {n : Nat} {x y : Int} (f : UU W n x y) (h : Below W.heap.size W w) : UU w n x y := by
  obtain ⟨a0, a1, a2, a3, a4, a5, b0, b1, b2, b3, b4, b5, c⟩ := f
  have e0 : n < W.heap.size := by omega
  have e1 : n + 1 < W.heap.size := by omega
  exact ⟨(h.cell (p := ⟨n, 0, none⟩) e0).trans a0, (h.cell (p := ⟨n, 1, none⟩) e0).trans a1, (h.cell (p := ⟨n + 1, 0, none⟩) e1).trans a2, (h.cell (p := ⟨n + 1, 1, none⟩) e1).trans a3, (h.cell (p := ⟨n + 1 + 1, 0, none⟩) c).trans a4, (h.cell (p := ⟨n + 1 + 1, 1, none⟩) c).trans a5, (h.frozen (p := ⟨n, 0, none⟩) e0).trans b0, (h.frozen (p := ⟨n, 1, none⟩) e0).trans b1, (h.frozen (p := ⟨n + 1, 0, none⟩) e1).trans b2, (h.frozen (p := ⟨n + 1, 1, none⟩) e1).trans b3, (h.frozen (p := ⟨n + 1 + 1, 0, none⟩) c).trans b4, (h.frozen (p := ⟨n + 1 + 1, 1, none⟩) c).trans b5, Nat.lt_of_lt_of_le c h.size⟩
theorem UU.setA {w : World} {n : Nat} {x y : Int} (f : UU w n x y) (z : Int) : UU ((w.setCell ⟨n, 0, none⟩ (.int .u64 0)).setCell ⟨n, 1, none⟩ (.int .u64 z)) n z y := by
  obtain ⟨a0, a1, a2, a3, a4, a5, b0, b1, b2, b3, b4, b5, c⟩ := f
  obtain ⟨d0, d1⟩ := two_cells (v0 := .int .u64 0) (v1 := .int .u64 z) a0 a1
  exact ⟨d0, d1, (two_other (by omega) _ _ _).trans a2, (two_other (by omega) _ _ _).trans a3, (two_other (by omega) _ _ _).trans a4, (two_other (by omega) _ _ _).trans a5, by simpa using b0, by simpa using b1, by simpa using b2, by simpa using b3, by simpa using b4, by simpa using b5, by simpa using c⟩
theorem UU.setB {w : World} {n : Nat} {x y : Int} (f : UU w n x y) (z : Int) : UU ((w.setCell ⟨n + 1, 0, none⟩ (.int .u64 0)).setCell ⟨n + 1, 1, none⟩ (.int .u64 z)) n x z := by
  obtain ⟨a0, a1, a2, a3, a4, a5, b0, b1, b2, b3, b4, b5, c⟩ := f
  obtain ⟨d0, d1⟩ := two_cells (v0 := .int .u64 0) (v1 := .int .u64 z) a2 a3
  exact ⟨(two_other (by omega) _ _ _).trans a0, (two_other (by omega) _ _ _).trans a1, d0, d1, (two_other (by omega) _ _ _).trans a4, (two_other (by omega) _ _ _).trans a5, by simpa using b0, by simpa using b1, by simpa using b2, by simpa using b3, by simpa using b4, by simpa using b5, by simpa using c⟩
end Go.Proofs.Ytlgpolfbilkmbaa
namespace Go.Proofs.Ytlgpolfbilkmbaa
open Go.RowKit Go.Shelf

theorem and_one (x : Int) (h0 : 0 ≤ x) (h1 : x < 18446744073709551616) : bits .and .u64 x 1 = x % 2 := by
  obtain ⟨n, rfl⟩ := Int.eq_ofNat_of_zero_le h0
  have h := bits_and_u64_nat n 1 (by omega) (by omega)
  have e : n &&& 1 = n % 2 := Nat.and_two_pow_sub_one_eq_mod n 1
  rw [e] at h
  exact h.trans (by omega)

/-- The measures: the number in a block, of two. -/
def mA (n : Nat) (w : World) : Nat := (intOf ((w.cell? ⟨n, 1, none⟩).getD (.int .i64 0))).toNat
theorem mA_of {w : World} {n : Nat} {x y : Int} (h : UU w n x y) : mA n w = x.toNat := by unfold mA; rw [h.2.1]; rfl
theorem mB_of {w : World} {n : Nat} {x y : Int} (h : UU w n x y) : mA (n + 1) w = y.toNat := by unfold mA; rw [h.2.2.2.1]; rfl
def mAB (n : Nat) (w : World) : Nat := mA n w + mA (n + 1) w
theorem mAB_of {w : World} {n : Nat} {x y : Int} (h : UU w n x y) : mAB n w = x.toNat + y.toNat := by unfold mAB; rw [mA_of h, mB_of h]
/-- What loop 2 keeps. -/
def G2 (g : Nat) (x y : Int) : Prop := Int.gcd x y = g ∧ g % 2 = 1
/-- What loop 5 keeps. -/
def G5 (k : Nat) (g : Nat) (j : Nat) (z : Int) : Prop := (2 : Int) ^ j * z = 2 ^ k * (g : Int)

set_option maxRecDepth 100000 in
set_option maxHeartbeats 16000000 in
theorem rgcd_any (a b : Int) (a0 : 0 ≤ a) (a1 : a < 18446744073709551616) (b0 : 0 < b) (b1 : b < 18446744073709551616) (w : World) :
    Calls Try.prog 89 #[.agg #[.int .u64 0, .int .u64 a], .agg #[.int .u64 0, .int .u64 b]] w fun e w' => e = .returned (.agg #[.int .u64 0, .int .u64 (Int.gcd a b : Int)]) ∧ Below w.heap.size w w' := by
  by_cases ha : a = 0
  · have ha' : (a == 0) = true := by simpa using ha
    have HR : Hid ((Int.gcd a b : Int) = b) := Lib.hid (by rw [ha]; simp; omega)
    rw [HR.out]
    clear ha
    go_enter Try.func89, Try.ntmps89
    go_wp2_with fail
    refine bodyPost_ret (v := .agg #[.int .u64 0, .int .u64 b]) (by simp [results, Try.results89, go_sem]) rfl ⟨rfl, ?_⟩
    exact ((below_new _ _).alloc (by simp) _).alloc (by simp <;> omega) _
  · have ha' : (a == 0) = false := by simpa using ha
    have ap : 0 < a := by omega
    clear ha
    have HGB : Hid ((Int.gcd a b : Int) ≤ b) := Lib.hid (Int.le_of_dvd b0 (Int.gcd_dvd_right a b))
    obtain ⟨GG, hGG⟩ : ∃ G : Int, (Int.gcd a b : Int) = G := ⟨_, rfl⟩
    rw [hGG]
    rw [hGG] at HGB
    have HGG := Lib.hid hGG
    clear hGG
    go_enter Try.func89, Try.ntmps89
    go_wp2_with fail
    go_loopw [5] (fun t wr => ∃ (k : Nat) (x y : Int), t = .int .i64 k ∧ k ≤ 64 ∧ 0 < x ∧ x < 18446744073709551616 ∧ 0 < y ∧ y < 18446744073709551616 ∧ Hid (Int.gcd a b = 2 ^ k * Int.gcd x y ∧ 2 ^ k * x ≤ a) ∧ UU wr w.heap.size x y ∧ Below w.heap.size w wr) (fun _ wr => mA w.heap.size wr)
    case atStart =>
      refine ⟨0, a, b, rfl, by omega, ap, a1, b0, b1, Lib.hid ⟨by simp, by simp⟩, ?_, ?_⟩
      · refine ⟨?_, ?_, ?_, ?_, ?_, ?_, ?_, ?_, ?_, ?_, ?_, ?_, ?_⟩
        all_goals first | (simp [go_sem, World.cell?_alloc_past]; done) | (simp; done) | (simp <;> omega)
      · exact ((below_new _ _).alloc (by simp) _).alloc (by simp <;> omega) _
    case round =>
      obtain ⟨k, x, y, rfl, hk, x0, x1, y0, y1, HG, hU, hB⟩ := hrel
      have HU := Lib.hid hU
      obtain ⟨u0, u1, u2, u3, u4, u5, f0, f1, f2, f3, f4, f5, uz⟩ := hU
      have hx1 := and_one x (by omega) x1
      have hy1 := and_one y (by omega) y1
      by_cases cb : x % 2 = 0 ∧ y % 2 = 0
      · have cx' : (x % 2 == 0) = true := by simpa using cb.1
        have cy' : (y % 2 == 0) = true := by simpa using cb.2
        have kl : k < 64 := by
          rcases Nat.lt_or_ge k 64 with l | l
          · exact l
          · obtain rfl : k = 64 := by omega
            have := HG.out.2
            omega
        have HN : Hid (Int.gcd a b = 2 ^ (k + 1) * Int.gcd (x / 2) (y / 2) ∧ 2 ^ (k + 1) * (x / 2) ≤ a) := Lib.hid ⟨by
            rw [HG.out.1, gcd_half2 cb.1 cb.2, Nat.pow_succ, Nat.mul_assoc], by
            have h := HG.out.2
            have e : (2 : Int) ^ (k + 1) * (x / 2) = 2 ^ k * x := by rw [Int.pow_succ, Int.mul_assoc, show 2 * (x / 2) = x by omega]
            rw [e]; exact h⟩
        have s1 : IntKind.i64.wrap ((k : Int) + 1) = (k : Int) + 1 := IntWalk.i64_in _ (by omega)
        have hbr := Below.refl wr.heap.size wr
        have x2 : 0 < x / 2 := by omega
        have y2 : 0 < y / 2 := by omega
        clear cb
        go_wp2_with fail
        go_region_with (first
          | (go_at_call 93; (with_reducible refine (half_any x (by omega) x1 _).mono ?_); rintro e w1 ⟨rfl, hb1⟩; have hx : Below wr.heap.size wr w1 := hbr.drew.trans hb1; obtain ⟨u0, u1, u2, u3, u4, u5, f0, f1, f2, f3, f4, f5, uz⟩ := UU.carry HU.out hx)
          | (go_at_call 93; (with_reducible refine (half_any y (by omega) y1 _).mono ?_); rintro e w2 ⟨rfl, hb2⟩; have hy := held_next (wr := wr) hx hb2; obtain ⟨u0, u1, u2, u3, u4, u5, f0, f1, f2, f3, f4, f5, uz⟩ := UU.carry HU.out hy))
        all_goals simp only [Act.put, List.setIfInBounds_toArray, List.set_cons_zero, List.set_cons_succ, List.getElem_toArray, List.getElem_cons_succ, List.getElem_cons_zero]
        all_goals go_wp2_with fail
        all_goals go_roundw
        all_goals have U2 := UU.carry HU.out hy
        all_goals have B2 : Below w.heap.size w w2 := hB.trans (hy.mono hB.size)
        all_goals first
          | exact ⟨k + 1, x / 2, y / 2, by go_num, by omega, x2, by omega, y2, by omega, HN, by first | exact (U2.setA _).setB _ | exact (U2.setB _).setA _, by repeat' (first | exact B2 | refine Below.setCell ?_ (by simp) _)⟩
          | ((first | rw [mA_of ((U2.setA (x / 2)).setB (y / 2)), mA_of HU.out] | rw [mA_of ((U2.setB (y / 2)).setA (x / 2)), mA_of HU.out]); omega)
      · have HO : Hid (Int.gcd x y % 2 = 1) := Lib.hid (odd_one (by omega))
        by_cases cx : x % 2 = 0
        all_goals
          first
            | (have cx' : (x % 2 == 0) = true := by simpa using cx
               have cy' : (y % 2 == 0) = false := by simp; omega
               clear cb cx
               go_wp2_with fail)
            | (have cx' : (x % 2 == 0) = false := by simpa using cx
               clear cb cx
               go_wp2_with fail)
          obtain ⟨g, hg⟩ : ∃ g : Nat, Int.gcd x y = g := ⟨_, rfl⟩
          have HP : Hid (GG = 2 ^ k * (g : Int)) := Lib.hid (by have := HG.out.1; rw [hg] at this; rw [← HGG.out, this]; simp)
          have HG2 : Hid (G2 g x y) := Lib.hid ⟨hg, by rw [← hg]; exact HO.out⟩
          clear HO HG hg u0 u1 u2 u3 u4 u5 f0 f1 f2 f3 f4 f5 uz hx1 hy1 
          obtain ⟨wp, rfl⟩ : ∃ W : World, W = wr := ⟨_, rfl⟩
          go_loopw [] (fun wr => ∃ (x y : Int), 0 ≤ x ∧ x < 18446744073709551616 ∧ 0 < y ∧ y < 18446744073709551616 ∧ Hid (G2 g x y) ∧ UU wr w.heap.size x y ∧ Below w.heap.size w wr) (fun wr => mAB w.heap.size wr)
          case atStart => exact ⟨x, y, by omega, x1, y0, y1, HG2, HU.out, hB⟩
          case round =>
            obtain ⟨x, y, x0, x1, y0, y1, HG, hU, hB⟩ := hrel
            have HU := Lib.hid hU
            obtain ⟨u0, u1, u2, u3, u4, u5, f0, f1, f2, f3, f4, f5, uz⟩ := hU
            by_cases cz : x = 0
            · have cz' : (x == 0) = true := by simpa using cz
              have HZ : Hid (G5 k g k y) := Lib.hid (by
                have h := HG.out.1
                rw [cz] at h
                unfold G5
                rw [← h]
                congr 1
                simp
                omega)
              have HU2 : Hid (UU wr w.heap.size 0 y) := Lib.hid (by have := HU.out; rwa [cz] at this)
              clear cz HG HU HG2
              go_wp2_with fail
              clear u0 u1 u2 u3 u4 u5 f0 f1 f2 f3 f4 f5 uz cz'
              obtain ⟨wo, rfl⟩ : ∃ W : World, W = wr := ⟨_, rfl⟩
              go_loopw [5] (fun t wr => ∃ (j : Nat) (z : Int), t = .int .i64 j ∧ j ≤ 64 ∧ 0 < z ∧ z < 18446744073709551616 ∧ Hid (G5 k g j z) ∧ UU wr w.heap.size 0 z ∧ Below w.heap.size w wr) (fun t _ => (intOf t).toNat)
              case atStart => exact ⟨k, y, rfl, hk, y0, y1, HZ, HU2.out, hB⟩
              case round =>
                obtain ⟨j, z, rfl, hj, z0, z1, HG, hU, hB⟩ := hrel
                have HU := Lib.hid hU
                obtain ⟨u0, u1, u2, u3, u4, u5, f0, f1, f2, f3, f4, f5, uz⟩ := hU
                rcases (show j = 0 ∨ ∃ i, j = i + 1 by cases j with | zero => exact .inl rfl | succ i => exact .inr ⟨i, rfl⟩) with rfl | ⟨i, rfl⟩
                · obtain rfl : z = GG := by
                    have h := HG.out
                    unfold G5 at h
                    rw [Int.pow_zero, Int.one_mul, ← HP.out] at h
                    exact h
                  go_wp2_with fail
                  have l0 := (two_cells (v0 := .int .u64 0) (v1 := .int .u64 z) u4 u5).1
                  have l1 := (two_cells (v0 := .int .u64 0) (v1 := .int .u64 z) u4 u5).2
                  refine bodyPost_ret (v := .agg #[.int .u64 0, .int .u64 z]) (by simp [results, Try.results89, go_sem, l0, l1]) rfl ⟨rfl, ?_⟩
                  exact below_s _ _ (below_s _ _ hB (by simp <;> omega)) (by simp <;> omega)
                · have hz : z + z < 18446744073709551616 := by
                    have h := HG.out
                    unfold G5 at h
                    rw [← HP.out, Int.pow_succ, Int.mul_assoc] at h
                    have p1 : (1 : Int) ≤ 2 ^ i := by
                      have := Nat.one_le_two_pow (n := i)
                      have e : ((2 ^ i : Nat) : Int) = (2 : Int) ^ i := by simp
                      omega
                    have := Int.mul_le_mul_of_nonneg_right p1 (show 0 ≤ 2 * z by omega)
                    have := HGB.out
                    omega
                  have HN : Hid (G5 k g i (z + z)) := Lib.hid (by
                    have h := HG.out
                    unfold G5 at *
                    rw [Int.pow_succ, Int.mul_assoc, Int.two_mul] at h
                    exact h)
                  have hi0 : (0 : Int) ≤ i := by omega
                  clear HG
                  go_wp2_with (go_at_call 95; (with_reducible refine (rplus_any z z (by omega) (by omega) hz _).mono ?_); rintro e w1 ⟨rfl, hb1⟩; have U1 := UU.carry HU.out hb1; obtain ⟨u0, u1, u2, u3, u4, u5, f0, f1, f2, f3, f4, f5, uz⟩ := U1)
                  go_roundw
                  case rel => exact ⟨i, z + z, by go_num, by omega, by omega, hz, HN, (UU.carry HU.out hb1).setB _, below_s _ _ (below_s _ _ (hB.trans (hb1.mono hB.size)) (Nat.le_succ _)) (Nat.le_succ _)⟩
                  case measure => simp [intOf]
            · have cz' : (x == 0) = false := by simpa using cz
              have xp : 0 < x := by omega
              clear cz HG2
              have HUX := HU
              go_wp2_with fail
              clear u0 u1 u2 u3 u4 u5 f0 f1 f2 f3 f4 f5 uz cz' HU
              obtain ⟨wo, rfl⟩ : ∃ W : World, W = wr := ⟨_, rfl⟩
              go_loopw [] (fun wr => ∃ x' : Int, 0 < x' ∧ x' ≤ x ∧ Hid (G2 g x' y) ∧ UU wr w.heap.size x' y ∧ Below w.heap.size w wr) (fun wr => mA w.heap.size wr)
              case atStart => exact ⟨x, xp, Int.le_refl _, HG, HUX.out, hB⟩
              case round =>
                clear HG hB
                obtain ⟨x', xp', xl, HG, hU, hB⟩ := hrel
                have HU := Lib.hid hU
                obtain ⟨u0, u1, u2, u3, u4, u5, f0, f1, f2, f3, f4, f5, uz⟩ := hU
                have hx1 := and_one x' (by omega) (by omega)
                by_cases ex : x' % 2 = 0
                · have ex' : (x' % 2 == 0) = true := by simpa using ex
                  have HN : Hid (G2 g (x' / 2) y) := Lib.hid ⟨by rw [gcd_halfL (by rw [HG.out.1]; exact HG.out.2) ex]; exact HG.out.1, HG.out.2⟩
                  have x2 : 0 < x' / 2 := by omega
                  clear ex HG
                  go_wp2_with (go_at_call 93; (with_reducible refine (half_any x' (by omega) (by omega) _).mono ?_); rintro e w1 ⟨rfl, hb1⟩; have U1 := UU.carry HU.out hb1; obtain ⟨u0, u1, u2, u3, u4, u5, f0, f1, f2, f3, f4, f5, uz⟩ := U1)
                  go_roundw
                  case rel => exact ⟨x' / 2, x2, by omega, HN, (UU.carry HU.out hb1).setA _, below_s _ _ (below_s _ _ (hB.trans (hb1.mono hB.size)) (Nat.le_refl _)) (Nat.le_refl _)⟩
                  case measure => rw [mA_of ((UU.carry HU.out hb1).setA (x' / 2)), mA_of HU.out]; omega
                · have ex' : (x' % 2 == 0) = false := by simpa using ex
                  clear ex
                  go_wp2_with fail
                  clear u0 u1 u2 u3 u4 u5 f0 f1 f2 f3 f4 f5 uz ex' hx1
                  obtain ⟨wq, rfl⟩ : ∃ W : World, W = wr := ⟨_, rfl⟩
                  go_loopw [] (fun wr => ∃ y' : Int, 0 < y' ∧ y' ≤ y ∧ Hid (G2 g x' y') ∧ UU wr w.heap.size x' y' ∧ Below w.heap.size w wr) (fun wr => mA (w.heap.size + 1) wr)
                  case atStart => exact ⟨y, y0, Int.le_refl _, HG, HU.out, hB⟩
                  case round =>
                    clear HG hB HU
                    obtain ⟨y', yp', yl, HG, hU, hB⟩ := hrel
                    have HU := Lib.hid hU
                    obtain ⟨u0, u1, u2, u3, u4, u5, f0, f1, f2, f3, f4, f5, uz⟩ := hU
                    have hy1 := and_one y' (by omega) (by omega)
                    by_cases ey : y' % 2 = 0
                    · have ey' : (y' % 2 == 0) = true := by simpa using ey
                      have HN : Hid (G2 g x' (y' / 2)) := Lib.hid ⟨by rw [gcd_halfR (by rw [HG.out.1]; exact HG.out.2) ey]; exact HG.out.1, HG.out.2⟩
                      have y2 : 0 < y' / 2 := by omega
                      clear ey HG
                      go_wp2_with (go_at_call 93; (with_reducible refine (half_any y' (by omega) (by omega) _).mono ?_); rintro e w1 ⟨rfl, hb1⟩; have U1 := UU.carry HU.out hb1; obtain ⟨u0, u1, u2, u3, u4, u5, f0, f1, f2, f3, f4, f5, uz⟩ := U1)
                      go_roundw
                      case rel => exact ⟨y' / 2, y2, by omega, HN, (UU.carry HU.out hb1).setB _, below_s _ _ (below_s _ _ (hB.trans (hb1.mono hB.size)) (Nat.le_succ _)) (Nat.le_succ _)⟩
                      case measure => rw [mB_of ((UU.carry HU.out hb1).setB (y' / 2)), mB_of HU.out]; omega
                    · have ey' : (y' % 2 == 0) = false := by simpa using ey
                      clear ey
                      have HUq := HU
                      by_cases lt : x' < y'
                      · have lt' : decide (x' < y') = true := decide_eq_true lt
                        have HN : Hid (G2 g (y' - x') x') := Lib.hid ⟨by rw [gcd_sub, Int.gcd_comm]; exact HG.out.1, HG.out.2⟩
                        go_upto_region 13 with (go_at_call 54; (with_reducible refine (rless_any x' y' _).mono ?_); rw [lt']; rintro e w1 ⟨rfl, hb1⟩; have U1 := UU.carry HU.out hb1; obtain ⟨u0, u1, u2, u3, u4, u5, f0, f1, f2, f3, f4, f5, uz⟩ := U1)
                        have U3 := ((UU.carry HU.out hb1).setA y').setB x'
                        have B3 : Below w.heap.size w ((((w1.setCell ⟨w.heap.size, 0, none⟩ (.int .u64 0)).setCell ⟨w.heap.size, 1, none⟩ (.int .u64 y')).setCell ⟨w.heap.size + 1, 0, none⟩ (.int .u64 0)).setCell ⟨w.heap.size + 1, 1, none⟩ (.int .u64 x')) := below_s _ _ (below_s _ _ (below_s _ _ (below_s _ _ (hB.trans (hb1.mono hB.size)) (Nat.le_refl _)) (Nat.le_refl _)) (Nat.le_succ _)) (Nat.le_succ _)
                        clear u0 u1 u2 u3 u4 u5 f0 f1 f2 f3 f4 f5 uz lt' ey' hy1 hb1 HU HG
                        generalize ((((w1.setCell ⟨w.heap.size, 0, none⟩ (.int .u64 0)).setCell ⟨w.heap.size, 1, none⟩ (.int .u64 y')).setCell ⟨w.heap.size + 1, 0, none⟩ (.int .u64 0)).setCell ⟨w.heap.size + 1, 1, none⟩ (.int .u64 x')) = w3 at *
                        have HU3 := Lib.hid U3
                        obtain ⟨u0, u1, u2, u3, u4, u5, f0, f1, f2, f3, f4, f5, uz⟩ := U3
                        go_wp2_with (go_at_call 94; (with_reducible refine (rminus_any y' x' (by omega) (by omega) (by omega) _).mono ?_); rintro e w4 ⟨rfl, hb4⟩; have U4 := UU.carry HU3.out hb4; obtain ⟨u0, u1, u2, u3, u4, u5, f0, f1, f2, f3, f4, f5, uz⟩ := U4)
                        go_roundw
                        case rel => exact ⟨y' - x', x', by omega, by omega, by omega, by omega, HN, (UU.carry HU3.out hb4).setA _, below_s _ _ (below_s _ _ (B3.trans (hb4.mono B3.size)) (Nat.le_refl _)) (Nat.le_refl _)⟩
                        case measure => rw [mAB_of ((UU.carry HU3.out hb4).setA (y' - x')), mAB_of HUX.out]; omega
                      · have lt' : decide (x' < y') = false := decide_eq_false lt
                        have HN : Hid (G2 g (x' - y') y') := Lib.hid ⟨by rw [gcd_sub]; exact HG.out.1, HG.out.2⟩
                        go_wp2_with (first | (go_at_call 54; (with_reducible refine (rless_any x' y' _).mono ?_); rw [lt']; rintro e w1 ⟨rfl, hb1⟩; have U1 := UU.carry HU.out hb1; obtain ⟨u0, u1, u2, u3, u4, u5, f0, f1, f2, f3, f4, f5, uz⟩ := U1) | (go_at_call 94; (with_reducible refine (rminus_any x' y' (by omega) (by omega) (by omega) _).mono ?_); rintro e w4 ⟨rfl, hb4⟩; have U4 := UU.carry (UU.carry HU.out hb1) hb4; obtain ⟨u0, u1, u2, u3, u4, u5, f0, f1, f2, f3, f4, f5, uz⟩ := U4))
                        have hb5 : Below wr.heap.size wr w4 := held_next hb1 hb4
                        go_roundw
                        case rel => exact ⟨x' - y', y', by omega, by omega, by omega, by omega, HN, (UU.carry HU.out hb5).setA _, below_s _ _ (below_s _ _ (hB.trans (hb5.mono hB.size)) (Nat.le_refl _)) (Nat.le_refl _)⟩
                        case measure => rw [mAB_of ((UU.carry HU.out hb5).setA (x' - y')), mAB_of HUX.out]; omega
end Go.Proofs.Ytlgpolfbilkmbaa
namespace Go.Proofs.Ytlgpolfbilkmbaa
open Go.RowKit Go.Shelf

set_option maxRecDepth 100000 in
set_option maxHeartbeats 16000000 in
theorem rcmp_any (an ad bn bd : Int) (a0 : 0 ≤ an) (a1 : an ≤ 9223372036854775807) (a2 : 0 ≤ ad) (a3 : ad ≤ 9223372036854775807) (b0 : 0 ≤ bn) (b1 : bn ≤ 9223372036854775807) (b2 : 0 ≤ bd) (b3 : bd ≤ 9223372036854775807) (w : World) :
    Calls Try.prog 21 #[.agg #[.int .i64 an, .int .i64 ad], .agg #[.int .i64 bn, .int .i64 bd]] w fun e w' => e = .returned (.int .i64 (cmpP (an * bd) (bn * ad))) ∧ Below w.heap.size w w' := by
  have n1 : (an.natAbs : Int) = an := by omega
  have n2 : (ad.natAbs : Int) = ad := by omega
  have n3 : (bn.natAbs : Int) = bn := by omega
  have n4 : (bd.natAbs : Int) = bd := by omega
  have z1 := rsize_any an (by omega) (by omega)
  have z2 := rsize_any ad (by omega) (by omega)
  have z3 := rsize_any bn (by omega) (by omega)
  have z4 := rsize_any bd (by omega) (by omega)
  rw [n1] at z1
  rw [n2] at z2
  rw [n3] at z3
  rw [n4] at z4
  have x1 := rmul_any an bd a0 (by omega) b2 (by omega)
  have x2 := rmul_any bn ad b0 (by omega) a2 (by omega)
  generalize an * bd = x at *
  generalize bn * ad = y at *
  have hL := lessU_of x y
  obtain ⟨xh, hxh⟩ : ∃ h, x / 18446744073709551616 = h := ⟨_, rfl⟩
  obtain ⟨xl, hxl⟩ : ∃ h, x % 18446744073709551616 = h := ⟨_, rfl⟩
  obtain ⟨yh, hyh⟩ : ∃ h, y / 18446744073709551616 = h := ⟨_, rfl⟩
  obtain ⟨yl, hyl⟩ : ∃ h, y % 18446744073709551616 = h := ⟨_, rfl⟩
  rw [hxh, hxl] at x1
  rw [hyh, hyl] at x2
  rw [hxh, hxl, hyh, hyl] at hL
  have hE : x = y ↔ (xh = yh ∧ xl = yl) := by omega
  have X1 := Lib.hid x1
  have X2 := Lib.hid x2
  have Z1 := Lib.hid z1
  have Z2 := Lib.hid z2
  have Z3 := Lib.hid z3
  have Z4 := Lib.hid z4
  have HL := Lib.hid hL
  have HE := Lib.hid hE
  clear n1 n2 n3 n4 z1 z2 z3 z4 x1 x2 hL hE hxh hxl hyh hyl
  have g1 : decide (an < 0) = false := decide_eq_false (by omega)
  have g2 : decide (0 ≤ an) = true := decide_eq_true a0
  have g3 : decide (bn < 0) = false := decide_eq_false (by omega)
  have W0b : Below w.heap.size w ((w.alloc (.cells #[.int .i64 an, .int .i64 ad] 39)).alloc (.cells #[.int .i64 bn, .int .i64 bd] 39)) := below_a _ (below_new _ _)
  obtain ⟨c, hc⟩ : ∃ c, cmpP x y = c := ⟨_, rfl⟩
  rw [hc]
  have HC := Lib.hid hc
  clear hc
  go_enter Try.func21, Try.ntmps21
  go_upto_region 1 with (fail)
  have c0 : ((w.alloc (.cells #[.int .i64 an, .int .i64 ad] 39)).alloc (.cells #[.int .i64 bn, .int .i64 bd] 39)).cell? ⟨w.heap.size, 0, none⟩ = some (.int .i64 an) := by simp
  have c1 : ((w.alloc (.cells #[.int .i64 an, .int .i64 ad] 39)).alloc (.cells #[.int .i64 bn, .int .i64 bd] 39)).cell? ⟨w.heap.size, 1, none⟩ = some (.int .i64 ad) := by simp
  have c2 : ((w.alloc (.cells #[.int .i64 an, .int .i64 ad] 39)).alloc (.cells #[.int .i64 bn, .int .i64 bd] 39)).cell? ⟨w.heap.size + 1, 0, none⟩ = some (.int .i64 bn) := by simp
  have c3 : ((w.alloc (.cells #[.int .i64 an, .int .i64 ad] 39)).alloc (.cells #[.int .i64 bn, .int .i64 bd] 39)).cell? ⟨w.heap.size + 1, 1, none⟩ = some (.int .i64 bd) := by simp
  obtain ⟨Bb, hBb⟩ : ∃ b, w.heap.size + 1 = b := ⟨_, rfl⟩
  simp only [hBb] at c2 c3 ⊢
  clear hBb
  generalize (w.alloc (.cells #[.int .i64 an, .int .i64 ad] 39)).alloc (.cells #[.int .i64 bn, .int .i64 bd] 39) = W0 at *
  have HS : Hid (∀ w', Below W0.heap.size W0 w' → Below W0.heap.size W0 w' ∧ w'.cell? ⟨w.heap.size, 0, none⟩ = some (.int .i64 an) ∧ w'.cell? ⟨w.heap.size, 1, none⟩ = some (.int .i64 ad) ∧ w'.cell? ⟨Bb, 0, none⟩ = some (.int .i64 bn) ∧ w'.cell? ⟨Bb, 1, none⟩ = some (.int .i64 bd)) := Lib.hid fun w' h =>
    ⟨h, (h.cell (p := ⟨w.heap.size, 0, none⟩) (World.block_lt_of_cell? _ _ c0)).trans c0, (h.cell (p := ⟨w.heap.size, 1, none⟩) (World.block_lt_of_cell? _ _ c1)).trans c1, (h.cell (p := ⟨Bb, 0, none⟩) (World.block_lt_of_cell? _ _ c2)).trans c2, (h.cell (p := ⟨Bb, 1, none⟩) (World.block_lt_of_cell? _ _ c3)).trans c3⟩
  refine rcmp1 HS Z1 Z2 Z3 Z4 X1 X2 ?_
  intro u5 u6 u7 u8 u9 u10 u11 u12 u13 u14 u15 u16 u17 u18 u19 u20 u21 u22 u23 u24 u25 u26 u27 u28 u29 u30 u31 u32 u33 u34 u35 u36 u37 u38 u39 u40 u41 u42 u43 u44 u45 u46 wc hcut
  · obtain ⟨B5, B6, rfl, rfl, hBn, ⟨y0, y1⟩, ⟨y2, y3⟩⟩ := hcut
    obtain ⟨W1, rfl⟩ : ∃ W : World, W = wc := ⟨_, rfl⟩
    clear c0 c1 c2 c3
    obtain ⟨_, c0, c1, c2, c3⟩ := HS.out _ hBn
    have W1b := W0b.trans (hBn.mono W0b.size)
    clear HS hBn W0b
    by_cases he : x = y
    · have HR : Hid (c = 0) := Lib.hid (by rw [← HC.out]; unfold cmpP; rw [if_pos he])
      obtain ⟨e1, e2⟩ := HE.out.1 he
      have q1 : (xh == yh) = true := by simpa using e1
      have q2 : (xl == yl) = true := by simpa using e2
      clear he e1 e2 g3
      go_wp2_with fail
      go_ret
      exact ⟨ret_u HR.out.symm, W1b⟩
    · have hne : ¬ (xh = yh ∧ xl = yl) := fun h => he (HE.out.2 h)
      have HX : Hid (c = if x < y then -1 else 1) := Lib.hid (by rw [← HC.out]; unfold cmpP; rw [if_neg he])
      by_cases hl : x < y
      all_goals
        first
          | (have hl' : decide (x < y) = true := decide_eq_true hl
             have HR : Hid (c = -1) := Lib.hid (by rw [HX.out, if_pos hl])
             rw [hl'] at HL)
          | (have hl' : decide (x < y) = false := decide_eq_false hl
             have HR : Hid (c = 1) := Lib.hid (by rw [HX.out, if_neg hl])
             rw [hl'] at HL)
        have hw1 : Below W1.heap.size W1 W1 := Below.refl _ _
        clear he hl hl'
        by_cases hh : xh = yh
        all_goals
          first
            | (have q1 : (xh == yh) = true := by simpa using hh
               have q2 : (xl == yl) = false := by simpa using fun h => hne ⟨hh, h⟩
               clear hh hne)
            | (have q1 : (xh == yh) = false := by simpa using hh
               clear hh hne)
          go_upto_region 8 with (fail)
          have HS8 : Hid (∀ w', Below W1.heap.size W1 w' → Below W1.heap.size W1 w' ∧ w'.cell? ⟨w.heap.size, 0, none⟩ = some (.int .i64 an) ∧ w'.cell? ⟨B5, 0, none⟩ = some (.int .u64 xh) ∧ w'.cell? ⟨B5, 1, none⟩ = some (.int .u64 xl) ∧ w'.cell? ⟨B6, 0, none⟩ = some (.int .u64 yh) ∧ w'.cell? ⟨B6, 1, none⟩ = some (.int .u64 yl)) := Lib.hid fun w' h =>
            ⟨h, (h.cell (p := ⟨w.heap.size, 0, none⟩) (World.block_lt_of_cell? _ _ c0)).trans c0, (h.cell (p := ⟨B5, 0, none⟩) (World.block_lt_of_cell? _ _ y0)).trans y0, (h.cell (p := ⟨B5, 1, none⟩) (World.block_lt_of_cell? _ _ y1)).trans y1, (h.cell (p := ⟨B6, 0, none⟩) (World.block_lt_of_cell? _ _ y2)).trans y2, (h.cell (p := ⟨B6, 1, none⟩) (World.block_lt_of_cell? _ _ y3)).trans y3⟩
          have hbd8 := hw1.drew
          clear c0 c1 c2 c3 y0 y1 y2 y3 q1
          go_region_held3 (fun w' => Below W1.heap.size W1 w' ∧ w'.cell? ⟨w.heap.size, 0, none⟩ = some (.int .i64 an) ∧ w'.cell? ⟨B5, 0, none⟩ = some (.int .u64 xh) ∧ w'.cell? ⟨B5, 1, none⟩ = some (.int .u64 xl) ∧ w'.cell? ⟨B6, 0, none⟩ = some (.int .u64 yh) ∧ w'.cell? ⟨B6, 1, none⟩ = some (.int .u64 yl))
            (first | exact HS8.out _ hbd8 | exact HS8.out _ hx8)
            (first
              | (go_at_call 54; go_split_ands; (with_reducible refine (rlessU_any xh xl yh yl _).mono ?_); rw [HL.out]; rintro e w8 ⟨rfl, hb8⟩; have hx8 : Below W1.heap.size W1 w8 := hbd8.trans hb8))
          all_goals go_wp2_with fail
          all_goals go_ret
          all_goals exact ⟨ret_u HR.out.symm, W1b.trans (hx8.mono W1b.size)⟩
end Go.Proofs.Ytlgpolfbilkmbaa
namespace Go.Proofs.Ytlgpolfbilkmbaa
open Go.RowKit Go.Shelf
theorem eql_U2 (h l h' l' : Int) (w : World) : (binOp .eql 75 (.agg #[.int .u64 h, .int .u64 l]) (.agg #[.int .u64 h', .int .u64 l'])).run Try.prog w = .ok (.bool ((h == h') && (l == l'))) w := by
  simp [go_sem]
  by_cases x : h = h'
  · by_cases y : l = l'
    · simp [x, y]
    · simp [x, y]
  · simp [x]
set_option maxRecDepth 100000 in
set_option maxHeartbeats 8000000 in
theorem rvalid02_any (n d : Int) (w : World) :
    Calls Try.prog 77 #[.agg #[.int .i64 n, .int .i64 d]] w fun e w' => e = .returned (.bool (validF n d)) ∧ Below w.heap.size w w' := by
  have hN : ∀ h : ¬ (1 ≤ d ∧ d ≤ 1152921504606846976 ∧ -1152921504606846976 ≤ n ∧ n ≤ 1152921504606846976), validF n d = false := fun h => by
    cases e : validF n d
    · rfl
    · exact absurd ((validF_iff _ _).1 e) (fun x => h ⟨x.1, x.2.1, x.2.2.1, x.2.2.2.1⟩)
  by_cases c1 : d < 1
  · have HR := Lib.hid (hN (by omega))
    rw [HR.out]
    have g1 := decide_eq_true c1
    clear c1 hN
    go_enter Try.func77, Try.ntmps77
    go_wp2_with fail
    go_ret
    exact ⟨rfl, below_new _ _⟩
  by_cases c2 : 1152921504606846976 < d
  · have HR := Lib.hid (hN (by omega))
    rw [HR.out]
    have g1 := decide_eq_false c1
    have g2 := decide_eq_true c2
    clear c1 c2 hN
    go_enter Try.func77, Try.ntmps77
    go_wp2_with fail
    go_ret
    exact ⟨rfl, below_new _ _⟩
  by_cases c3 : n < -1152921504606846976
  · have HR := Lib.hid (hN (by omega))
    rw [HR.out]
    have g1 := decide_eq_false c1
    have g2 := decide_eq_false c2
    have g3 := decide_eq_true c3
    clear c1 c2 c3 hN
    go_enter Try.func77, Try.ntmps77
    go_wp2_with fail
    go_ret
    exact ⟨rfl, below_new _ _⟩
  by_cases c4 : 1152921504606846976 < n
  · have HR := Lib.hid (hN (by omega))
    rw [HR.out]
    have g1 := decide_eq_false c1
    have g2 := decide_eq_false c2
    have g3 := decide_eq_false c3
    have g4 := decide_eq_true c4
    clear c1 c2 c3 c4 hN
    go_enter Try.func77, Try.ntmps77
    go_wp2_with fail
    go_ret
    exact ⟨rfl, below_new _ _⟩
  obtain ⟨na, hna⟩ : ∃ x : Int, (n.natAbs : Int) = x := ⟨_, rfl⟩
  have eg : Int.gcd na d = Int.gcd n d := by rw [← hna]; simp [Int.gcd]
  obtain ⟨G, hG⟩ : ∃ G : Int, (Int.gcd n d : Int) = G := ⟨_, rfl⟩
  have HR : Hid (validF n d = (G == 1)) := Lib.hid (by
    have a1 : decide (1 ≤ d) = true := decide_eq_true (by omega)
    have a2 : decide (d ≤ 1152921504606846976) = true := decide_eq_true (by omega)
    have a3 : decide (-1152921504606846976 ≤ n) = true := decide_eq_true (by omega)
    have a4 : decide (n ≤ 1152921504606846976) = true := decide_eq_true (by omega)
    unfold validF
    rw [a1, a2, a3, a4, ← hG, Bool.eq_iff_iff]
    simp
    omega)
  rw [HR.out]
  have Z1 : Hid (∀ w : World, Calls Try.prog 53 #[.int .i64 n] w fun e w' => e = .returned (.int .u64 na) ∧ w = w') := Lib.hid fun w => by have := rsize_any n (by omega) (by omega) w; rwa [hna] at this
  have Z2 : Hid (∀ w : World, Calls Try.prog 53 #[.int .i64 d] w fun e w' => e = .returned (.int .u64 d) ∧ w = w') := Lib.hid fun w => by have := rsize_any d (by omega) (by omega) w; rwa [show (d.natAbs : Int) = d by omega] at this
  have HG : Hid (∀ w : World, Calls Try.prog 89 #[.agg #[.int .u64 0, .int .u64 na], .agg #[.int .u64 0, .int .u64 d]] w fun e w' => e = .returned (.agg #[.int .u64 0, .int .u64 G]) ∧ Below w.heap.size w w') := Lib.hid fun w => by
    have := rgcd_any na d (by omega) (by omega) (by omega) (by omega) w
    rwa [eg, hG] at this
  have g1 := decide_eq_false c1
  have g2 := decide_eq_false c2
  have g3 := decide_eq_false c3
  have g4 := decide_eq_false c4
  obtain ⟨q, hq⟩ : ∃ q, (G == 1) = q := ⟨_, rfl⟩
  have E1 : ∀ w, (binOp .eql 75 (.agg #[.int .u64 0, .int .u64 G]) (.agg #[.int .u64 0, .int .u64 1])).run Try.prog w = .ok (.bool q) w := fun w => by rw [eql_U2, ← hq]; rfl
  rw [hq]
  clear c1 c2 c3 c4 hN hna eg hG HR hq
  go_enter Try.func77, Try.ntmps77
  go_upto_region 3 with (fail)
  have k0 : (w.alloc (.cells #[.int .i64 n, .int .i64 d] 39)).cell? ⟨w.heap.size, 0, none⟩ = some (.int .i64 n) := by simp
  have k1 : (w.alloc (.cells #[.int .i64 n, .int .i64 d] 39)).cell? ⟨w.heap.size, 1, none⟩ = some (.int .i64 d) := by simp
  have hz : w.heap.size < (w.alloc (.cells #[.int .i64 n, .int .i64 d] 39)).heap.size := by simp
  have hW := below_new w (.cells #[.int .i64 n, .int .i64 d] 39)
  generalize w.alloc (.cells #[.int .i64 n, .int .i64 d] 39) = W0 at *
  have HS0 : Hid (∀ w', Below W0.heap.size W0 w' → W0.heap.size ≤ w'.heap.size ∧ w'.cell? ⟨w.heap.size, 0, none⟩ = some (.int .i64 n) ∧ w'.cell? ⟨w.heap.size, 1, none⟩ = some (.int .i64 d)) := Lib.hid fun w' h => ⟨h.size, (h.cell (p := ⟨w.heap.size, 0, none⟩) hz).trans k0, (h.cell (p := ⟨w.heap.size, 1, none⟩) hz).trans k1⟩
  clear k0 k1
  refine wp_region_held_drew (S := fun w' => W0.heap.size ≤ w'.heap.size ∧ w'.cell? ⟨w.heap.size, 0, none⟩ = some (.int .i64 n) ∧ w'.cell? ⟨w.heap.size, 1, none⟩ = some (.int .i64 d)) (by kernel_rfl) (HS0.out _ (Below.refl _ _).drew) (fun hHeld => ?_)
  have hB0 := (Below.refl W0.heap.size W0).drew
  obtain ⟨w0, hw0⟩ : ∃ x, W0.drew = x := ⟨_, rfl⟩
  simp only [hw0] at hB0 hHeld ⊢
  clear hw0
  refine wpAnyH_take (i := 0) (oi := _) (v := ?_) rfl (by kernel_rfl) (by kernel_rfl) (by kernel_rfl) (fun _ _ _ h => h) (Or.inl ⟨by rfl, ?_⟩) (by assumption) ?_
  rotate_left
  · (intro w hSw; (try dsimp only at hSw); go_split_ands; (try simp only [List.getElem_toArray, List.getElem_cons_zero]); go_simp; try with_reducible rfl)
  simp only [Act.put, List.setIfInBounds_toArray, List.set_cons_zero, List.set_cons_succ, List.getElem_toArray, List.getElem_cons_zero]
  refine wpAnyH_take (i := 1) (oi := _) (v := ?_) rfl (by kernel_rfl) (by kernel_rfl) (by kernel_rfl) (fun _ _ _ h => h) (Or.inl ⟨by rfl, ?_⟩) (by assumption) ?_
  rotate_left
  · (intro w hSw; (try dsimp only at hSw); go_split_ands; (try simp only [List.getElem_toArray, List.getElem_cons_succ, List.getElem_cons_zero]); go_simp; try with_reducible rfl)
  simp only [Act.put, List.setIfInBounds_toArray, List.set_cons_zero, List.set_cons_succ, List.getElem_toArray, List.getElem_cons_succ, List.getElem_cons_zero]
  refine wpAnyH_takeC (i := 2) (oi := _) (v := .int .u64 na) rfl (by kernel_rfl) (by kernel_rfl) (by kernel_rfl) (fun _ _ _ h => h) ⟨by rfl, 53, #[.int .i64 n], ?_, fun w _ => Z1.out w⟩ (by assumption) ?_
  · (intro w hSw; (try dsimp only at hSw); go_split_ands; (try simp only [List.getElem_toArray, List.getElem_cons_succ, List.getElem_cons_zero]); go_simp; try with_reducible rfl)
  simp only [Act.put, List.setIfInBounds_toArray, List.set_cons_zero, List.set_cons_succ, List.getElem_toArray, List.getElem_cons_succ, List.getElem_cons_zero]
  refine wpAnyH_take (i := 3) (oi := _) (v := ?_) rfl (by kernel_rfl) (by kernel_rfl) (by kernel_rfl) (fun _ _ _ h => h) (Or.inl ⟨by rfl, ?_⟩) (by assumption) ?_
  rotate_left
  · (intro w hSw; (try dsimp only at hSw); go_split_ands; (try simp only [List.getElem_toArray, List.getElem_cons_succ, List.getElem_cons_zero]); go_simp; try with_reducible rfl)
  simp only [Act.put, List.setIfInBounds_toArray, List.set_cons_zero, List.set_cons_succ, List.getElem_toArray, List.getElem_cons_succ, List.getElem_cons_zero]
  refine wpAnyH_take (i := 4) (oi := _) (v := ?_) rfl (by kernel_rfl) (by kernel_rfl) (by kernel_rfl) (fun _ _ _ h => h) (Or.inl ⟨by rfl, ?_⟩) (by assumption) ?_
  rotate_left
  · (intro w hSw; (try dsimp only at hSw); go_split_ands; (try simp only [List.getElem_toArray, List.getElem_cons_succ, List.getElem_cons_zero]); go_simp; try with_reducible rfl)
  simp only [Act.put, List.setIfInBounds_toArray, List.set_cons_zero, List.set_cons_succ, List.getElem_toArray, List.getElem_cons_succ, List.getElem_cons_zero]
  refine wpAnyH_take (i := 5) (oi := _) (v := ?_) rfl (by kernel_rfl) (by kernel_rfl) (by kernel_rfl) (fun _ _ _ h => h) (Or.inl ⟨by rfl, ?_⟩) (by assumption) ?_
  rotate_left
  · (intro w hSw; (try dsimp only at hSw); go_split_ands; (try simp only [List.getElem_toArray, List.getElem_cons_succ, List.getElem_cons_zero]); go_simp; try with_reducible rfl)
  simp only [Act.put, List.setIfInBounds_toArray, List.set_cons_zero, List.set_cons_succ, List.getElem_toArray, List.getElem_cons_succ, List.getElem_cons_zero]
  refine wpAnyH_takeC (i := 6) (oi := _) (v := .int .u64 d) rfl (by kernel_rfl) (by kernel_rfl) (by kernel_rfl) (fun _ _ _ h => h) ⟨by rfl, 53, #[.int .i64 d], ?_, fun w _ => Z2.out w⟩ (by assumption) ?_
  · (intro w hSw; (try dsimp only at hSw); go_split_ands; (try simp only [List.getElem_toArray, List.getElem_cons_succ, List.getElem_cons_zero]); go_simp; try with_reducible rfl)
  simp only [Act.put, List.setIfInBounds_toArray, List.set_cons_zero, List.set_cons_succ, List.getElem_toArray, List.getElem_cons_succ, List.getElem_cons_zero]
  refine wpAnyH_take (i := 7) (oi := _) (v := ?_) rfl (by kernel_rfl) (by kernel_rfl) (by kernel_rfl) (fun _ _ _ h => h) (Or.inl ⟨by rfl, ?_⟩) (by assumption) ?_
  rotate_left
  · (intro w hSw; (try dsimp only at hSw); go_split_ands; (try simp only [List.getElem_toArray, List.getElem_cons_succ, List.getElem_cons_zero]); go_simp; try with_reducible rfl)
  simp only [Act.put, List.setIfInBounds_toArray, List.set_cons_zero, List.set_cons_succ, List.getElem_toArray, List.getElem_cons_succ, List.getElem_cons_zero]
  refine wpAnyH_take (i := 9) (oi := _) (v := ?_) rfl (by kernel_rfl) (by kernel_rfl) (by kernel_rfl) (fun _ _ _ h => h) (Or.inl ⟨by rfl, ?_⟩) (by assumption) ?_
  rotate_left
  · (intro w hSw; (try dsimp only at hSw); go_split_ands; (try simp only [List.getElem_toArray, List.getElem_cons_succ, List.getElem_cons_zero]); go_simp; try with_reducible rfl)
  simp only [Act.put, List.setIfInBounds_toArray, List.set_cons_zero, List.set_cons_succ, List.getElem_toArray, List.getElem_cons_succ, List.getElem_cons_zero]
  refine wpAnyH_ready (rs := [8]) (by kernel_rfl) (by simp) ?_
  refine AllReadyH.cons (o := _) rfl (fun K hK => ?_) (AllReadyH.nil)
  try simp only [List.getElem_toArray, List.getElem_cons_succ, List.getElem_cons_zero]
  go_simp
  (go_at_call 89; go_split_ands; (with_reducible refine (HG.out _).mono ?_); rintro e w1 ⟨rfl, hb1⟩)
  go_wp2_with fail
  have hB1 := hB0.trans (hb1.mono hB0.size)
  refine hK.out _ _ (HS0.out _ hB1) (fun hHeld => ?_)
  clear hK K
  try simp only [Act.put, List.setIfInBounds_toArray, List.set_cons_zero, List.set_cons_succ, List.getElem_toArray, List.getElem_cons_succ, List.getElem_cons_zero]
  refine wpAnyH_take (i := 10) (oi := _) (v := ?_) rfl (by kernel_rfl) (by kernel_rfl) (by kernel_rfl) (fun _ _ _ h => h) (Or.inl ⟨by rfl, ?_⟩) (by assumption) ?_
  rotate_left
  · (intro w hSw; (try dsimp only at hSw); go_split_ands; (try simp only [List.getElem_toArray, List.getElem_cons_succ, List.getElem_cons_zero]); go_simp; try with_reducible rfl)
  simp only [Act.put, List.setIfInBounds_toArray, List.set_cons_zero, List.set_cons_succ, List.getElem_toArray, List.getElem_cons_succ, List.getElem_cons_zero]
  refine wpAnyH_take (i := 11) (oi := _) (v := ?_) rfl (by kernel_rfl) (by kernel_rfl) (by kernel_rfl) (fun _ _ _ h => h) (Or.inl ⟨by rfl, ?_⟩) (by assumption) ?_
  rotate_left
  · (intro w hSw; (try dsimp only at hSw); go_split_ands; (try simp only [List.getElem_toArray, List.getElem_cons_succ, List.getElem_cons_zero]); go_simp; try with_reducible rfl)
  simp only [Act.put, List.setIfInBounds_toArray, List.set_cons_zero, List.set_cons_succ, List.getElem_toArray, List.getElem_cons_succ, List.getElem_cons_zero]
  refine wpAnyH_done (by kernel_rfl) ?_ _
  have hB := hB1
  go_wp2_with fail
  go_ret
  exact ⟨rfl, hW.trans (hB.mono hW.size)⟩
set_option maxRecDepth 100000 in
set_option maxHeartbeats 8000000 in
theorem rall02_yes (b : Nat) (c : Nat) (n0 d0 n1 d1 n2 d2 n3 d3 : Int) (v0 : validF n0 d0 = true) (v1 : validF n1 d1 = true) (v2 : validF n2 d2 = true) (v3 : validF n3 d3 = true) (w : World)
    (hc : ∀ i : Nat, i < 4 → w.cell? ⟨b, i * 2, none⟩ = some (.int .i64 (if i = 0 then n0 else if i = 1 then n1 else if i = 2 then n2 else n3)) ∧ w.cell? ⟨b, i * 2 + 1, none⟩ = some (.int .i64 (if i = 0 then d0 else if i = 1 then d1 else if i = 2 then d2 else d3))) :
    Calls Try.prog 55 #[.slice (some ⟨b, 0, none⟩) 4 c] w fun e w' => e = .returned (.bool true) ∧ Below w.heap.size w w' := by
  have hb : b < w.heap.size := World.block_lt_of_cell? _ _ (hc 0 (by decide)).1
  obtain ⟨N, hN⟩ : ∃ N : Nat → Int, (fun i => if i = 0 then n0 else if i = 1 then n1 else if i = 2 then n2 else n3) = N := ⟨_, rfl⟩
  obtain ⟨D, hD⟩ : ∃ D : Nat → Int, (fun i => if i = 0 then d0 else if i = 1 then d1 else if i = 2 then d2 else d3) = D := ⟨_, rfl⟩
  have HV : Hid (∀ i, i < 4 → validF (N i) (D i) = true) := Lib.hid fun i hi => by
    rw [← hN, ← hD]
    obtain rfl | rfl | rfl | rfl : i = 0 ∨ i = 1 ∨ i = 2 ∨ i = 3 := by omega
    · exact v0
    · exact v1
    · exact v2
    · exact v3
  have HC : Hid (∀ i : Nat, i < 4 → w.cell? ⟨b, i * 2, none⟩ = some (.int .i64 (N i)) ∧ w.cell? ⟨b, i * 2 + 1, none⟩ = some (.int .i64 (D i))) := Lib.hid fun i hi => by
    rw [← hN, ← hD]
    exact hc i hi
  clear hN hD hc v0 v1 v2 v3
  go_enter Try.func55, Try.ntmps55
  go_wp2_with fail
  go_loopw [3] (fun i wr => ∃ k : Nat, k ≤ 4 ∧ i = .int .i64 k ∧ Below w.heap.size w wr) (fun i _ => 4 - (intOf i).toNat)
  case atStart => exact ⟨0, Nat.zero_le _, rfl, Below.refl _ _⟩
  case round =>
    obtain ⟨k, hk, rfl, hB⟩ := hrel
    by_cases hlt : k < 4
    · obtain ⟨c0, c1⟩ := HC.out k hlt
      have d0 := (hB.cell (p := ⟨b, k * 2, none⟩) hb).trans c0
      have d1 := (hB.cell (p := ⟨b, k * 2 + 1, none⟩) hb).trans c1
      have e0 : wr.cell? ⟨b, 0 + k * 2, none⟩ = some (.int .i64 (N k)) := by rw [Nat.zero_add]; exact d0
      have e1 : wr.cell? ⟨b, 0 + k * 2 + 1, none⟩ = some (.int .i64 (D k)) := by rw [Nat.zero_add]; exact d1
      have HVK := Lib.hid (HV.out k hlt)
      have i0 : 0 ≤ (k : Int) := by omega
      have i1 : (k : Int) < 4 := by omega
      have s1 : IntKind.i64.wrap ((k : Int) + 1) = (k : Int) + 1 := IntWalk.i64_in _ (by omega)
      clear c0 c1
      go_wp2_with (go_at_call 77; (with_reducible refine (rvalid02_any (N k) (D k) _).mono ?_); rw [HVK.out]; rintro e w1 ⟨rfl, hb1⟩)
      have hB1 := hB.trans (hb1.mono hB.size)
      go_roundw
      case rel => exact ⟨k + 1, by omega, by go_num, hB1⟩
      case measure => simp [intOf]; omega
    · obtain rfl : k = 4 := by omega
      go_wp2_with fail
      go_ret
      exact ⟨rfl, hB⟩
end Go.Proofs.Ytlgpolfbilkmbaa
namespace Go.Proofs.Ytlgpolfbilkmbaa
open Go.RowKit Go.Shelf
theorem new8 (W : World) (x0 x1 x2 x3 x4 x5 x6 x7 : Int) (t : TypeId) : ∀ i : Nat, i < 4 → (W.alloc (.cells #[.int .i64 x0, .int .i64 x1, .int .i64 x2, .int .i64 x3, .int .i64 x4, .int .i64 x5, .int .i64 x6, .int .i64 x7] t)).cell? ⟨W.heap.size, i * 2, none⟩ = some (.int .i64 (if i = 0 then x0 else if i = 1 then x2 else if i = 2 then x4 else x6)) ∧ (W.alloc (.cells #[.int .i64 x0, .int .i64 x1, .int .i64 x2, .int .i64 x3, .int .i64 x4, .int .i64 x5, .int .i64 x6, .int .i64 x7] t)).cell? ⟨W.heap.size, i * 2 + 1, none⟩ = some (.int .i64 (if i = 0 then x1 else if i = 1 then x3 else if i = 2 then x5 else x7)) := by
  intro i hi
  obtain rfl | rfl | rfl | rfl : i = 0 ∨ i = 1 ∨ i = 2 ∨ i = 3 := by omega
  all_goals exact ⟨by simp, by simp⟩
set_option maxRecDepth 100000 in
set_option maxHeartbeats 16000000 in
theorem rvalid08_yes (L : List Pc) (ok : CurveOK L) (nn : ∀ i, i < L.length → 0 ≤ (pcg L i).f0) (a : Option Addr) (c : Nat) (w : World) (hL : Pcs w.heap.size w a L) :
    Calls Try.prog 29 #[.slice a L.length c] w fun e w' => e = .returned (.bool true) ∧ Below w.heap.size w w' := by
  have hpos := ok.pos
  have hlen := ok.len
  have HOK := Lib.hid ok
  have HNN := Lib.hid nn
  obtain ⟨b, off, rfl, hb, hc⟩ := hL (by omega)
  have HC := Lib.hid hc
  have l1 : decide ((L.length : Int) < 1) = false := decide_eq_false (by omega)
  have l2 : decide ((200 : Int) < (L.length : Int)) = false := decide_eq_false (by omega)
  clear ok hc hL nn
  go_enter Try.func29, Try.ntmps29
  go_wp2_with fail
  clear l1 l2
  go_loopw [3] (fun i wr => ∃ k : Nat, k ≤ L.length ∧ i = .int .i64 k ∧ Below w.heap.size w wr) (fun i _ => L.length - (intOf i).toNat)
  case atStart => exact ⟨0, Nat.zero_le _, rfl, Below.refl _ _⟩
  case round =>
    obtain ⟨k, hk, rfl, hB⟩ := hrel
    by_cases hlt : k < L.length
    · have HB := Lib.hid hB
      have HV := Lib.hid (HOK.out.val k hlt)
      have i0 : 0 ≤ (k : Int) := by omega
      have i1 : (k : Int) < (L.length : Int) := by omega
      have s1 : IntKind.i64.wrap ((k : Int) + 1) = (k : Int) + 1 := IntWalk.i64_in _ (by omega)
      have HK : Hid (∀ i, i < L.length → ∀ w', Below wr.heap.size wr w' → w'.cell? ⟨b, off + i * 8, none⟩ = some (.int .i64 (pcg L i).f0) ∧ w'.cell? ⟨b, off + i * 8 + 1, none⟩ = some (.int .i64 (pcg L i).f1) ∧ w'.cell? ⟨b, off + i * 8 + 2, none⟩ = some (.int .i64 (pcg L i).a0) ∧ w'.cell? ⟨b, off + i * 8 + 3, none⟩ = some (.int .i64 (pcg L i).a1) ∧ w'.cell? ⟨b, off + i * 8 + 4, none⟩ = some (.int .i64 (pcg L i).b0) ∧ w'.cell? ⟨b, off + i * 8 + 5, none⟩ = some (.int .i64 (pcg L i).b1) ∧ w'.cell? ⟨b, off + i * 8 + 6, none⟩ = some (.int .i64 (pcg L i).c0) ∧ w'.cell? ⟨b, off + i * 8 + 7, none⟩ = some (.int .i64 (pcg L i).c1)) := Lib.hid fun i hi w' h => by
        obtain ⟨c0, c1, c2, c3, c4, c5, c6, c7⟩ := HC.out i hi
        have hB' := HB.out.trans (h.mono HB.out.size)
        exact ⟨(hB'.cell (p := ⟨b, off + i * 8, none⟩) hb).trans c0, (hB'.cell (p := ⟨b, off + i * 8 + 1, none⟩) hb).trans c1, (hB'.cell (p := ⟨b, off + i * 8 + 2, none⟩) hb).trans c2, (hB'.cell (p := ⟨b, off + i * 8 + 3, none⟩) hb).trans c3, (hB'.cell (p := ⟨b, off + i * 8 + 4, none⟩) hb).trans c4, (hB'.cell (p := ⟨b, off + i * 8 + 5, none⟩) hb).trans c5, (hB'.cell (p := ⟨b, off + i * 8 + 6, none⟩) hb).trans c6, (hB'.cell (p := ⟨b, off + i * 8 + 7, none⟩) hb).trans c7⟩
      cases k with
      | zero =>
        have g0 : decide ((0 : Int) < ((0 : Nat) : Int)) = false := by decide
        have HS0 : Hid (∀ w', Below wr.heap.size wr w' → (fun w' => wr.heap.size ≤ w'.heap.size ∧ w'.cell? ⟨b, off, none⟩ = some (.int .i64 (pcg L 0).f0) ∧ w'.cell? ⟨b, off + 1, none⟩ = some (.int .i64 (pcg L 0).f1) ∧ w'.cell? ⟨b, off + 2, none⟩ = some (.int .i64 (pcg L 0).a0) ∧ w'.cell? ⟨b, off + 3, none⟩ = some (.int .i64 (pcg L 0).a1) ∧ w'.cell? ⟨b, off + 4, none⟩ = some (.int .i64 (pcg L 0).b0) ∧ w'.cell? ⟨b, off + 5, none⟩ = some (.int .i64 (pcg L 0).b1) ∧ w'.cell? ⟨b, off + 6, none⟩ = some (.int .i64 (pcg L 0).c0) ∧ w'.cell? ⟨b, off + 7, none⟩ = some (.int .i64 (pcg L 0).c1)) w') := Lib.hid fun w' h => by
          have := HK.out 0 hlt w' h
          simp only [Nat.zero_mul, Nat.add_zero] at this
          exact ⟨h.size, this⟩
        clear hB
        go_wp2_with fail
        go_upto_region 6 with (fail)
        refine wp_region_held_drew (S := fun w' => wr.heap.size ≤ w'.heap.size ∧ w'.cell? ⟨b, off, none⟩ = some (.int .i64 (pcg L 0).f0) ∧ w'.cell? ⟨b, off + 1, none⟩ = some (.int .i64 (pcg L 0).f1) ∧ w'.cell? ⟨b, off + 2, none⟩ = some (.int .i64 (pcg L 0).a0) ∧ w'.cell? ⟨b, off + 3, none⟩ = some (.int .i64 (pcg L 0).a1) ∧ w'.cell? ⟨b, off + 4, none⟩ = some (.int .i64 (pcg L 0).b0) ∧ w'.cell? ⟨b, off + 5, none⟩ = some (.int .i64 (pcg L 0).b1) ∧ w'.cell? ⟨b, off + 6, none⟩ = some (.int .i64 (pcg L 0).c0) ∧ w'.cell? ⟨b, off + 7, none⟩ = some (.int .i64 (pcg L 0).c1)) (by kernel_rfl) (HS0.out _ (Below.refl _ _).drew) (fun hHeld => ?_)
        have hB0 := (Below.refl wr.heap.size wr).drew
        obtain ⟨w0, hw0⟩ : ∃ x, wr.drew = x := ⟨_, rfl⟩
        simp only [hw0] at hB0 hHeld ⊢
        clear hw0
        refine wpAnyH_take (i := 0) (oi := _) (v := ?_) rfl (by kernel_rfl) (by kernel_rfl) (by kernel_rfl) (fun _ _ _ h => h) (Or.inl ⟨by rfl, ?_⟩) (by assumption) ?_
        rotate_left
        · (intro w hSw; (try dsimp only at hSw); go_split_ands; (try simp only [List.getElem_toArray, List.getElem_cons_zero]); go_simp; try with_reducible rfl)
        simp only [Act.put, List.setIfInBounds_toArray, List.set_cons_zero, List.set_cons_succ, List.getElem_toArray, List.getElem_cons_zero]
        refine wpAnyH_take (i := 1) (oi := _) (v := ?_) rfl (by kernel_rfl) (by kernel_rfl) (by kernel_rfl) (fun _ _ _ h => h) (Or.inl ⟨by rfl, ?_⟩) (by assumption) ?_
        rotate_left
        · (intro w hSw; (try dsimp only at hSw); go_split_ands; (try simp only [List.getElem_toArray, List.getElem_cons_succ, List.getElem_cons_zero]); go_simp; try with_reducible rfl)
        simp only [Act.put, List.setIfInBounds_toArray, List.set_cons_zero, List.set_cons_succ, List.getElem_toArray, List.getElem_cons_succ, List.getElem_cons_zero]
        refine wpAnyH_take (i := 2) (oi := _) (v := ?_) rfl (by kernel_rfl) (by kernel_rfl) (by kernel_rfl) (fun _ _ _ h => h) (Or.inl ⟨by rfl, ?_⟩) (by assumption) ?_
        rotate_left
        · (intro w hSw; (try dsimp only at hSw); go_split_ands; (try simp only [List.getElem_toArray, List.getElem_cons_succ, List.getElem_cons_zero]); go_simp; try with_reducible rfl)
        simp only [Act.put, List.setIfInBounds_toArray, List.set_cons_zero, List.set_cons_succ, List.getElem_toArray, List.getElem_cons_succ, List.getElem_cons_zero]
        refine wpAnyH_take (i := 3) (oi := _) (v := ?_) rfl (by kernel_rfl) (by kernel_rfl) (by kernel_rfl) (fun _ _ _ h => h) (Or.inl ⟨by rfl, ?_⟩) (by assumption) ?_
        rotate_left
        · (intro w hSw; (try dsimp only at hSw); go_split_ands; (try simp only [List.getElem_toArray, List.getElem_cons_succ, List.getElem_cons_zero]); go_simp; try with_reducible rfl)
        simp only [Act.put, List.setIfInBounds_toArray, List.set_cons_zero, List.set_cons_succ, List.getElem_toArray, List.getElem_cons_succ, List.getElem_cons_zero]
        refine wpAnyH_take (i := 4) (oi := _) (v := ?_) rfl (by kernel_rfl) (by kernel_rfl) (by kernel_rfl) (fun _ _ _ h => h) (Or.inl ⟨by rfl, ?_⟩) (by assumption) ?_
        rotate_left
        · (intro w hSw; (try dsimp only at hSw); go_split_ands; (try simp only [List.getElem_toArray, List.getElem_cons_succ, List.getElem_cons_zero]); go_simp; try with_reducible rfl)
        simp only [Act.put, List.setIfInBounds_toArray, List.set_cons_zero, List.set_cons_succ, List.getElem_toArray, List.getElem_cons_succ, List.getElem_cons_zero]
        refine wpAnyH_take (i := 5) (oi := _) (v := ?_) rfl (by kernel_rfl) (by kernel_rfl) (by kernel_rfl) (fun _ _ _ h => h) (Or.inl ⟨by rfl, ?_⟩) (by assumption) ?_
        rotate_left
        · (intro w hSw; (try dsimp only at hSw); go_split_ands; (try simp only [List.getElem_toArray, List.getElem_cons_succ, List.getElem_cons_zero]); go_simp; try with_reducible rfl)
        simp only [Act.put, List.setIfInBounds_toArray, List.set_cons_zero, List.set_cons_succ, List.getElem_toArray, List.getElem_cons_succ, List.getElem_cons_zero]
        refine wpAnyH_take (i := 6) (oi := _) (v := ?_) rfl (by kernel_rfl) (by kernel_rfl) (by kernel_rfl) (fun _ _ _ h => h) (Or.inl ⟨by rfl, ?_⟩) (by assumption) ?_
        rotate_left
        · (intro w hSw; (try dsimp only at hSw); go_split_ands; (try simp only [List.getElem_toArray, List.getElem_cons_succ, List.getElem_cons_zero]); go_simp; try with_reducible rfl)
        simp only [Act.put, List.setIfInBounds_toArray, List.set_cons_zero, List.set_cons_succ, List.getElem_toArray, List.getElem_cons_succ, List.getElem_cons_zero]
        refine wpAnyH_take (i := 7) (oi := _) (v := ?_) rfl (by kernel_rfl) (by kernel_rfl) (by kernel_rfl) (fun _ _ _ h => h) (Or.inl ⟨by rfl, ?_⟩) (by assumption) ?_
        rotate_left
        · (intro w hSw; (try dsimp only at hSw); go_split_ands; (try simp only [List.getElem_toArray, List.getElem_cons_succ, List.getElem_cons_zero]); go_simp; try with_reducible rfl)
        simp only [Act.put, List.setIfInBounds_toArray, List.set_cons_zero, List.set_cons_succ, List.getElem_toArray, List.getElem_cons_succ, List.getElem_cons_zero]
        refine wpAnyH_take (i := 8) (oi := _) (v := ?_) rfl (by kernel_rfl) (by kernel_rfl) (by kernel_rfl) (fun _ _ _ h => h) (Or.inl ⟨by rfl, ?_⟩) (by assumption) ?_
        rotate_left
        · (intro w hSw; (try dsimp only at hSw); go_split_ands; (try simp only [List.getElem_toArray, List.getElem_cons_succ, List.getElem_cons_zero]); go_simp; try with_reducible rfl)
        simp only [Act.put, List.setIfInBounds_toArray, List.set_cons_zero, List.set_cons_succ, List.getElem_toArray, List.getElem_cons_succ, List.getElem_cons_zero]
        refine wpAnyH_take (i := 9) (oi := _) (v := ?_) rfl (by kernel_rfl) (by kernel_rfl) (by kernel_rfl) (fun _ _ _ h => h) (Or.inl ⟨by rfl, ?_⟩) (by assumption) ?_
        rotate_left
        · (intro w hSw; (try dsimp only at hSw); go_split_ands; (try simp only [List.getElem_toArray, List.getElem_cons_succ, List.getElem_cons_zero]); go_simp; try with_reducible rfl)
        simp only [Act.put, List.setIfInBounds_toArray, List.set_cons_zero, List.set_cons_succ, List.getElem_toArray, List.getElem_cons_succ, List.getElem_cons_zero]
        refine wpAnyH_take (i := 10) (oi := _) (v := ?_) rfl (by kernel_rfl) (by kernel_rfl) (by kernel_rfl) (fun _ _ _ h => h) (Or.inl ⟨by rfl, ?_⟩) (by assumption) ?_
        rotate_left
        · (intro w hSw; (try dsimp only at hSw); go_split_ands; (try simp only [List.getElem_toArray, List.getElem_cons_succ, List.getElem_cons_zero]); go_simp; try with_reducible rfl)
        simp only [Act.put, List.setIfInBounds_toArray, List.set_cons_zero, List.set_cons_succ, List.getElem_toArray, List.getElem_cons_succ, List.getElem_cons_zero]
        refine wpAnyH_take (i := 11) (oi := _) (v := ?_) rfl (by kernel_rfl) (by kernel_rfl) (by kernel_rfl) (fun _ _ _ h => h) (Or.inl ⟨by rfl, ?_⟩) (by assumption) ?_
        rotate_left
        · (intro w hSw; (try dsimp only at hSw); go_split_ands; (try simp only [List.getElem_toArray, List.getElem_cons_succ, List.getElem_cons_zero]); go_simp; try with_reducible rfl)
        simp only [Act.put, List.setIfInBounds_toArray, List.set_cons_zero, List.set_cons_succ, List.getElem_toArray, List.getElem_cons_succ, List.getElem_cons_zero]
        refine wpAnyH_take (i := 12) (oi := _) (v := ?_) rfl (by kernel_rfl) (by kernel_rfl) (by kernel_rfl) (fun _ _ _ h => h) (Or.inl ⟨by rfl, ?_⟩) (by assumption) ?_
        rotate_left
        · (intro w hSw; (try dsimp only at hSw); go_split_ands; (try simp only [List.getElem_toArray, List.getElem_cons_succ, List.getElem_cons_zero]); go_simp; try with_reducible rfl)
        simp only [Act.put, List.setIfInBounds_toArray, List.set_cons_zero, List.set_cons_succ, List.getElem_toArray, List.getElem_cons_succ, List.getElem_cons_zero]
        refine wpAnyH_take (i := 13) (oi := _) (v := ?_) rfl (by kernel_rfl) (by kernel_rfl) (by kernel_rfl) (fun _ _ _ h => h) (Or.inl ⟨by rfl, ?_⟩) (by assumption) ?_
        rotate_left
        · (intro w hSw; (try dsimp only at hSw); go_split_ands; (try simp only [List.getElem_toArray, List.getElem_cons_succ, List.getElem_cons_zero]); go_simp; try with_reducible rfl)
        simp only [Act.put, List.setIfInBounds_toArray, List.set_cons_zero, List.set_cons_succ, List.getElem_toArray, List.getElem_cons_succ, List.getElem_cons_zero]
        refine wpAnyH_take (i := 14) (oi := _) (v := ?_) rfl (by kernel_rfl) (by kernel_rfl) (by kernel_rfl) (fun _ _ _ h => h) (Or.inl ⟨by rfl, ?_⟩) (by assumption) ?_
        rotate_left
        · (intro w hSw; (try dsimp only at hSw); go_split_ands; (try simp only [List.getElem_toArray, List.getElem_cons_succ, List.getElem_cons_zero]); go_simp; try with_reducible rfl)
        simp only [Act.put, List.setIfInBounds_toArray, List.set_cons_zero, List.set_cons_succ, List.getElem_toArray, List.getElem_cons_succ, List.getElem_cons_zero]
        refine wpAnyH_take (i := 15) (oi := _) (v := ?_) rfl (by kernel_rfl) (by kernel_rfl) (by kernel_rfl) (fun _ _ _ h => h) (Or.inl ⟨by rfl, ?_⟩) (by assumption) ?_
        rotate_left
        · (intro w hSw; (try dsimp only at hSw); go_split_ands; (try simp only [List.getElem_toArray, List.getElem_cons_succ, List.getElem_cons_zero]); go_simp; try with_reducible rfl)
        simp only [Act.put, List.setIfInBounds_toArray, List.set_cons_zero, List.set_cons_succ, List.getElem_toArray, List.getElem_cons_succ, List.getElem_cons_zero]
        refine wpAnyH_take (i := 16) (oi := _) (v := ?_) rfl (by kernel_rfl) (by kernel_rfl) (by kernel_rfl) (fun _ _ _ h => h) (Or.inl ⟨by rfl, ?_⟩) (by assumption) ?_
        rotate_left
        · (intro w hSw; (try dsimp only at hSw); go_split_ands; (try simp only [List.getElem_toArray, List.getElem_cons_succ, List.getElem_cons_zero]); go_simp; try with_reducible rfl)
        simp only [Act.put, List.setIfInBounds_toArray, List.set_cons_zero, List.set_cons_succ, List.getElem_toArray, List.getElem_cons_succ, List.getElem_cons_zero]
        refine wpAnyH_take (i := 17) (oi := _) (v := ?_) rfl (by kernel_rfl) (by kernel_rfl) (by kernel_rfl) (fun _ _ _ h => h) (Or.inl ⟨by rfl, ?_⟩) (by assumption) ?_
        rotate_left
        · (intro w hSw; (try dsimp only at hSw); go_split_ands; (try simp only [List.getElem_toArray, List.getElem_cons_succ, List.getElem_cons_zero]); go_simp; try with_reducible rfl)
        simp only [Act.put, List.setIfInBounds_toArray, List.set_cons_zero, List.set_cons_succ, List.getElem_toArray, List.getElem_cons_succ, List.getElem_cons_zero]
        refine wpAnyH_take (i := 18) (oi := _) (v := ?_) rfl (by kernel_rfl) (by kernel_rfl) (by kernel_rfl) (fun _ _ _ h => h) (Or.inl ⟨by rfl, ?_⟩) (by assumption) ?_
        rotate_left
        · (intro w hSw; (try dsimp only at hSw); go_split_ands; (try simp only [List.getElem_toArray, List.getElem_cons_succ, List.getElem_cons_zero]); go_simp; try with_reducible rfl)
        simp only [Act.put, List.setIfInBounds_toArray, List.set_cons_zero, List.set_cons_succ, List.getElem_toArray, List.getElem_cons_succ, List.getElem_cons_zero]
        refine wpAnyH_take (i := 19) (oi := _) (v := ?_) rfl (by kernel_rfl) (by kernel_rfl) (by kernel_rfl) (fun _ _ _ h => h) (Or.inl ⟨by rfl, ?_⟩) (by assumption) ?_
        rotate_left
        · (intro w hSw; (try dsimp only at hSw); go_split_ands; (try simp only [List.getElem_toArray, List.getElem_cons_succ, List.getElem_cons_zero]); go_simp; try with_reducible rfl)
        simp only [Act.put, List.setIfInBounds_toArray, List.set_cons_zero, List.set_cons_succ, List.getElem_toArray, List.getElem_cons_succ, List.getElem_cons_zero]
        refine wpAnyH_ready (rs := [20]) (by kernel_rfl) (by simp) ?_
        refine AllReadyH.cons (o := _) rfl (fun K hK => ?_) (AllReadyH.nil)
        try simp only [List.getElem_toArray, List.getElem_cons_succ, List.getElem_cons_zero]
        go_split_ands
        go_wp2_with fail
        have hB1 := below_a (.cells #[.int .i64 (pcg L 0).f0, .int .i64 (pcg L 0).f1, .int .i64 (pcg L 0).a0, .int .i64 (pcg L 0).a1, .int .i64 (pcg L 0).b0, .int .i64 (pcg L 0).b1, .int .i64 (pcg L 0).c0, .int .i64 (pcg L 0).c1] 39) hB0
        have hN := Lib.hid (new8 w0 (pcg L 0).f0 (pcg L 0).f1 (pcg L 0).a0 (pcg L 0).a1 (pcg L 0).b0 (pcg L 0).b1 (pcg L 0).c0 (pcg L 0).c1 39)
        obtain ⟨Bn, hBn⟩ : ∃ b, w0.heap.size = b := ⟨_, rfl⟩
        simp only [hBn] at hN ⊢
        generalize w0.alloc (.cells #[.int .i64 (pcg L 0).f0, .int .i64 (pcg L 0).f1, .int .i64 (pcg L 0).a0, .int .i64 (pcg L 0).a1, .int .i64 (pcg L 0).b0, .int .i64 (pcg L 0).b1, .int .i64 (pcg L 0).c0, .int .i64 (pcg L 0).c1] 39) = w1 at *
        refine hK.out _ _ (HS0.out _ hB1) (fun hHeld => ?_)
        clear hK K
        try simp only [Act.put, List.setIfInBounds_toArray, List.set_cons_zero, List.set_cons_succ, List.getElem_toArray, List.getElem_cons_succ, List.getElem_cons_zero]
        refine wpAnyH_ready (rs := [21]) (by kernel_rfl) (by simp) ?_
        refine AllReadyH.cons (o := _) rfl (fun K hK => ?_) (AllReadyH.nil)
        try simp only [List.getElem_toArray, List.getElem_cons_succ, List.getElem_cons_zero]
        go_simp
        (go_at_call 55; go_split_ands; (with_reducible refine (rall02_yes Bn 4 _ _ _ _ _ _ _ _ HV.out.f HV.out.a HV.out.b HV.out.c _ hN.out).mono ?_); rintro e w2 ⟨rfl, hb2⟩)
        go_wp2_with fail
        have hB2 := hB1.trans (hb2.mono hB1.size)
        refine hK.out _ _ (HS0.out _ hB2) (fun hHeld => ?_)
        clear hK K
        try simp only [Act.put, List.setIfInBounds_toArray, List.set_cons_zero, List.set_cons_succ, List.getElem_toArray, List.getElem_cons_succ, List.getElem_cons_zero]
        refine wpAnyH_take (i := 22) (oi := _) (v := ?_) rfl (by kernel_rfl) (by kernel_rfl) (by kernel_rfl) (fun _ _ _ h => h) (Or.inl ⟨by rfl, ?_⟩) (by assumption) ?_
        rotate_left
        · (intro w hSw; (try dsimp only at hSw); go_split_ands; (try simp only [List.getElem_toArray, List.getElem_cons_succ, List.getElem_cons_zero]); go_simp; try with_reducible rfl)
        simp only [Act.put, List.setIfInBounds_toArray, List.set_cons_zero, List.set_cons_succ, List.getElem_toArray, List.getElem_cons_succ, List.getElem_cons_zero]
        refine wpAnyH_take (i := 23) (oi := _) (v := ?_) rfl (by kernel_rfl) (by kernel_rfl) (by kernel_rfl) (fun _ _ _ h => h) (Or.inl ⟨by rfl, ?_⟩) (by assumption) ?_
        rotate_left
        · (intro w hSw; (try dsimp only at hSw); go_split_ands; (try simp only [List.getElem_toArray, List.getElem_cons_succ, List.getElem_cons_zero]); go_simp; try with_reducible rfl)
        simp only [Act.put, List.setIfInBounds_toArray, List.set_cons_zero, List.set_cons_succ, List.getElem_toArray, List.getElem_cons_succ, List.getElem_cons_zero]
        refine wpAnyH_take (i := 24) (oi := _) (v := ?_) rfl (by kernel_rfl) (by kernel_rfl) (by kernel_rfl) (fun _ _ _ h => h) (Or.inl ⟨by rfl, ?_⟩) (by assumption) ?_
        rotate_left
        · (intro w hSw; (try dsimp only at hSw); go_split_ands; (try simp only [List.getElem_toArray, List.getElem_cons_succ, List.getElem_cons_zero]); go_simp; try with_reducible rfl)
        simp only [Act.put, List.setIfInBounds_toArray, List.set_cons_zero, List.set_cons_succ, List.getElem_toArray, List.getElem_cons_succ, List.getElem_cons_zero]
        refine wpAnyH_take (i := 25) (oi := _) (v := ?_) rfl (by kernel_rfl) (by kernel_rfl) (by kernel_rfl) (fun _ _ _ h => h) (Or.inl ⟨by rfl, ?_⟩) (by assumption) ?_
        rotate_left
        · (intro w hSw; (try dsimp only at hSw); go_split_ands; (try simp only [List.getElem_toArray, List.getElem_cons_succ, List.getElem_cons_zero]); go_simp; try with_reducible rfl)
        simp only [Act.put, List.setIfInBounds_toArray, List.set_cons_zero, List.set_cons_succ, List.getElem_toArray, List.getElem_cons_succ, List.getElem_cons_zero]
        refine wpAnyH_take (i := 26) (oi := _) (v := ?_) rfl (by kernel_rfl) (by kernel_rfl) (by kernel_rfl) (fun _ _ _ h => h) (Or.inl ⟨by rfl, ?_⟩) (by assumption) ?_
        rotate_left
        · (intro w hSw; (try dsimp only at hSw); go_split_ands; (try simp only [List.getElem_toArray, List.getElem_cons_succ, List.getElem_cons_zero]); go_simp; try with_reducible rfl)
        simp only [Act.put, List.setIfInBounds_toArray, List.set_cons_zero, List.set_cons_succ, List.getElem_toArray, List.getElem_cons_succ, List.getElem_cons_zero]
        refine wpAnyH_take (i := 27) (oi := _) (v := undef) rfl (by kernel_rfl) (by kernel_rfl) (by kernel_rfl) (fun _ _ _ h => h) (Or.inr ⟨by rfl, rfl⟩) (by assumption) ?_
        simp only [Act.put, List.setIfInBounds_toArray, List.set_cons_zero, List.set_cons_succ, List.getElem_toArray, List.getElem_cons_succ, List.getElem_cons_zero]
        refine wpAnyH_take (i := 28) (oi := _) (v := undef) rfl (by kernel_rfl) (by kernel_rfl) (by kernel_rfl) (fun _ _ _ h => h) (Or.inr ⟨by rfl, rfl⟩) (by assumption) ?_
        simp only [Act.put, List.setIfInBounds_toArray, List.set_cons_zero, List.set_cons_succ, List.getElem_toArray, List.getElem_cons_succ, List.getElem_cons_zero]
        refine wpAnyH_take (i := 29) (oi := _) (v := undef) rfl (by kernel_rfl) (by kernel_rfl) (by kernel_rfl) (fun _ _ _ h => h) (Or.inr ⟨by rfl, rfl⟩) (by assumption) ?_
        simp only [Act.put, List.setIfInBounds_toArray, List.set_cons_zero, List.set_cons_succ, List.getElem_toArray, List.getElem_cons_succ, List.getElem_cons_zero]
        refine wpAnyH_take (i := 30) (oi := _) (v := undef) rfl (by kernel_rfl) (by kernel_rfl) (by kernel_rfl) (fun _ _ _ h => h) (Or.inr ⟨by rfl, rfl⟩) (by assumption) ?_
        simp only [Act.put, List.setIfInBounds_toArray, List.set_cons_zero, List.set_cons_succ, List.getElem_toArray, List.getElem_cons_succ, List.getElem_cons_zero]
        refine wpAnyH_take (i := 31) (oi := _) (v := undef) rfl (by kernel_rfl) (by kernel_rfl) (by kernel_rfl) (fun _ _ _ h => h) (Or.inr ⟨by rfl, rfl⟩) (by assumption) ?_
        simp only [Act.put, List.setIfInBounds_toArray, List.set_cons_zero, List.set_cons_succ, List.getElem_toArray, List.getElem_cons_succ, List.getElem_cons_zero]
        refine wpAnyH_take (i := 32) (oi := _) (v := undef) rfl (by kernel_rfl) (by kernel_rfl) (by kernel_rfl) (fun _ _ _ h => h) (Or.inr ⟨by rfl, rfl⟩) (by assumption) ?_
        simp only [Act.put, List.setIfInBounds_toArray, List.set_cons_zero, List.set_cons_succ, List.getElem_toArray, List.getElem_cons_succ, List.getElem_cons_zero]
        refine wpAnyH_take (i := 33) (oi := _) (v := undef) rfl (by kernel_rfl) (by kernel_rfl) (by kernel_rfl) (fun _ _ _ h => h) (Or.inr ⟨by rfl, rfl⟩) (by assumption) ?_
        simp only [Act.put, List.setIfInBounds_toArray, List.set_cons_zero, List.set_cons_succ, List.getElem_toArray, List.getElem_cons_succ, List.getElem_cons_zero]
        refine wpAnyH_take (i := 34) (oi := _) (v := undef) rfl (by kernel_rfl) (by kernel_rfl) (by kernel_rfl) (fun _ _ _ h => h) (Or.inr ⟨by rfl, rfl⟩) (by assumption) ?_
        simp only [Act.put, List.setIfInBounds_toArray, List.set_cons_zero, List.set_cons_succ, List.getElem_toArray, List.getElem_cons_succ, List.getElem_cons_zero]
        refine wpAnyH_take (i := 35) (oi := _) (v := undef) rfl (by kernel_rfl) (by kernel_rfl) (by kernel_rfl) (fun _ _ _ h => h) (Or.inr ⟨by rfl, rfl⟩) (by assumption) ?_
        simp only [Act.put, List.setIfInBounds_toArray, List.set_cons_zero, List.set_cons_succ, List.getElem_toArray, List.getElem_cons_succ, List.getElem_cons_zero]
        refine wpAnyH_take (i := 36) (oi := _) (v := undef) rfl (by kernel_rfl) (by kernel_rfl) (by kernel_rfl) (fun _ _ _ h => h) (Or.inr ⟨by rfl, rfl⟩) (by assumption) ?_
        simp only [Act.put, List.setIfInBounds_toArray, List.set_cons_zero, List.set_cons_succ, List.getElem_toArray, List.getElem_cons_succ, List.getElem_cons_zero]
        refine wpAnyH_take (i := 37) (oi := _) (v := undef) rfl (by kernel_rfl) (by kernel_rfl) (by kernel_rfl) (fun _ _ _ h => h) (Or.inr ⟨by rfl, rfl⟩) (by assumption) ?_
        simp only [Act.put, List.setIfInBounds_toArray, List.set_cons_zero, List.set_cons_succ, List.getElem_toArray, List.getElem_cons_succ, List.getElem_cons_zero]
        refine wpAnyH_take (i := 38) (oi := _) (v := undef) rfl (by kernel_rfl) (by kernel_rfl) (by kernel_rfl) (fun _ _ _ h => h) (Or.inr ⟨by rfl, rfl⟩) (by assumption) ?_
        simp only [Act.put, List.setIfInBounds_toArray, List.set_cons_zero, List.set_cons_succ, List.getElem_toArray, List.getElem_cons_succ, List.getElem_cons_zero]
        refine wpAnyH_take (i := 39) (oi := _) (v := undef) rfl (by kernel_rfl) (by kernel_rfl) (by kernel_rfl) (fun _ _ _ h => h) (Or.inr ⟨by rfl, rfl⟩) (by assumption) ?_
        simp only [Act.put, List.setIfInBounds_toArray, List.set_cons_zero, List.set_cons_succ, List.getElem_toArray, List.getElem_cons_succ, List.getElem_cons_zero]
        refine wpAnyH_take (i := 40) (oi := _) (v := ?_) rfl (by kernel_rfl) (by kernel_rfl) (by kernel_rfl) (fun _ _ _ h => h) (Or.inl ⟨by rfl, ?_⟩) (by assumption) ?_
        rotate_left
        · (intro w hSw; (try dsimp only at hSw); go_split_ands; (try simp only [List.getElem_toArray, List.getElem_cons_succ, List.getElem_cons_zero]); go_simp; try with_reducible rfl)
        simp only [Act.put, List.setIfInBounds_toArray, List.set_cons_zero, List.set_cons_succ, List.getElem_toArray, List.getElem_cons_succ, List.getElem_cons_zero]
        refine wpAnyH_take (i := 41) (oi := _) (v := ?_) rfl (by kernel_rfl) (by kernel_rfl) (by kernel_rfl) (fun _ _ _ h => h) (Or.inl ⟨by rfl, ?_⟩) (by assumption) ?_
        rotate_left
        · (intro w hSw; (try dsimp only at hSw); go_split_ands; (try simp only [List.getElem_toArray, List.getElem_cons_succ, List.getElem_cons_zero]); go_simp; try with_reducible rfl)
        simp only [Act.put, List.setIfInBounds_toArray, List.set_cons_zero, List.set_cons_succ, List.getElem_toArray, List.getElem_cons_succ, List.getElem_cons_zero]
        refine wpAnyH_done (by kernel_rfl) ?_ _
        have hB := hB2
        go_wp2_with fail
        go_roundw
        case rel => exact ⟨1, by omega, by go_num, HB.out.trans (hB.mono HB.out.size)⟩
        case measure => simp [intOf]; omega
      | succ k =>
        have g0 : decide ((0 : Int) < ((k + 1 : Nat) : Int)) = true := decide_eq_true (by omega)
        have g1 : decide ((0 : Int) < (k : Int) + 1) = true := decide_eq_true (by omega)
        have j1 : IntKind.i64.wrap ((k : Int) + 1 - 1) = (k : Int) := (IntWalk.i64_in _ (by omega)).trans (by omega)
        have j2 : IntKind.i64.wrap (((k + 1 : Nat) : Int) - 1) = (k : Int) := (IntWalk.i64_in _ (by omega)).trans (by omega)
        have j3 : IntKind.i64.wrap (k : Int) = (k : Int) := IntWalk.i64_in _ (by omega)
        have j4 : (k : Int) < (L.length : Int) := by omega
        have j5 : (0 : Int) ≤ (k : Int) := by omega
        have j6 : (k : Int) + 1 < (L.length : Int) := by omega
        have j7 : (0 : Int) ≤ (k : Int) + 1 := by omega
        have j8 : ((k : Int) + 1).toNat = k + 1 := by omega
        have hk1 : k < L.length := by omega
        have v1 := (validF_iff _ _).1 (HOK.out.val k hk1).f
        have v2 := (validF_iff _ _).1 HV.out.f
        have HCM : Hid (∀ w : World, Calls Try.prog 21 #[.agg #[.int .i64 (pcg L k).f0, .int .i64 (pcg L k).f1], .agg #[.int .i64 (pcg L (k + 1)).f0, .int .i64 (pcg L (k + 1)).f1]] w fun e w' => e = .returned (.int .i64 (-1)) ∧ Below w.heap.size w w') := Lib.hid fun w => by
          have n1 := HNN.out k hk1
          have n2 := HNN.out (k + 1) hlt
          have := rcmp_any (pcg L k).f0 (pcg L k).f1 (pcg L (k + 1)).f0 (pcg L (k + 1)).f1 n1 (by omega) (by omega) (by omega) n2 (by omega) (by omega) (by omega) w
          rwa [cmpP_lt (HOK.out.asc k hlt)] at this
        have HS1 : Hid (∀ w', Below wr.heap.size wr w' → (fun w' => wr.heap.size ≤ w'.heap.size ∧ w'.cell? ⟨b, off + (k + 1) * 8, none⟩ = some (.int .i64 (pcg L (k + 1)).f0) ∧ w'.cell? ⟨b, off + (k + 1) * 8 + 1, none⟩ = some (.int .i64 (pcg L (k + 1)).f1) ∧ w'.cell? ⟨b, off + (k + 1) * 8 + 2, none⟩ = some (.int .i64 (pcg L (k + 1)).a0) ∧ w'.cell? ⟨b, off + (k + 1) * 8 + 3, none⟩ = some (.int .i64 (pcg L (k + 1)).a1) ∧ w'.cell? ⟨b, off + (k + 1) * 8 + 4, none⟩ = some (.int .i64 (pcg L (k + 1)).b0) ∧ w'.cell? ⟨b, off + (k + 1) * 8 + 5, none⟩ = some (.int .i64 (pcg L (k + 1)).b1) ∧ w'.cell? ⟨b, off + (k + 1) * 8 + 6, none⟩ = some (.int .i64 (pcg L (k + 1)).c0) ∧ w'.cell? ⟨b, off + (k + 1) * 8 + 7, none⟩ = some (.int .i64 (pcg L (k + 1)).c1) ∧ w'.cell? ⟨b, off + k * 8, none⟩ = some (.int .i64 (pcg L k).f0) ∧ w'.cell? ⟨b, off + k * 8 + 1, none⟩ = some (.int .i64 (pcg L k).f1)) w') := Lib.hid fun w' h => by
          obtain ⟨c0, c1, c2, c3, c4, c5, c6, c7⟩ := HK.out (k + 1) hlt w' h
          obtain ⟨d0, d1, _⟩ := HK.out k hk1 w' h
          exact ⟨h.size, c0, c1, c2, c3, c4, c5, c6, c7, d0, d1⟩
        clear hB v1 v2
        go_wp2_with fail
        go_upto_region 6 with (fail)
        refine wp_region_held_drew (S := fun w' => wr.heap.size ≤ w'.heap.size ∧ w'.cell? ⟨b, off + (k + 1) * 8, none⟩ = some (.int .i64 (pcg L (k + 1)).f0) ∧ w'.cell? ⟨b, off + (k + 1) * 8 + 1, none⟩ = some (.int .i64 (pcg L (k + 1)).f1) ∧ w'.cell? ⟨b, off + (k + 1) * 8 + 2, none⟩ = some (.int .i64 (pcg L (k + 1)).a0) ∧ w'.cell? ⟨b, off + (k + 1) * 8 + 3, none⟩ = some (.int .i64 (pcg L (k + 1)).a1) ∧ w'.cell? ⟨b, off + (k + 1) * 8 + 4, none⟩ = some (.int .i64 (pcg L (k + 1)).b0) ∧ w'.cell? ⟨b, off + (k + 1) * 8 + 5, none⟩ = some (.int .i64 (pcg L (k + 1)).b1) ∧ w'.cell? ⟨b, off + (k + 1) * 8 + 6, none⟩ = some (.int .i64 (pcg L (k + 1)).c0) ∧ w'.cell? ⟨b, off + (k + 1) * 8 + 7, none⟩ = some (.int .i64 (pcg L (k + 1)).c1) ∧ w'.cell? ⟨b, off + k * 8, none⟩ = some (.int .i64 (pcg L k).f0) ∧ w'.cell? ⟨b, off + k * 8 + 1, none⟩ = some (.int .i64 (pcg L k).f1)) (by kernel_rfl) (HS1.out _ (Below.refl _ _).drew) (fun hHeld => ?_)
        have hB0 := (Below.refl wr.heap.size wr).drew
        obtain ⟨w0, hw0⟩ : ∃ x, wr.drew = x := ⟨_, rfl⟩
        simp only [hw0] at hB0 hHeld ⊢
        clear hw0
        refine wpAnyH_take (i := 0) (oi := _) (v := ?_) rfl (by kernel_rfl) (by kernel_rfl) (by kernel_rfl) (fun _ _ _ h => h) (Or.inl ⟨by rfl, ?_⟩) (by assumption) ?_
        rotate_left
        · (intro w hSw; (try dsimp only at hSw); go_split_ands; (try simp only [List.getElem_toArray, List.getElem_cons_zero]); go_simp; try with_reducible rfl)
        simp only [Act.put, List.setIfInBounds_toArray, List.set_cons_zero, List.set_cons_succ, List.getElem_toArray, List.getElem_cons_zero]
        refine wpAnyH_take (i := 1) (oi := _) (v := ?_) rfl (by kernel_rfl) (by kernel_rfl) (by kernel_rfl) (fun _ _ _ h => h) (Or.inl ⟨by rfl, ?_⟩) (by assumption) ?_
        rotate_left
        · (intro w hSw; (try dsimp only at hSw); go_split_ands; (try simp only [List.getElem_toArray, List.getElem_cons_succ, List.getElem_cons_zero]); go_simp; try with_reducible rfl)
        simp only [Act.put, List.setIfInBounds_toArray, List.set_cons_zero, List.set_cons_succ, List.getElem_toArray, List.getElem_cons_succ, List.getElem_cons_zero]
        refine wpAnyH_take (i := 2) (oi := _) (v := ?_) rfl (by kernel_rfl) (by kernel_rfl) (by kernel_rfl) (fun _ _ _ h => h) (Or.inl ⟨by rfl, ?_⟩) (by assumption) ?_
        rotate_left
        · (intro w hSw; (try dsimp only at hSw); go_split_ands; (try simp only [List.getElem_toArray, List.getElem_cons_succ, List.getElem_cons_zero]); go_simp; try with_reducible rfl)
        simp only [Act.put, List.setIfInBounds_toArray, List.set_cons_zero, List.set_cons_succ, List.getElem_toArray, List.getElem_cons_succ, List.getElem_cons_zero]
        refine wpAnyH_take (i := 3) (oi := _) (v := ?_) rfl (by kernel_rfl) (by kernel_rfl) (by kernel_rfl) (fun _ _ _ h => h) (Or.inl ⟨by rfl, ?_⟩) (by assumption) ?_
        rotate_left
        · (intro w hSw; (try dsimp only at hSw); go_split_ands; (try simp only [List.getElem_toArray, List.getElem_cons_succ, List.getElem_cons_zero]); go_simp; try with_reducible rfl)
        simp only [Act.put, List.setIfInBounds_toArray, List.set_cons_zero, List.set_cons_succ, List.getElem_toArray, List.getElem_cons_succ, List.getElem_cons_zero]
        refine wpAnyH_take (i := 4) (oi := _) (v := ?_) rfl (by kernel_rfl) (by kernel_rfl) (by kernel_rfl) (fun _ _ _ h => h) (Or.inl ⟨by rfl, ?_⟩) (by assumption) ?_
        rotate_left
        · (intro w hSw; (try dsimp only at hSw); go_split_ands; (try simp only [List.getElem_toArray, List.getElem_cons_succ, List.getElem_cons_zero]); go_simp; try with_reducible rfl)
        simp only [Act.put, List.setIfInBounds_toArray, List.set_cons_zero, List.set_cons_succ, List.getElem_toArray, List.getElem_cons_succ, List.getElem_cons_zero]
        refine wpAnyH_take (i := 5) (oi := _) (v := ?_) rfl (by kernel_rfl) (by kernel_rfl) (by kernel_rfl) (fun _ _ _ h => h) (Or.inl ⟨by rfl, ?_⟩) (by assumption) ?_
        rotate_left
        · (intro w hSw; (try dsimp only at hSw); go_split_ands; (try simp only [List.getElem_toArray, List.getElem_cons_succ, List.getElem_cons_zero]); go_simp; try with_reducible rfl)
        simp only [Act.put, List.setIfInBounds_toArray, List.set_cons_zero, List.set_cons_succ, List.getElem_toArray, List.getElem_cons_succ, List.getElem_cons_zero]
        refine wpAnyH_take (i := 6) (oi := _) (v := ?_) rfl (by kernel_rfl) (by kernel_rfl) (by kernel_rfl) (fun _ _ _ h => h) (Or.inl ⟨by rfl, ?_⟩) (by assumption) ?_
        rotate_left
        · (intro w hSw; (try dsimp only at hSw); go_split_ands; (try simp only [List.getElem_toArray, List.getElem_cons_succ, List.getElem_cons_zero]); go_simp; try with_reducible rfl)
        simp only [Act.put, List.setIfInBounds_toArray, List.set_cons_zero, List.set_cons_succ, List.getElem_toArray, List.getElem_cons_succ, List.getElem_cons_zero]
        refine wpAnyH_take (i := 7) (oi := _) (v := ?_) rfl (by kernel_rfl) (by kernel_rfl) (by kernel_rfl) (fun _ _ _ h => h) (Or.inl ⟨by rfl, ?_⟩) (by assumption) ?_
        rotate_left
        · (intro w hSw; (try dsimp only at hSw); go_split_ands; (try simp only [List.getElem_toArray, List.getElem_cons_succ, List.getElem_cons_zero]); go_simp; try with_reducible rfl)
        simp only [Act.put, List.setIfInBounds_toArray, List.set_cons_zero, List.set_cons_succ, List.getElem_toArray, List.getElem_cons_succ, List.getElem_cons_zero]
        refine wpAnyH_take (i := 8) (oi := _) (v := ?_) rfl (by kernel_rfl) (by kernel_rfl) (by kernel_rfl) (fun _ _ _ h => h) (Or.inl ⟨by rfl, ?_⟩) (by assumption) ?_
        rotate_left
        · (intro w hSw; (try dsimp only at hSw); go_split_ands; (try simp only [List.getElem_toArray, List.getElem_cons_succ, List.getElem_cons_zero]); go_simp; try with_reducible rfl)
        simp only [Act.put, List.setIfInBounds_toArray, List.set_cons_zero, List.set_cons_succ, List.getElem_toArray, List.getElem_cons_succ, List.getElem_cons_zero]
        refine wpAnyH_take (i := 9) (oi := _) (v := ?_) rfl (by kernel_rfl) (by kernel_rfl) (by kernel_rfl) (fun _ _ _ h => h) (Or.inl ⟨by rfl, ?_⟩) (by assumption) ?_
        rotate_left
        · (intro w hSw; (try dsimp only at hSw); go_split_ands; (try simp only [List.getElem_toArray, List.getElem_cons_succ, List.getElem_cons_zero]); go_simp; try with_reducible rfl)
        simp only [Act.put, List.setIfInBounds_toArray, List.set_cons_zero, List.set_cons_succ, List.getElem_toArray, List.getElem_cons_succ, List.getElem_cons_zero]
        refine wpAnyH_take (i := 10) (oi := _) (v := ?_) rfl (by kernel_rfl) (by kernel_rfl) (by kernel_rfl) (fun _ _ _ h => h) (Or.inl ⟨by rfl, ?_⟩) (by assumption) ?_
        rotate_left
        · (intro w hSw; (try dsimp only at hSw); go_split_ands; (try simp only [List.getElem_toArray, List.getElem_cons_succ, List.getElem_cons_zero]); go_simp; try with_reducible rfl)
        simp only [Act.put, List.setIfInBounds_toArray, List.set_cons_zero, List.set_cons_succ, List.getElem_toArray, List.getElem_cons_succ, List.getElem_cons_zero]
        refine wpAnyH_take (i := 11) (oi := _) (v := ?_) rfl (by kernel_rfl) (by kernel_rfl) (by kernel_rfl) (fun _ _ _ h => h) (Or.inl ⟨by rfl, ?_⟩) (by assumption) ?_
        rotate_left
        · (intro w hSw; (try dsimp only at hSw); go_split_ands; (try simp only [List.getElem_toArray, List.getElem_cons_succ, List.getElem_cons_zero]); go_simp; try with_reducible rfl)
        simp only [Act.put, List.setIfInBounds_toArray, List.set_cons_zero, List.set_cons_succ, List.getElem_toArray, List.getElem_cons_succ, List.getElem_cons_zero]
        refine wpAnyH_take (i := 12) (oi := _) (v := ?_) rfl (by kernel_rfl) (by kernel_rfl) (by kernel_rfl) (fun _ _ _ h => h) (Or.inl ⟨by rfl, ?_⟩) (by assumption) ?_
        rotate_left
        · (intro w hSw; (try dsimp only at hSw); go_split_ands; (try simp only [List.getElem_toArray, List.getElem_cons_succ, List.getElem_cons_zero]); go_simp; try with_reducible rfl)
        simp only [Act.put, List.setIfInBounds_toArray, List.set_cons_zero, List.set_cons_succ, List.getElem_toArray, List.getElem_cons_succ, List.getElem_cons_zero]
        refine wpAnyH_take (i := 13) (oi := _) (v := ?_) rfl (by kernel_rfl) (by kernel_rfl) (by kernel_rfl) (fun _ _ _ h => h) (Or.inl ⟨by rfl, ?_⟩) (by assumption) ?_
        rotate_left
        · (intro w hSw; (try dsimp only at hSw); go_split_ands; (try simp only [List.getElem_toArray, List.getElem_cons_succ, List.getElem_cons_zero]); go_simp; try with_reducible rfl)
        simp only [Act.put, List.setIfInBounds_toArray, List.set_cons_zero, List.set_cons_succ, List.getElem_toArray, List.getElem_cons_succ, List.getElem_cons_zero]
        refine wpAnyH_take (i := 14) (oi := _) (v := ?_) rfl (by kernel_rfl) (by kernel_rfl) (by kernel_rfl) (fun _ _ _ h => h) (Or.inl ⟨by rfl, ?_⟩) (by assumption) ?_
        rotate_left
        · (intro w hSw; (try dsimp only at hSw); go_split_ands; (try simp only [List.getElem_toArray, List.getElem_cons_succ, List.getElem_cons_zero]); go_simp; try with_reducible rfl)
        simp only [Act.put, List.setIfInBounds_toArray, List.set_cons_zero, List.set_cons_succ, List.getElem_toArray, List.getElem_cons_succ, List.getElem_cons_zero]
        refine wpAnyH_take (i := 15) (oi := _) (v := ?_) rfl (by kernel_rfl) (by kernel_rfl) (by kernel_rfl) (fun _ _ _ h => h) (Or.inl ⟨by rfl, ?_⟩) (by assumption) ?_
        rotate_left
        · (intro w hSw; (try dsimp only at hSw); go_split_ands; (try simp only [List.getElem_toArray, List.getElem_cons_succ, List.getElem_cons_zero]); go_simp; try with_reducible rfl)
        simp only [Act.put, List.setIfInBounds_toArray, List.set_cons_zero, List.set_cons_succ, List.getElem_toArray, List.getElem_cons_succ, List.getElem_cons_zero]
        refine wpAnyH_take (i := 16) (oi := _) (v := ?_) rfl (by kernel_rfl) (by kernel_rfl) (by kernel_rfl) (fun _ _ _ h => h) (Or.inl ⟨by rfl, ?_⟩) (by assumption) ?_
        rotate_left
        · (intro w hSw; (try dsimp only at hSw); go_split_ands; (try simp only [List.getElem_toArray, List.getElem_cons_succ, List.getElem_cons_zero]); go_simp; try with_reducible rfl)
        simp only [Act.put, List.setIfInBounds_toArray, List.set_cons_zero, List.set_cons_succ, List.getElem_toArray, List.getElem_cons_succ, List.getElem_cons_zero]
        refine wpAnyH_take (i := 17) (oi := _) (v := ?_) rfl (by kernel_rfl) (by kernel_rfl) (by kernel_rfl) (fun _ _ _ h => h) (Or.inl ⟨by rfl, ?_⟩) (by assumption) ?_
        rotate_left
        · (intro w hSw; (try dsimp only at hSw); go_split_ands; (try simp only [List.getElem_toArray, List.getElem_cons_succ, List.getElem_cons_zero]); go_simp; try with_reducible rfl)
        simp only [Act.put, List.setIfInBounds_toArray, List.set_cons_zero, List.set_cons_succ, List.getElem_toArray, List.getElem_cons_succ, List.getElem_cons_zero]
        refine wpAnyH_take (i := 18) (oi := _) (v := ?_) rfl (by kernel_rfl) (by kernel_rfl) (by kernel_rfl) (fun _ _ _ h => h) (Or.inl ⟨by rfl, ?_⟩) (by assumption) ?_
        rotate_left
        · (intro w hSw; (try dsimp only at hSw); go_split_ands; (try simp only [List.getElem_toArray, List.getElem_cons_succ, List.getElem_cons_zero]); go_simp; try with_reducible rfl)
        simp only [Act.put, List.setIfInBounds_toArray, List.set_cons_zero, List.set_cons_succ, List.getElem_toArray, List.getElem_cons_succ, List.getElem_cons_zero]
        refine wpAnyH_take (i := 19) (oi := _) (v := ?_) rfl (by kernel_rfl) (by kernel_rfl) (by kernel_rfl) (fun _ _ _ h => h) (Or.inl ⟨by rfl, ?_⟩) (by assumption) ?_
        rotate_left
        · (intro w hSw; (try dsimp only at hSw); go_split_ands; (try simp only [List.getElem_toArray, List.getElem_cons_succ, List.getElem_cons_zero]); go_simp; try with_reducible rfl)
        simp only [Act.put, List.setIfInBounds_toArray, List.set_cons_zero, List.set_cons_succ, List.getElem_toArray, List.getElem_cons_succ, List.getElem_cons_zero]
        refine wpAnyH_ready (rs := [20]) (by kernel_rfl) (by simp) ?_
        refine AllReadyH.cons (o := _) rfl (fun K hK => ?_) (AllReadyH.nil)
        try simp only [List.getElem_toArray, List.getElem_cons_succ, List.getElem_cons_zero]
        go_split_ands
        go_wp2_with fail
        have hB1 := below_a (.cells #[.int .i64 (pcg L (k + 1)).f0, .int .i64 (pcg L (k + 1)).f1, .int .i64 (pcg L (k + 1)).a0, .int .i64 (pcg L (k + 1)).a1, .int .i64 (pcg L (k + 1)).b0, .int .i64 (pcg L (k + 1)).b1, .int .i64 (pcg L (k + 1)).c0, .int .i64 (pcg L (k + 1)).c1] 39) hB0
        have hN := Lib.hid (new8 w0 (pcg L (k + 1)).f0 (pcg L (k + 1)).f1 (pcg L (k + 1)).a0 (pcg L (k + 1)).a1 (pcg L (k + 1)).b0 (pcg L (k + 1)).b1 (pcg L (k + 1)).c0 (pcg L (k + 1)).c1 39)
        obtain ⟨Bn, hBn⟩ : ∃ b, w0.heap.size = b := ⟨_, rfl⟩
        simp only [hBn] at hN ⊢
        generalize w0.alloc (.cells #[.int .i64 (pcg L (k + 1)).f0, .int .i64 (pcg L (k + 1)).f1, .int .i64 (pcg L (k + 1)).a0, .int .i64 (pcg L (k + 1)).a1, .int .i64 (pcg L (k + 1)).b0, .int .i64 (pcg L (k + 1)).b1, .int .i64 (pcg L (k + 1)).c0, .int .i64 (pcg L (k + 1)).c1] 39) = w1 at *
        refine hK.out _ _ (HS1.out _ hB1) (fun hHeld => ?_)
        clear hK K
        try simp only [Act.put, List.setIfInBounds_toArray, List.set_cons_zero, List.set_cons_succ, List.getElem_toArray, List.getElem_cons_succ, List.getElem_cons_zero]
        refine wpAnyH_ready (rs := [21]) (by kernel_rfl) (by simp) ?_
        refine AllReadyH.cons (o := _) rfl (fun K hK => ?_) (AllReadyH.nil)
        try simp only [List.getElem_toArray, List.getElem_cons_succ, List.getElem_cons_zero]
        go_simp
        (go_at_call 55; go_split_ands; (with_reducible refine (rall02_yes Bn 4 _ _ _ _ _ _ _ _ HV.out.f HV.out.a HV.out.b HV.out.c _ hN.out).mono ?_); rintro e w2 ⟨rfl, hb2⟩)
        go_wp2_with fail
        have hB2 := hB1.trans (hb2.mono hB1.size)
        refine hK.out _ _ (HS1.out _ hB2) (fun hHeld => ?_)
        clear hK K
        try simp only [Act.put, List.setIfInBounds_toArray, List.set_cons_zero, List.set_cons_succ, List.getElem_toArray, List.getElem_cons_succ, List.getElem_cons_zero]
        refine wpAnyH_take (i := 22) (oi := _) (v := ?_) rfl (by kernel_rfl) (by kernel_rfl) (by kernel_rfl) (fun _ _ _ h => h) (Or.inl ⟨by rfl, ?_⟩) (by assumption) ?_
        rotate_left
        · (intro w hSw; (try dsimp only at hSw); go_split_ands; (try simp only [List.getElem_toArray, List.getElem_cons_succ, List.getElem_cons_zero]); go_simp; try with_reducible rfl)
        simp only [Act.put, List.setIfInBounds_toArray, List.set_cons_zero, List.set_cons_succ, List.getElem_toArray, List.getElem_cons_succ, List.getElem_cons_zero]
        refine wpAnyH_take (i := 23) (oi := _) (v := ?_) rfl (by kernel_rfl) (by kernel_rfl) (by kernel_rfl) (fun _ _ _ h => h) (Or.inl ⟨by rfl, ?_⟩) (by assumption) ?_
        rotate_left
        · (intro w hSw; (try dsimp only at hSw); go_split_ands; (try simp only [List.getElem_toArray, List.getElem_cons_succ, List.getElem_cons_zero]); go_simp; try with_reducible rfl)
        simp only [Act.put, List.setIfInBounds_toArray, List.set_cons_zero, List.set_cons_succ, List.getElem_toArray, List.getElem_cons_succ, List.getElem_cons_zero]
        refine wpAnyH_take (i := 24) (oi := _) (v := ?_) rfl (by kernel_rfl) (by kernel_rfl) (by kernel_rfl) (fun _ _ _ h => h) (Or.inl ⟨by rfl, ?_⟩) (by assumption) ?_
        rotate_left
        · (intro w hSw; (try dsimp only at hSw); go_split_ands; (try simp only [List.getElem_toArray, List.getElem_cons_succ, List.getElem_cons_zero]); go_simp; try with_reducible rfl)
        simp only [Act.put, List.setIfInBounds_toArray, List.set_cons_zero, List.set_cons_succ, List.getElem_toArray, List.getElem_cons_succ, List.getElem_cons_zero]
        refine wpAnyH_take (i := 25) (oi := _) (v := ?_) rfl (by kernel_rfl) (by kernel_rfl) (by kernel_rfl) (fun _ _ _ h => h) (Or.inl ⟨by rfl, ?_⟩) (by assumption) ?_
        rotate_left
        · (intro w hSw; (try dsimp only at hSw); go_split_ands; (try simp only [List.getElem_toArray, List.getElem_cons_succ, List.getElem_cons_zero]); go_simp; try with_reducible rfl)
        simp only [Act.put, List.setIfInBounds_toArray, List.set_cons_zero, List.set_cons_succ, List.getElem_toArray, List.getElem_cons_succ, List.getElem_cons_zero]
        refine wpAnyH_take (i := 26) (oi := _) (v := ?_) rfl (by kernel_rfl) (by kernel_rfl) (by kernel_rfl) (fun _ _ _ h => h) (Or.inl ⟨by rfl, ?_⟩) (by assumption) ?_
        rotate_left
        · (intro w hSw; (try dsimp only at hSw); go_split_ands; (try simp only [List.getElem_toArray, List.getElem_cons_succ, List.getElem_cons_zero]); go_simp; try with_reducible rfl)
        simp only [Act.put, List.setIfInBounds_toArray, List.set_cons_zero, List.set_cons_succ, List.getElem_toArray, List.getElem_cons_succ, List.getElem_cons_zero]
        refine wpAnyH_take (i := 27) (oi := _) (v := ?_) rfl (by kernel_rfl) (by kernel_rfl) (by kernel_rfl) (fun _ _ _ h => h) (Or.inl ⟨by rfl, ?_⟩) (by assumption) ?_
        rotate_left
        · (intro w hSw; (try dsimp only at hSw); go_split_ands; (try simp only [List.getElem_toArray, List.getElem_cons_succ, List.getElem_cons_zero]); go_simp; try with_reducible rfl)
        simp only [Act.put, List.setIfInBounds_toArray, List.set_cons_zero, List.set_cons_succ, List.getElem_toArray, List.getElem_cons_succ, List.getElem_cons_zero]
        refine wpAnyH_take (i := 28) (oi := _) (v := ?_) rfl (by kernel_rfl) (by kernel_rfl) (by kernel_rfl) (fun _ _ _ h => h) (Or.inl ⟨by rfl, ?_⟩) (by assumption) ?_
        rotate_left
        · (intro w hSw; (try dsimp only at hSw); go_split_ands; (try simp only [List.getElem_toArray, List.getElem_cons_succ, List.getElem_cons_zero]); go_simp; try with_reducible rfl)
        simp only [Act.put, List.setIfInBounds_toArray, List.set_cons_zero, List.set_cons_succ, List.getElem_toArray, List.getElem_cons_succ, List.getElem_cons_zero]
        refine wpAnyH_take (i := 29) (oi := _) (v := ?_) rfl (by kernel_rfl) (by kernel_rfl) (by kernel_rfl) (fun _ _ _ h => h) (Or.inl ⟨by rfl, ?_⟩) (by assumption) ?_
        rotate_left
        · (intro w hSw; (try dsimp only at hSw); go_split_ands; (try simp only [List.getElem_toArray, List.getElem_cons_succ, List.getElem_cons_zero]); go_simp; try with_reducible rfl)
        simp only [Act.put, List.setIfInBounds_toArray, List.set_cons_zero, List.set_cons_succ, List.getElem_toArray, List.getElem_cons_succ, List.getElem_cons_zero]
        refine wpAnyH_take (i := 30) (oi := _) (v := ?_) rfl (by kernel_rfl) (by kernel_rfl) (by kernel_rfl) (fun _ _ _ h => h) (Or.inl ⟨by rfl, ?_⟩) (by assumption) ?_
        rotate_left
        · (intro w hSw; (try dsimp only at hSw); go_split_ands; (try simp only [List.getElem_toArray, List.getElem_cons_succ, List.getElem_cons_zero]); go_simp; try with_reducible rfl)
        simp only [Act.put, List.setIfInBounds_toArray, List.set_cons_zero, List.set_cons_succ, List.getElem_toArray, List.getElem_cons_succ, List.getElem_cons_zero]
        refine wpAnyH_take (i := 31) (oi := _) (v := ?_) rfl (by kernel_rfl) (by kernel_rfl) (by kernel_rfl) (fun _ _ _ h => h) (Or.inl ⟨by rfl, ?_⟩) (by assumption) ?_
        rotate_left
        · (intro w hSw; (try dsimp only at hSw); go_split_ands; (try simp only [List.getElem_toArray, List.getElem_cons_succ, List.getElem_cons_zero]); go_simp; try with_reducible rfl)
        simp only [Act.put, List.setIfInBounds_toArray, List.set_cons_zero, List.set_cons_succ, List.getElem_toArray, List.getElem_cons_succ, List.getElem_cons_zero]
        refine wpAnyH_take (i := 32) (oi := _) (v := ?_) rfl (by kernel_rfl) (by kernel_rfl) (by kernel_rfl) (fun _ _ _ h => h) (Or.inl ⟨by rfl, ?_⟩) (by assumption) ?_
        rotate_left
        · (intro w hSw; (try dsimp only at hSw); go_split_ands; (try simp only [List.getElem_toArray, List.getElem_cons_succ, List.getElem_cons_zero]); go_simp; try with_reducible rfl)
        simp only [Act.put, List.setIfInBounds_toArray, List.set_cons_zero, List.set_cons_succ, List.getElem_toArray, List.getElem_cons_succ, List.getElem_cons_zero]
        refine wpAnyH_take (i := 33) (oi := _) (v := ?_) rfl (by kernel_rfl) (by kernel_rfl) (by kernel_rfl) (fun _ _ _ h => h) (Or.inl ⟨by rfl, ?_⟩) (by assumption) ?_
        rotate_left
        · (intro w hSw; (try dsimp only at hSw); go_split_ands; (try simp only [List.getElem_toArray, List.getElem_cons_succ, List.getElem_cons_zero]); go_simp; try with_reducible rfl)
        simp only [Act.put, List.setIfInBounds_toArray, List.set_cons_zero, List.set_cons_succ, List.getElem_toArray, List.getElem_cons_succ, List.getElem_cons_zero]
        refine wpAnyH_take (i := 34) (oi := _) (v := ?_) rfl (by kernel_rfl) (by kernel_rfl) (by kernel_rfl) (fun _ _ _ h => h) (Or.inl ⟨by rfl, ?_⟩) (by assumption) ?_
        rotate_left
        · (intro w hSw; (try dsimp only at hSw); go_split_ands; (try simp only [List.getElem_toArray, List.getElem_cons_succ, List.getElem_cons_zero]); go_simp; try with_reducible rfl)
        simp only [Act.put, List.setIfInBounds_toArray, List.set_cons_zero, List.set_cons_succ, List.getElem_toArray, List.getElem_cons_succ, List.getElem_cons_zero]
        refine wpAnyH_take (i := 35) (oi := _) (v := ?_) rfl (by kernel_rfl) (by kernel_rfl) (by kernel_rfl) (fun _ _ _ h => h) (Or.inl ⟨by rfl, ?_⟩) (by assumption) ?_
        rotate_left
        · (intro w hSw; (try dsimp only at hSw); go_split_ands; (try simp only [List.getElem_toArray, List.getElem_cons_succ, List.getElem_cons_zero]); go_simp; try with_reducible rfl)
        simp only [Act.put, List.setIfInBounds_toArray, List.set_cons_zero, List.set_cons_succ, List.getElem_toArray, List.getElem_cons_succ, List.getElem_cons_zero]
        refine wpAnyH_take (i := 36) (oi := _) (v := ?_) rfl (by kernel_rfl) (by kernel_rfl) (by kernel_rfl) (fun _ _ _ h => h) (Or.inl ⟨by rfl, ?_⟩) (by assumption) ?_
        rotate_left
        · (intro w hSw; (try dsimp only at hSw); go_split_ands; (try simp only [List.getElem_toArray, List.getElem_cons_succ, List.getElem_cons_zero]); go_simp; try with_reducible rfl)
        simp only [Act.put, List.setIfInBounds_toArray, List.set_cons_zero, List.set_cons_succ, List.getElem_toArray, List.getElem_cons_succ, List.getElem_cons_zero]
        refine wpAnyH_take (i := 37) (oi := _) (v := ?_) rfl (by kernel_rfl) (by kernel_rfl) (by kernel_rfl) (fun _ _ _ h => h) (Or.inl ⟨by rfl, ?_⟩) (by assumption) ?_
        rotate_left
        · (intro w hSw; (try dsimp only at hSw); go_split_ands; (try simp only [List.getElem_toArray, List.getElem_cons_succ, List.getElem_cons_zero]); go_simp; try with_reducible rfl)
        simp only [Act.put, List.setIfInBounds_toArray, List.set_cons_zero, List.set_cons_succ, List.getElem_toArray, List.getElem_cons_succ, List.getElem_cons_zero]
        refine wpAnyH_ready (rs := [38]) (by kernel_rfl) (by simp) ?_
        refine AllReadyH.cons (o := _) rfl (fun K hK => ?_) (AllReadyH.nil)
        try simp only [List.getElem_toArray, List.getElem_cons_succ, List.getElem_cons_zero]
        go_simp
        (go_at_call 21; go_split_ands; (with_reducible refine (HCM.out _).mono ?_); rintro e w3 ⟨rfl, hb3⟩)
        go_wp2_with fail
        have hB3 := hB2.trans (hb3.mono hB2.size)
        refine hK.out _ _ (HS1.out _ hB3) (fun hHeld => ?_)
        clear hK K
        try simp only [Act.put, List.setIfInBounds_toArray, List.set_cons_zero, List.set_cons_succ, List.getElem_toArray, List.getElem_cons_succ, List.getElem_cons_zero]
        refine wpAnyH_take (i := 39) (oi := _) (v := ?_) rfl (by kernel_rfl) (by kernel_rfl) (by kernel_rfl) (fun _ _ _ h => h) (Or.inl ⟨by rfl, ?_⟩) (by assumption) ?_
        rotate_left
        · (intro w hSw; (try dsimp only at hSw); go_split_ands; (try simp only [List.getElem_toArray, List.getElem_cons_succ, List.getElem_cons_zero]); go_simp; try with_reducible rfl)
        simp only [Act.put, List.setIfInBounds_toArray, List.set_cons_zero, List.set_cons_succ, List.getElem_toArray, List.getElem_cons_succ, List.getElem_cons_zero]
        refine wpAnyH_take (i := 40) (oi := _) (v := ?_) rfl (by kernel_rfl) (by kernel_rfl) (by kernel_rfl) (fun _ _ _ h => h) (Or.inl ⟨by rfl, ?_⟩) (by assumption) ?_
        rotate_left
        · (intro w hSw; (try dsimp only at hSw); go_split_ands; (try simp only [List.getElem_toArray, List.getElem_cons_succ, List.getElem_cons_zero]); go_simp; try with_reducible rfl)
        simp only [Act.put, List.setIfInBounds_toArray, List.set_cons_zero, List.set_cons_succ, List.getElem_toArray, List.getElem_cons_succ, List.getElem_cons_zero]
        refine wpAnyH_take (i := 41) (oi := _) (v := ?_) rfl (by kernel_rfl) (by kernel_rfl) (by kernel_rfl) (fun _ _ _ h => h) (Or.inl ⟨by rfl, ?_⟩) (by assumption) ?_
        rotate_left
        · (intro w hSw; (try dsimp only at hSw); go_split_ands; (try simp only [List.getElem_toArray, List.getElem_cons_succ, List.getElem_cons_zero]); go_simp; try with_reducible rfl)
        simp only [Act.put, List.setIfInBounds_toArray, List.set_cons_zero, List.set_cons_succ, List.getElem_toArray, List.getElem_cons_succ, List.getElem_cons_zero]
        refine wpAnyH_done (by kernel_rfl) ?_ _
        have hB := hB3
        go_wp2_with fail
        go_roundw
        case rel => exact ⟨k + 2, by omega, by go_num, HB.out.trans (hB.mono HB.out.size)⟩
        case measure => simp [intOf]; omega
    · obtain rfl : k = L.length := by omega
      go_wp2_with fail
      go_ret
      exact ⟨rfl, hB⟩
end Go.Proofs.Ytlgpolfbilkmbaa
