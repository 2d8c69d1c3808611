/-
  THE WALK of slices.Compare at numbers.
-/
import Derived.Test.YtfiefmhnonddhaaDoorPartP
namespace Go.Proofs.YtfiefmhnonddhaaDoor
open Go.RowKit Go.Shelf

theorem earl_cons (x : Int) (a b : List Int) : earlB (x :: a) (x :: b) = earlB a b := by rw [earlB, if_pos rfl]
theorem earl_ne {x y : Int} (h : x ≠ y) (a b : List Int) : earlB (x :: a) (y :: b) = decide (x < y) := by rw [earlB, if_neg h]
theorem earl_nil_right (a : List Int) : earlB a [] = false := by cases a <;> rfl
theorem earl_nil_left (b : List Int) : earlB [] b = decide (0 < b.length) := by cases b <;> rfl

set_option maxHeartbeats 4000000 in
theorem compare_any (a b : Option Addr) (A B : List Int) (ca cb n₀ : Nat) (w : World) (hA : Nums n₀ w a A) (hB : Nums n₀ w b B) (h1 : A.length ≤ 1000000) (h2 : B.length ≤ 1000000) :
    Calls Tryd.prog 46 #[.slice a A.length ca, .slice b B.length cb] w fun e w' => Hid (∃ c : Int, e = .returned (.int .i64 c) ∧ decide (c < 0) = earlB A B) ∧ w = w' := by
  have HA := Lib.hid hA
  have HB := Lib.hid hB
  clear hA hB
  go_enter Tryd.func46, Tryd.ntmps46
  go_wp2
  go_loop [11] (fun iv => ∃ i : Nat, iv = .int .i64 i ∧ i ≤ A.length ∧ i ≤ B.length ∧ Hid (earlB A B = earlB (A.drop i) (B.drop i))) (fun iv => A.length - (intOf iv).toNat)
  case atStart => exact ⟨0, rfl, by omega, by omega, Lib.hid rfl⟩
  case round =>
    obtain ⟨i, rfl, hi, hj, HE⟩ := hrel
    by_cases hlt : i < A.length
    · obtain ⟨ab, ao, rfl, _, hac⟩ := HA.out (by omega)
      have c0 := hac i hlt
      clear hac
      have HAD : Hid (A.drop i = ig A i :: A.drop (i + 1)) := Lib.hid (ig_drop hlt)
      by_cases hbt : i < B.length
      · obtain ⟨bb, bo, rfl, _, hbc⟩ := HB.out (by omega)
        have d0 := hbc i hbt
        clear hbc
        have HBD : Hid (B.drop i = ig B i :: B.drop (i + 1)) := Lib.hid (ig_drop hbt)
        obtain ⟨x, hx⟩ : ∃ x, ig A i = x := ⟨_, rfl⟩
        obtain ⟨y, hy⟩ : ∃ y, ig B i = y := ⟨_, rfl⟩
        rw [hx] at c0 HAD
        rw [hy] at d0 HBD
        have HE2 : Hid (earlB A B = earlB (x :: A.drop (i + 1)) (y :: B.drop (i + 1))) := Lib.hid (by rw [HE.out, HAD.out, HBD.out])
        have HC := Lib.hid (Tryd.cmp_Compare_int x y w)
        clear hx hy HE HAD HBD
        by_cases hxy : x = y
        · subst hxy
          have e0 : Lib.compareInt x x = 0 := by unfold Lib.compareInt; simp
          rw [e0] at HC
          have HN : Hid (earlB A B = earlB (A.drop (i + 1)) (B.drop (i + 1))) := Lib.hid (by rw [HE2.out, earl_cons])
          go_wp2_with (go_at_call 61; (with_reducible refine HC.out.mono ?_); rintro e w1 ⟨rfl, rfl⟩)
          go_round
          case rel => exact ⟨i + 1, by go_num, by omega, by omega, HN⟩
          case measure => simp [intOf]; omega
        · obtain ⟨c, hc⟩ : ∃ c, Lib.compareInt x y = c := ⟨_, rfl⟩
          have hcn : c ≠ 0 ∧ decide (c < 0) = decide (x < y) := by
            rw [← hc]; unfold Lib.compareInt
            by_cases l : x < y
            · simp [l]
            · have : y < x := by omega
              simp [l, this]
          rw [hc] at HC
          have g0 : (c != 0) = true := bne_iff_ne.2 hcn.1
          have HN : Hid (decide (c < 0) = earlB A B) := Lib.hid (by rw [HE2.out, earl_ne hxy, hcn.2])
          clear hxy hc hcn
          go_wp2_with (go_at_call 61; (with_reducible refine HC.out.mono ?_); rintro e w1 ⟨rfl, rfl⟩)
          go_ret
          exact ⟨Lib.hid ⟨c, rfl, HN.out⟩, rfl⟩
      · have HN : Hid (decide ((1 : Int) < 0) = earlB A B) := Lib.hid (by rw [HE.out, List.drop_eq_nil_of_le (show B.length ≤ i by omega), earl_nil_right]; rfl)
        go_wp2_with fail
        go_ret
        exact ⟨Lib.hid ⟨1, rfl, HN.out⟩, rfl⟩
    · obtain rfl : i = A.length := by omega
      have HN : Hid (earlB A B = decide (0 < B.length - A.length)) := Lib.hid (by rw [HE.out, List.drop_length, earl_nil_left, List.length_drop])
      by_cases hbt : A.length < B.length
      · have HR : Hid (decide ((-1 : Int) < 0) = earlB A B) := Lib.hid (by rw [HN.out, decide_eq_true (show 0 < B.length - A.length by omega)]; rfl)
        go_wp2_with fail
        go_ret
        exact ⟨Lib.hid ⟨-1, rfl, HR.out⟩, rfl⟩
      · have HR : Hid (decide ((0 : Int) < 0) = earlB A B) := Lib.hid (by rw [HN.out, decide_eq_false (show ¬ 0 < B.length - A.length by omega)]; rfl)
        go_wp2_with fail
        go_ret
        exact ⟨Lib.hid ⟨0, rfl, HR.out⟩, rfl⟩
end Go.Proofs.YtfiefmhnonddhaaDoor
