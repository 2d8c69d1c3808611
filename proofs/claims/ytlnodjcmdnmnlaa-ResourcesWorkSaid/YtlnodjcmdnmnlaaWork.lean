/-
  THE WALK of the law's own helper work.
-/
import Derived.Test.YtlnodjcmdnmnlaaTold
import Derived.IntWalk
import Derived.RegionTactic
namespace Go.Proofs.Ytlnodjcmdnmnlaa
open Go.RowKit Go.Shelf

theorem area_b {L : List (Int × Int)} (h : ∀ k, k < L.length → 0 ≤ (og L k).1 ∧ (og L k).1 ≤ 1010000 ∧ 0 ≤ (og L k).2 ∧ (og L k).2 ≤ 6000) : ∀ k, k ≤ L.length → -6060000000 * (k : Int) ≤ areaTo L k ∧ areaTo L k ≤ 6060000000 * (k : Int) := by
  intro k
  induction k with
  | zero => intro _; exact ⟨Int.le_refl _, Int.le_refl _⟩
  | succ k ih =>
    intro hk
    have := ih (by omega)
    simp only [areaTo]
    split
    · omega
    · have a := h k (by omega)
      have b := h (k - 1) (by omega)
      have d1 : -1010000 ≤ (og L k).1 - (og L (k - 1)).1 := by omega
      have d2 : (og L k).1 - (og L (k - 1)).1 ≤ 1010000 := by omega
      have m1 : (og L (k - 1)).2 * ((og L k).1 - (og L (k - 1)).1) ≤ (og L (k - 1)).2 * 1010000 := Int.mul_le_mul_of_nonneg_left d2 b.2.2.1
      have m2 : (og L (k - 1)).2 * (-1010000) ≤ (og L (k - 1)).2 * ((og L k).1 - (og L (k - 1)).1) := Int.mul_le_mul_of_nonneg_left d1 b.2.2.1
      omega
set_option maxRecDepth 100000 in
set_option maxHeartbeats 8000000 in
theorem work_any (a : Option Addr) (L : List (Int × Int)) (cap : Nat) (w : World) (hp : 0 < L.length) (hl : L.length ≤ 1100) (hb : ∀ k, k < L.length → 0 ≤ (og L k).1 ∧ (og L k).1 ≤ 1010000 ∧ 0 ≤ (og L k).2 ∧ (og L k).2 ≤ 6000) (hL : Loads w.heap.size w a L) :
    Calls Try.prog 17 #[.slice a L.length cap] w fun e w' => e = .returned (.int .i64 (areaTo L L.length)) ∧ Below w.heap.size w w' := by
  have HL := Lib.hid hL; clear hL
  have HB := Lib.hid hb
  have HA := Lib.hid (area_b hb)
  have HE : Hid (areaTo L 1 = 0) := Lib.hid rfl
  clear hb
  go_enter Try.func17, Try.ntmps17
  go_wp2_with fail
  go_loopw [3, 4] (fun v i wr => ∃ k : Nat, 1 ≤ k ∧ k ≤ L.length ∧ i = .int .i64 k ∧ v = .int .i64 (areaTo L k) ∧ Below w.heap.size w wr) (fun _ i _ => L.length - (intOf i).toNat)
  case atStart => exact ⟨1, Nat.le_refl _, by omega, rfl, rfl, Below.refl _ _⟩
  case round =>
    obtain ⟨k, hk1, hk, rfl, rfl, hB⟩ := hrel
    have hbs := hB.size
    by_cases hlt : k < L.length
    · obtain ⟨b, off, rfl, hb, hc⟩ := HL.out (by omega)
      obtain ⟨j, rfl⟩ : ∃ j, k = j + 1 := ⟨k - 1, by omega⟩
      have c0 := (hB.cell (p := ⟨b, off + (j + 1) * 2, none⟩) hb).trans (hc (j + 1) hlt).1
      have c1 := (hB.cell (p := ⟨b, off + j * 2, none⟩) hb).trans (hc j (by omega)).1
      have c2 := (hB.cell (p := ⟨b, off + j * 2 + 1, none⟩) hb).trans (hc j (by omega)).2
      clear hc
      obtain ⟨t1, t2, _, _⟩ := HB.out (j + 1) hlt
      obtain ⟨s1, s2, s3, s4⟩ := HB.out j (by omega)
      obtain ⟨r1, r2⟩ := HA.out (j + 1) (by omega)
      obtain ⟨r3, r4⟩ := HA.out (j + 2) (by omega)
      have eA : areaTo L (j + 2) = areaTo L (j + 1) + (og L j).2 * ((og L (j + 1)).1 - (og L j).1) := by
        show areaTo L (j + 1) + (if j + 1 = 0 then 0 else (og L (j + 1 - 1)).2 * ((og L (j + 1)).1 - (og L (j + 1 - 1)).1)) = _
        rw [if_neg (by omega), Nat.add_sub_cancel]
      have HS := Lib.hid eA
      have i1 : IntKind.i64.wrap (((j + 1 : Nat) : Int) - 1) = (j : Int) := (IntWalk.i64_in _ (by omega)).trans (by omega)
      have i2 : IntKind.i64.wrap ((og L (j + 1)).1 - (og L j).1) = (og L (j + 1)).1 - (og L j).1 := IntWalk.i64_in _ (by omega)
      have i3 : IntKind.i64.wrap ((og L j).2 * ((og L (j + 1)).1 - (og L j).1)) = (og L j).2 * ((og L (j + 1)).1 - (og L j).1) := IntWalk.i64_in _ (by omega)
      have i4 : IntKind.i64.wrap (areaTo L (j + 1) + (og L j).2 * ((og L (j + 1)).1 - (og L j).1)) = areaTo L (j + 2) := (IntWalk.i64_in _ (by omega)).trans eA.symm
      clear eA r1 r2 r3 r4 s1 s2 s3 s4 t1 t2
      go_wp2_with fail
      all_goals go_quiet (fail)
      all_goals (go_wp2_with fail; go_roundw)
      all_goals first
        | exact ⟨j + 2, by omega, by omega, by go_num, rfl, below_drewN hB _⟩
        | exact ⟨j + 2, by omega, by omega, by go_num, rfl, hB⟩
        | (simp [intOf]; omega)
    · obtain rfl : k = L.length := by omega
      go_wp2_with fail
      go_ret
      exact ⟨rfl, hB⟩
end Go.Proofs.Ytlnodjcmdnmnlaa
