/-
  THE WALK of the law's own helper short, at steps that are short.
-/
import Derived.Test.YtlnodjcmdnmnlaaTold
import Derived.IntWalk
import Derived.RegionTactic
namespace Go.Proofs.Ytlnodjcmdnmnlaa
open Go.RowKit Go.Shelf

set_option maxRecDepth 100000 in
set_option maxHeartbeats 8000000 in
theorem short_any (a : Option Addr) (L : List (Int × Int)) (cap : Nat) (m : Int) (w : World) (hl : L.length ≤ 1100) (hm : (L.length : Int) ≤ m) (hv : validB L = true) (hz : (og L (L.length - 1)).2 = 0) (hd : ∀ k, 0 < k → k < L.length → (og L k).2 ≠ (og L (k - 1)).2) (hL : Loads w.heap.size w a L) :
    Calls Try.prog 16 #[.slice a L.length cap, .int .i64 m] w fun e w' => e = .returned (.bool true) ∧ Below w.heap.size w w' := by
  have HL := Lib.hid hL; clear hL
  have hp : 1 ≤ L.length := (valid_step hv).1
  have HV := Lib.hid hv
  have HD := Lib.hid hd
  have b1 : decide (m < (L.length : Int)) = false := decide_eq_false (by omega)
  obtain ⟨j, hj⟩ : ∃ j, L.length = j + 1 := ⟨L.length - 1, by omega⟩
  obtain ⟨b, off, rfl, hb, hc⟩ := HL.out (by omega)
  have K0 : ∀ wr, Below w.heap.size w wr → wr.cell? ⟨b, off + j * 2 + 1, none⟩ = some (.int .i64 0) := fun wr h => by
    have := (h.cell (p := ⟨b, off + j * 2 + 1, none⟩) hb).trans (hc j (by omega)).2
    rw [this]
    rw [hj, Nat.add_sub_cancel] at hz
    rw [hz]
  have i1 : IntKind.i64.wrap ((L.length : Int) - 1) = (j : Int) := (IntWalk.i64_in _ (by omega)).trans (by omega)
  have hjl : j < L.length := by omega
  clear hv hd hz hj
  have HC := Lib.hid hc; clear hc
  go_enter Try.func16, Try.ntmps16
  go_wp2_with (go_at_call 22; (with_reducible refine (refvalid_any _ L _ _ (by omega) HL.out).mono ?_); rintro e w4 ⟨rfl, hb4⟩; rw [HV.out])
  clear K0 i1 hjl
  go_loopw [5] (fun i wr => ∃ k : Nat, 1 ≤ k ∧ k ≤ L.length ∧ i = .int .i64 k ∧ Below w.heap.size w wr) (fun i _ => L.length - (intOf i).toNat)
  case atStart => exact ⟨1, Nat.le_refl _, by omega, rfl, hb4⟩
  case round =>
    obtain ⟨k, hk1, hk, rfl, hB⟩ := hrel
    have hbs := hB.size
    by_cases hlt : k < L.length
    · obtain ⟨i, rfl⟩ : ∃ i, k = i + 1 := ⟨k - 1, by omega⟩
      have c0 := (hB.cell (p := ⟨b, off + (i + 1) * 2 + 1, none⟩) hb).trans (HC.out (i + 1) hlt).2
      have c1 := (hB.cell (p := ⟨b, off + i * 2 + 1, none⟩) hb).trans (HC.out i (by omega)).2
      have hne := HD.out (i + 1) (by omega) hlt
      rw [Nat.add_sub_cancel] at hne
      have z1 : ((og L (i + 1)).2 == (og L i).2) = false := beq_eq_false_iff_ne.2 hne
      have i1 : IntKind.i64.wrap (((i + 1 : Nat) : Int) - 1) = (i : Int) := (IntWalk.i64_in _ (by omega)).trans (by omega)
      clear hne
      go_wp2_with fail
      all_goals go_quiet (fail)
      all_goals (go_wp2_with fail; go_roundw)
      all_goals first
        | exact ⟨i + 2, by omega, by omega, by go_num, below_drewN hB _⟩
        | exact ⟨i + 2, by omega, by omega, by go_num, hB⟩
        | (simp [intOf]; omega)
    · obtain rfl : k = L.length := by omega
      go_wp2_with fail
      go_ret
      exact ⟨rfl, hB⟩
end Go.Proofs.Ytlnodjcmdnmnlaa
