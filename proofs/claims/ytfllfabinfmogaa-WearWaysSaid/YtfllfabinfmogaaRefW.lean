/-
  THE WALK of the reference's Worst (layer 46).
-/
import Derived.Test.YtfllfabinfmogaaRefA
import Derived.BigQuiet
namespace Go.Proofs.Ytfllfabinfmogaa
open Go.RowKit Go.Shelf
set_option maxHeartbeats 4000000 in
theorem refworst_any (a : Option Addr) (L : List (Int × Int)) (cap : Nat) (n₀ : Nat) (w : World) (hl : L.length ≤ 1000000) (h : Loads n₀ w a L) :
    Calls Try.prog 23 #[.slice a L.length cap] w fun e w' => e = .returned (.int .i64 (worstTo L L.length : Nat)) ∧ Below w.heap.size w w' := by
  have HU := Lib.hid h
  clear h
  go_enter Try.func23, Try.ntmps23
  go_wp2_with fail
  go_loopw [3, 4] (fun s i wr => ∃ k : Nat, k ≤ L.length ∧ i = .int .i64 k ∧ s = .int .i64 (worstTo L k : Nat) ∧ Below w.heap.size w wr) (fun _ i _ => L.length - (intOf i).toNat)
  case atStart => exact ⟨0, Nat.zero_le _, rfl, rfl, Below.refl _ _⟩
  case round =>
    obtain ⟨k, hk, rfl, rfl, hB⟩ := hrel
    by_cases hlt : k < L.length
    · obtain ⟨b, off, rfl, hb, hc⟩ := HU.out (by omega)
      have hp : worstTo L k < L.length := worst_in L k (by omega) hk
      have HS : Hid (worstTo L (k + 1) = if (og L (worstTo L k)).2 < (og L k).2 then k else worstTo L k) := Lib.hid rfl
      generalize worstTo L k = p at *
      have hbw : b < w.heap.size := World.block_lt_of_cell? _ _ (hc k hlt).2
      have c1 := (hB.cell (p := ⟨b, off + k * 2 + 1, none⟩) hbw).trans (hc k hlt).2
      have c2 := (hB.cell (p := ⟨b, off + p * 2 + 1, none⟩) hbw).trans (hc p hp).2
      clear hc
      by_cases q : (og L p).2 < (og L k).2
      · have HS2 : Hid (worstTo L (k + 1) = k) := Lib.hid (by rw [HS.out, if_pos q])
        go_wp2_with fail
        go_quiet (fail)
        go_wp2_with fail
        go_roundw
        case rel => exact ⟨k + 1, by omega, by go_num, by rw [HS2.out], below_drewN hB _⟩
        case measure => simp [intOf]; omega
      · have HS2 : Hid (worstTo L (k + 1) = p) := Lib.hid (by rw [HS.out, if_neg q])
        go_wp2_with fail
        go_quiet (fail)
        go_wp2_with fail
        go_roundw
        case rel => exact ⟨k + 1, by omega, by go_num, by rw [HS2.out], below_drewN hB _⟩
        case measure => simp [intOf]; omega
    · obtain rfl : k = L.length := by omega
      go_wp2_with fail
      go_ret
      exact ⟨rfl, hB⟩
end Go.Proofs.Ytfllfabinfmogaa
