/-
  THE WALK of the reference's Travel (layer 46).
-/
import Derived.Test.YtfllfabinfmogaaRefA
import Derived.BigQuiet
namespace Go.Proofs.Ytfllfabinfmogaa
open Go.RowKit Go.Shelf
set_option maxHeartbeats 4000000 in
theorem reftravel_any (a : Option Addr) (L : List Int) (cap : Nat) (n₀ : Nat) (w : World) (hp : placesE L = 0) (h : Nums n₀ w a L) :
    Calls Try.prog 17 #[.slice a L.length cap] w fun e w' => e = .returned (.int .i64 (travelP L)) ∧ Below w.heap.size w w' := by
  obtain ⟨hl, hbd⟩ := places_ok hp
  have HU := Lib.hid h
  have HB := Lib.hid hbd
  have HE : Hid (travelP L = travelTo L (L.length - 1)) := Lib.hid rfl
  clear h hp
  go_enter Try.func17, Try.ntmps17
  go_wp2_with fail
  go_loopw [3, 4] (fun s i wr => ∃ k : Nat, (k < L.length ∨ k = 0) ∧ i = .int .i64 ((k : Int) + 1) ∧ s = .int .i64 (travelTo L k) ∧ Below w.heap.size w wr) (fun _ i _ => L.length + 1 - (intOf i).toNat)
  case atStart => exact ⟨0, Or.inr rfl, rfl, rfl, Below.refl _ _⟩
  case round =>
    obtain ⟨k, hk, rfl, rfl, hB⟩ := hrel
    by_cases hlt : k + 1 < L.length
    · obtain ⟨b, off, rfl, hb, hc⟩ := HU.out (by omega)
      have hbw : b < w.heap.size := World.block_lt_of_cell? _ _ (hc k (by omega))
      have c0 := (hB.cell (p := ⟨b, off + k, none⟩) hbw).trans (hc k (by omega))
      have c1 := (hB.cell (p := ⟨b, off + (k + 1), none⟩) hbw).trans (hc (k + 1) hlt)
      clear hc
      have HS : Hid (travelTo L (k + 1) = travelTo L k + max (ig L (k + 1) - ig L k) (ig L k - ig L (k + 1))) := Lib.hid rfl
      obtain ⟨tb1, tb2⟩ := travel_bd hbd k hk
      obtain ⟨u1, u2⟩ := hbd k (by omega)
      obtain ⟨u3, u4⟩ := hbd (k + 1) hlt
      have hk2 : k ≤ 1000 := by omega
      have s1 : IntKind.i64.wrap ((k : Int) + 1 - 1) = (k : Int) := by rw [IntWalk.i64_in _ (by omega)]; omega
      generalize travelTo L k = T at *
      generalize ig L k = x at *
      generalize ig L (k + 1) = y at *
      clear hbd
      by_cases q : x < y
      · have HS2 : Hid (travelTo L (k + 1) = T + y - x) := Lib.hid (by rw [HS.out]; omega)
        have s2 : IntKind.i64.wrap (T + y) = T + y := IntWalk.i64_in _ (by omega)
        have s3 : IntKind.i64.wrap (T + y - x) = T + y - x := IntWalk.i64_in _ (by omega)
        clear tb1 tb2 hk2
        go_wp2_with fail
        go_quiet (fail)
        go_wp2_with fail
        go_quiet (fail)
        go_wp2_with fail
        go_roundw
        case rel => exact ⟨k + 1, Or.inl hlt, by go_num, by rw [HS2.out], below_drewN hB _⟩
        case measure => simp [intOf]; omega
      · have HS2 : Hid (travelTo L (k + 1) = T + x - y) := Lib.hid (by rw [HS.out]; omega)
        have s2 : IntKind.i64.wrap (T + x) = T + x := IntWalk.i64_in _ (by omega)
        have s3 : IntKind.i64.wrap (T + x - y) = T + x - y := IntWalk.i64_in _ (by omega)
        clear tb1 tb2 hk2
        go_wp2_with fail
        go_quiet (fail)
        go_wp2_with fail
        go_quiet (fail)
        go_wp2_with fail
        go_roundw
        case rel => exact ⟨k + 1, Or.inl hlt, by go_num, by rw [HS2.out], below_drewN hB _⟩
        case measure => simp [intOf]; omega
    · have HS2 : Hid (travelTo L k = travelP L) := Lib.hid (by rw [HE.out]; congr 1; omega)
      clear hbd
      go_wp2_with fail
      go_ret
      exact ⟨ret_int HS2.out, hB⟩
end Go.Proofs.Ytfllfabinfmogaa
