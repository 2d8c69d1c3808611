/-
  THE WALK of the reference's Turns (layer 46).
-/
import Derived.Test.YtfllfabinfmogaaRefA
import Derived.BigQuiet
namespace Go.Proofs.Ytfllfabinfmogaa
open Go.RowKit Go.Shelf
set_option maxHeartbeats 8000000 in
theorem refturns_any (a : Option Addr) (L : List Int) (cap : Nat) (n₀ : Nat) (w : World) (hp : placesE L = 0) (h : Nums n₀ w a L) :
    Calls Try.prog 18 #[.slice a L.length cap] w fun e w' => e = .returned (.int .i64 (turnsP L)) ∧ Below w.heap.size w w' := by
  obtain ⟨hl, _⟩ := places_ok hp
  have HU := Lib.hid h
  have HE : Hid (turnsP L = (turnsTo L (L.length - 1)).2) := Lib.hid rfl
  clear h hp
  go_enter Try.func18, Try.ntmps18
  go_wp2_with fail
  go_loopw [3, 4, 5] (fun s v i wr => ∃ k : Nat, (k < L.length ∨ k = 0) ∧ i = .int .i64 ((k : Int) + 1) ∧ s = .int .i64 (turnsTo L k).2 ∧ v = .int .i64 (turnsTo L k).1 ∧ Below w.heap.size w wr) (fun _ _ i _ => L.length + 1 - (intOf i).toNat)
  case atStart => exact ⟨0, Or.inr rfl, rfl, rfl, rfl, Below.refl _ _⟩
  case round =>
    obtain ⟨k, hk, rfl, rfl, rfl, hB⟩ := hrel
    by_cases hlt : k + 1 < L.length
    · obtain ⟨b, off, rfl, hb, hc⟩ := HU.out (by omega)
      have hbw : b < w.heap.size := World.block_lt_of_cell? _ _ (hc k (by omega))
      have c0 := (hB.cell (p := ⟨b, off + k, none⟩) hbw).trans (hc k (by omega))
      have c1 := (hB.cell (p := ⟨b, off + (k + 1), none⟩) hbw).trans (hc (k + 1) hlt)
      clear hc
      have HS : Hid (turnsTo L (k + 1) = turnStep (turnsTo L k) (ig L k) (ig L (k + 1))) := Lib.hid rfl
      obtain ⟨tb1, tb2, tb3⟩ := turns_bd L k
      have s1 : IntKind.i64.wrap ((k : Int) + 1 - 1) = (k : Int) := by rw [IntWalk.i64_in _ (by omega)]; omega
      generalize turnsTo L k = T at *
      obtain ⟨v, c⟩ := T
      simp only at tb1 tb2 tb3
      generalize ig L k = x at *
      generalize ig L (k + 1) = y at *
      have hk2 : k ≤ 1000 := by omega
      have s2 : IntKind.i64.wrap (c + 1) = c + 1 := IntWalk.i64_in _ (by omega)
      by_cases q : x < y
      · have r1 : Hid (turnsTo L (k + 1) = (1, if v ≠ 0 ∧ v ≠ 1 then c + 1 else c)) := Lib.hid (by rw [HS.out]; unfold turnStep; rw [if_pos q])
        have q2 : ¬ y < x := by omega
        clear tb1 tb2 hk2 HS
        rcases tb3 with rfl | rfl | rfl
        all_goals
          go_wp2_with fail
          go_quiet (fail)
          go_wp2_with fail
          go_quiet (fail)
          go_wp2_with fail
          go_roundw
          case rel => exact ⟨k + 1, Or.inl hlt, by go_num, by rw [r1.out]; rfl, by rw [r1.out], below_drewN hB _⟩
          case measure => simp [intOf]; omega
      · by_cases q2 : y < x
        · have r1 : Hid (turnsTo L (k + 1) = (-1, if v ≠ 0 ∧ v ≠ -1 then c + 1 else c)) := Lib.hid (by rw [HS.out]; unfold turnStep; rw [if_neg q, if_pos q2])
          clear tb1 tb2 hk2 HS
          rcases tb3 with rfl | rfl | rfl
          all_goals
            go_wp2_with fail
            go_quiet (fail)
            go_wp2_with fail
            go_quiet (fail)
            go_wp2_with fail
            go_roundw
            case rel => exact ⟨k + 1, Or.inl hlt, by go_num, by rw [r1.out]; rfl, by rw [r1.out], below_drewN hB _⟩
            case measure => simp [intOf]; omega
        · have r1 : Hid (turnsTo L (k + 1) = (v, c)) := Lib.hid (by rw [HS.out]; unfold turnStep; rw [if_neg q, if_neg q2])
          clear tb1 tb2 hk2 HS
          rcases tb3 with rfl | rfl | rfl
          all_goals
            go_wp2_with fail
            go_quiet (fail)
            go_wp2_with fail
            go_quiet (fail)
            go_wp2_with fail
            go_roundw
            case rel => exact ⟨k + 1, Or.inl hlt, by go_num, by rw [r1.out], by rw [r1.out], below_drewN hB _⟩
            case measure => simp [intOf]; omega
    · have HS2 : Hid ((turnsTo L k).2 = turnsP L) := Lib.hid (by rw [HE.out]; congr 2; omega)
      go_wp2_with fail
      go_ret
      exact ⟨ret_int HS2.out, hB⟩
end Go.Proofs.Ytfllfabinfmogaa
