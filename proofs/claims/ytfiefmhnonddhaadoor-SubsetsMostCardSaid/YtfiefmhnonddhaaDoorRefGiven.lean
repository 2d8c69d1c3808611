/-
  THE WALK of the reference's Given.
-/
import Derived.Test.YtfiefmhnonddhaaDoorGiven
namespace Go.Proofs.YtfiefmhnonddhaaDoor
open Go.RowKit Go.Shelf
theorem givenE_none {L : List Int} (h : L.length ≤ 16) (hn : ∀ k, k < L.length → bigB (ig L k) = false) : givenE L = 0 := by
  unfold givenE
  rw [if_neg (by omega), if_neg]
  intro q
  obtain ⟨v, hv, hb⟩ := List.any_eq_true.1 q
  obtain ⟨k, hk, rfl⟩ := List.mem_iff_getElem.1 hv
  have := hn k hk
  rw [show ig L k = L[k] by unfold ig; rw [List.getElem?_eq_getElem hk]; rfl] at this
  rw [this] at hb
  cases hb
theorem givenE_hit {L : List Int} {k : Nat} (h : L.length ≤ 16) (hk : k < L.length) (hb : bigB (ig L k) = true) : givenE L = 1 := by
  unfold givenE
  rw [if_neg (by omega), if_pos]
  refine List.any_eq_true.2 ⟨L[k], List.getElem_mem hk, ?_⟩
  rwa [show ig L k = L[k] by unfold ig; rw [List.getElem?_eq_getElem hk]; rfl] at hb
set_option maxHeartbeats 4000000 in
theorem refgiven_any (a : Option Addr) (L : List Int) (cap : Nat) (n₀ : Nat) (w : World) (hl : L.length ≤ 1000000) (h : Nums n₀ w a L) :
    Calls Tryd.prog 13 #[.slice a L.length cap] w fun e w' => e = .returned (.int .i64 (givenE L)) ∧ w = w' := by
  have HU := Lib.hid h
  clear h
  obtain ⟨R, hR⟩ : ∃ R, givenE L = R := ⟨_, rfl⟩
  have HR := Lib.hid hR
  rw [hR]
  by_cases q : 16 < L.length
  · obtain rfl : R = 6 := by rw [← hR]; unfold givenE; rw [if_pos q]
    have g : decide ((16 : Int) < L.length) = true := decide_eq_true (by omega)
    clear hR HR q
    go_enter Tryd.func13, Tryd.ntmps13
    go_wp2
    go_ret
    exact ⟨rfl, rfl⟩
  · have g : decide ((16 : Int) < L.length) = false := decide_eq_false (by omega)
    have hq : L.length ≤ 16 := by omega
    clear hR q
    go_enter Tryd.func13, Tryd.ntmps13
    go_wp2
    go_loop [3] (fun i => ∃ k : Nat, k ≤ L.length ∧ i = .int .i64 k ∧ Hid (∀ j, j < k → bigB (ig L j) = false)) (fun i => L.length - (intOf i).toNat)
    case atStart => exact ⟨0, Nat.zero_le _, rfl, Lib.hid fun j hj => absurd hj (Nat.not_lt_zero _)⟩
    case round =>
      obtain ⟨k, hk, rfl, HN⟩ := hrel
      by_cases hlt : k < L.length
      · obtain ⟨b, off, rfl, hb, hc⟩ := HU.out (by omega)
        have c0 := hc k hlt
        clear hc
        by_cases p1 : ig L k < -1125899906842624
        · obtain rfl : R = 1 := by rw [← HR.out]; exact givenE_hit hq hlt (by unfold bigB; simp [p1])
          go_wp2
          go_ret
          exact ⟨rfl, rfl⟩
        · by_cases p2 : 1125899906842624 < ig L k
          · obtain rfl : R = 1 := by rw [← HR.out]; exact givenE_hit hq hlt (by unfold bigB; simp [p2])
            go_wp2
            go_ret
            exact ⟨rfl, rfl⟩
          · have HN2 : Hid (∀ j, j < k + 1 → bigB (ig L j) = false) := Lib.hid fun j hj => by
              rcases (show j < k ∨ j = k by omega) with l | l
              · exact HN.out j l
              · subst l; unfold bigB; rw [decide_eq_false p1, decide_eq_false p2]; rfl
            go_wp2
            go_round
            case rel => exact ⟨k + 1, by omega, by go_num, HN2⟩
            case measure => simp [intOf]; omega
      · obtain rfl : k = L.length := by omega
        obtain rfl : R = 0 := by rw [← HR.out]; exact givenE_none hq HN.out
        go_wp2
        go_ret
        exact ⟨rfl, rfl⟩
end Go.Proofs.YtfiefmhnonddhaaDoor
