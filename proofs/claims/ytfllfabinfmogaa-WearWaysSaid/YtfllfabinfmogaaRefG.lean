/-
  THE WALK of the reference's Given (layer 46).
-/
import Derived.Test.YtfllfabinfmogaaSpotsBad
import Derived.BigQuiet
namespace Go.Proofs.Ytfllfabinfmogaa
open Go.RowKit Go.Shelf
theorem sg_at {L : List (Int × Int)} {k : Nat} (hk : k < L.length) : sg L k = L[k] := by
  have := sg_get hk
  rw [List.getElem?_eq_getElem hk] at this
  exact (Option.some.inj this).symm
theorem spotsE_none {len : Int} {L : List (Int × Int)} (h1 : 1 ≤ len) (h2 : len ≤ 1048576) (h : L.length ≤ 1000) (hn : ∀ k, k < L.length → spanBad len (sg L k) = false) : spotsE len L = 0 := by
  unfold spotsE
  rw [if_neg (by omega), if_neg (by omega), if_neg]
  intro q
  obtain ⟨v, hv, hb⟩ := List.any_eq_true.1 q
  obtain ⟨k, hk, rfl⟩ := List.mem_iff_getElem.1 hv
  have := hn k hk
  rw [sg_at hk] at this
  rw [this] at hb
  cases hb
theorem spotsE_hit {len : Int} {L : List (Int × Int)} {k : Nat} (h1 : 1 ≤ len) (h2 : len ≤ 1048576) (h : L.length ≤ 1000) (hk : k < L.length) (hb : spanBad len (sg L k) = true) : spotsE len L = 1 := by
  unfold spotsE
  rw [if_neg (by omega), if_neg (by omega), if_pos]
  refine List.any_eq_true.2 ⟨L[k], List.getElem_mem hk, ?_⟩
  rwa [sg_at hk] at hb
set_option maxHeartbeats 4000000 in
theorem refgiven_any (len : Int) (a : Option Addr) (L : List (Int × Int)) (cap : Nat) (n₀ : Nat) (w : World) (hl : L.length ≤ 1000000) (h : Spans n₀ w a L) :
    Calls Try.prog 21 #[.int .i64 len, .slice a L.length cap] w fun e w' => e = .returned (.int .i64 (spotsE len L)) ∧ Below w.heap.size w w' := by
  have HU := Lib.hid h
  clear h
  obtain ⟨R, hR⟩ : ∃ R, spotsE len L = R := ⟨_, rfl⟩
  have HR := Lib.hid hR
  rw [hR]
  by_cases l1 : len < 1
  · obtain rfl : R = 2 := by rw [← hR]; unfold spotsE; rw [if_pos (Or.inl l1)]
    clear hR HR
    go_enter Try.func21, Try.ntmps21
    go_wp2_with fail
    go_ret
    exact ⟨rfl, Below.refl _ _⟩
  by_cases l2 : 1048576 < len
  · obtain rfl : R = 2 := by rw [← hR]; unfold spotsE; rw [if_pos (Or.inr l2)]
    clear hR HR
    go_enter Try.func21, Try.ntmps21
    go_wp2_with fail
    go_ret
    exact ⟨rfl, Below.refl _ _⟩
  by_cases q : 1000 < L.length
  · obtain rfl : R = 4 := by rw [← hR]; unfold spotsE; rw [if_neg (by omega), if_pos q]
    have g : decide ((1000 : Int) < L.length) = true := decide_eq_true (by omega)
    clear hR HR q
    go_enter Try.func21, Try.ntmps21
    go_wp2_with fail
    go_ret
    exact ⟨rfl, Below.refl _ _⟩
  · have g : decide ((1000 : Int) < L.length) = false := decide_eq_false (by omega)
    have hq : L.length ≤ 1000 := by omega
    have m1 : 1 ≤ len := by omega
    have m2 : len ≤ 1048576 := by omega
    clear hR q
    go_enter Try.func21, Try.ntmps21
    go_wp2_with fail
    go_loopw [5] (fun i wr => ∃ k : Nat, k ≤ L.length ∧ i = .int .i64 k ∧ Hid (∀ j, j < k → spanBad len (sg L j) = false) ∧ Below w.heap.size w wr) (fun i _ => L.length - (intOf i).toNat)
    case atStart => exact ⟨0, Nat.zero_le _, rfl, Lib.hid fun j hj => absurd hj (Nat.not_lt_zero _), Below.refl _ _⟩
    case round =>
      obtain ⟨k, hk, rfl, HN, hB⟩ := hrel
      by_cases hlt : k < L.length
      · obtain ⟨b, off, rfl, hb, hc⟩ := HU.out (by omega)
        have hbw : b < w.heap.size := World.block_lt_of_cell? _ _ (hc k hlt).2
        have c0 := (hB.cell (p := ⟨b, off + k * 2, none⟩) hbw).trans (hc k hlt).1
        have c1 := (hB.cell (p := ⟨b, off + k * 2 + 1, none⟩) hbw).trans (hc k hlt).2
        clear hc
        by_cases p1 : (sg L k).1 < 0
        · obtain rfl : R = 1 := by rw [← HR.out]; exact spotsE_hit m1 m2 hq hlt (by unfold spanBad; simp [p1])
          go_wp2_with fail
          go_quiet (fail)
          go_wp2_with fail
          go_ret
          exact ⟨rfl, below_drewN hB _⟩
        by_cases p2 : (sg L k).2 ≤ (sg L k).1
        · obtain rfl : R = 1 := by rw [← HR.out]; exact spotsE_hit m1 m2 hq hlt (by unfold spanBad; simp [p2])
          go_wp2_with fail
          go_quiet (fail)
          go_wp2_with fail
          go_ret
          exact ⟨rfl, below_drewN hB _⟩
        by_cases p3 : len < (sg L k).2
        · obtain rfl : R = 1 := by rw [← HR.out]; exact spotsE_hit m1 m2 hq hlt (by unfold spanBad; simp [p3])
          go_wp2_with fail
          go_quiet (fail)
          go_wp2_with fail
          go_ret
          exact ⟨rfl, below_drewN hB _⟩
        have HN2 : Hid (∀ j, j < k + 1 → spanBad len (sg L j) = false) := Lib.hid fun j hj => by
          rcases (show j < k ∨ j = k by omega) with l | l
          · exact HN.out j l
          · subst l; unfold spanBad; rw [decide_eq_false p1, decide_eq_false p2, decide_eq_false p3]; rfl
        go_wp2_with fail
        go_quiet (fail)
        go_wp2_with fail
        go_roundw
        case rel => exact ⟨k + 1, by omega, by go_num, HN2, below_drewN hB _⟩
        case measure => simp [intOf]; omega
      · obtain rfl : k = L.length := by omega
        obtain rfl : R = 0 := by rw [← HR.out]; exact spotsE_none m1 m2 hq HN.out
        go_wp2_with fail
        go_ret
        exact ⟨rfl, hB⟩
end Go.Proofs.Ytfllfabinfmogaa
