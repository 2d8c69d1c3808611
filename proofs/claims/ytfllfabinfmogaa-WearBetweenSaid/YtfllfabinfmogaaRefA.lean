/-
  THE WALKS of the reference's Places, At, Worst (layer 46).
-/
import Derived.Test.YtfllfabinfmogaaWorst
import Derived.Test.YtfllfabinfmogaaPlaces
namespace Go.Proofs.Ytfllfabinfmogaa
open Go.RowKit Go.Shelf
theorem cov_take {L : List (Int × Int)} {k : Nat} (h : k < L.length) (x : Int) : cov (L.take (k + 1)) x = cov (L.take k) x + (if (sg L k).1 ≤ x ∧ x < (sg L k).2 then 1 else 0) := by
  unfold cov
  rw [List.take_add_one, sg_get h, List.filter_append, List.length_append]
  by_cases q : (sg L k).1 ≤ x ∧ x < (sg L k).2
  · have e : covB x (sg L k) = true := by unfold covB; simp [q.1, q.2]
    rw [if_pos q]
    simp [e]
  · have e : covB x (sg L k) = false := by unfold covB; rw [Bool.eq_false_iff]; simpa using q
    rw [if_neg q]
    simp [e]
theorem cov_take_bd (L : List (Int × Int)) (x : Int) (k : Nat) (hk : k ≤ L.length) : 0 ≤ cov (L.take k) x ∧ cov (L.take k) x ≤ k := by
  unfold cov
  have := List.length_filter_le (covB x) (L.take k)
  have h2 : (L.take k).length ≤ k := by rw [List.length_take]; omega
  omega
set_option maxHeartbeats 4000000 in
theorem refat_any (a : Option Addr) (L : List (Int × Int)) (cap : Nat) (x : Int) (n₀ : Nat) (w : World) (hl : L.length ≤ 1000000) (h : Spans n₀ w a L) :
    Calls Try.prog 34 #[.slice a L.length cap, .int .i64 x] w fun e w' => e = .returned (.int .i64 (cov L x)) ∧ w = w' := by
  have HU := Lib.hid h
  clear h
  go_enter Try.func34, Try.ntmps34
  go_wp2
  go_loop [5, 6] (fun s i => ∃ k : Nat, k ≤ L.length ∧ i = .int .i64 k ∧ s = .int .i64 (cov (L.take k) x)) (fun _ i => L.length - (intOf i).toNat)
  case atStart => exact ⟨0, Nat.zero_le _, rfl, rfl⟩
  case round =>
    obtain ⟨k, hk, rfl, rfl⟩ := hrel
    obtain ⟨b1, b2⟩ := cov_take_bd L x k hk
    by_cases hlt : k < L.length
    · obtain ⟨b, off, rfl, hb, hc⟩ := HU.out (by omega)
      obtain ⟨c0, c1⟩ := hc k hlt
      have HT := Lib.hid (cov_take hlt x)
      clear hc
      by_cases p1 : (sg L k).1 ≤ x
      · by_cases p2 : x < (sg L k).2
        · have HS : Hid (cov (L.take (k + 1)) x = cov (L.take k) x + 1) := Lib.hid (by rw [HT.out, if_pos ⟨p1, p2⟩])
          go_wp2
          go_round
          case rel => exact ⟨k + 1, by omega, by go_num, by rw [HS.out]⟩
          case measure => simp [intOf]; omega
        · have HS : Hid (cov (L.take (k + 1)) x = cov (L.take k) x) := Lib.hid (by rw [HT.out, if_neg (fun h => p2 h.2)]; omega)
          go_wp2
          go_round
          case rel => exact ⟨k + 1, by omega, by go_num, by rw [HS.out]⟩
          case measure => simp [intOf]; omega
      · have HS : Hid (cov (L.take (k + 1)) x = cov (L.take k) x) := Lib.hid (by rw [HT.out, if_neg (fun h => p1 h.1)]; omega)
        go_wp2
        go_round
        case rel => exact ⟨k + 1, by omega, by go_num, by rw [HS.out]⟩
        case measure => simp [intOf]; omega
    · obtain rfl : k = L.length := by omega
      go_wp2
      go_ret
      exact ⟨rfl, rfl⟩
theorem placesE_none {L : List Int} (h : L.length ≤ 1000) (hn : ∀ k, k < L.length → placeBad (ig L k) = false) : placesE L = 0 := by
  unfold placesE
  rw [if_neg (by omega), if_neg]
  intro q
  obtain ⟨v, hv, hb⟩ := List.any_eq_true.1 q
  obtain ⟨k, hk, rfl⟩ := List.mem_iff_getElem.1 hv
  have := hn k hk
  rw [show ig L k = L[k] by unfold ig; rw [List.getElem?_eq_getElem hk]; rfl] at this
  rw [this] at hb
  cases hb
theorem placesE_hit {L : List Int} {k : Nat} (h : L.length ≤ 1000) (hk : k < L.length) (hb : placeBad (ig L k) = true) : placesE L = 2 := by
  unfold placesE
  rw [if_neg (by omega), if_pos]
  refine List.any_eq_true.2 ⟨L[k], List.getElem_mem hk, ?_⟩
  rwa [show ig L k = L[k] by unfold ig; rw [List.getElem?_eq_getElem hk]; rfl] at hb
set_option maxHeartbeats 4000000 in
theorem refplaces_any (a : Option Addr) (L : List Int) (cap : Nat) (n₀ : Nat) (w : World) (hl : L.length ≤ 1000000) (h : Nums n₀ w a L) :
    Calls Try.prog 16 #[.slice a L.length cap] w fun e w' => e = .returned (.int .i64 (placesE L)) ∧ w = w' := by
  have HU := Lib.hid h
  clear h
  obtain ⟨R, hR⟩ : ∃ R, placesE L = R := ⟨_, rfl⟩
  have HR := Lib.hid hR
  rw [hR]
  by_cases q : 1000 < L.length
  · obtain rfl : R = 4 := by rw [← hR]; unfold placesE; rw [if_pos q]
    have g : decide ((1000 : Int) < L.length) = true := decide_eq_true (by omega)
    clear hR HR q
    go_enter Try.func16, Try.ntmps16
    go_wp2
    go_ret
    exact ⟨rfl, rfl⟩
  · have g : decide ((1000 : Int) < L.length) = false := decide_eq_false (by omega)
    have hq : L.length ≤ 1000 := by omega
    clear hR q
    go_enter Try.func16, Try.ntmps16
    go_wp2
    go_loop [3] (fun i => ∃ k : Nat, k ≤ L.length ∧ i = .int .i64 k ∧ Hid (∀ j, j < k → placeBad (ig L j) = false)) (fun i => L.length - (intOf i).toNat)
    case atStart => exact ⟨0, Nat.zero_le _, rfl, Lib.hid fun j hj => absurd hj (Nat.not_lt_zero _)⟩
    case round =>
      obtain ⟨k, hk, rfl, HN⟩ := hrel
      by_cases hlt : k < L.length
      · obtain ⟨b, off, rfl, hb, hc⟩ := HU.out (by omega)
        have c0 := hc k hlt
        clear hc
        by_cases p1 : ig L k < 0
        · obtain rfl : R = 2 := by rw [← HR.out]; exact placesE_hit hq hlt (by unfold placeBad; simp [p1])
          go_wp2
          go_ret
          exact ⟨rfl, rfl⟩
        · by_cases p2 : 1048576 < ig L k
          · obtain rfl : R = 2 := by rw [← HR.out]; exact placesE_hit hq hlt (by unfold placeBad; simp [p2])
            go_wp2
            go_ret
            exact ⟨rfl, rfl⟩
          · have HN2 : Hid (∀ j, j < k + 1 → placeBad (ig L j) = false) := Lib.hid fun j hj => by
              rcases (show j < k ∨ j = k by omega) with l | l
              · exact HN.out j l
              · subst l; unfold placeBad; rw [decide_eq_false p1, decide_eq_false p2]; rfl
            go_wp2
            go_round
            case rel => exact ⟨k + 1, by omega, by go_num, HN2⟩
            case measure => simp [intOf]; omega
      · obtain rfl : k = L.length := by omega
        obtain rfl : R = 0 := by rw [← HR.out]; exact placesE_none hq HN.out
        go_wp2
        go_ret
        exact ⟨rfl, rfl⟩
end Go.Proofs.Ytfllfabinfmogaa
