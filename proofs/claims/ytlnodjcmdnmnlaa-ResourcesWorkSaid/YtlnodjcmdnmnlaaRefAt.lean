/-
  THE WALKS of the reference's at and next (layer 42).
-/
import Derived.Test.YtlnodjcmdnmnlaaStepsP
namespace Go.Proofs.Ytlnodjcmdnmnlaa
open Go.RowKit Go.Shelf

/-- The needs of uses are moderate. -/
def UseB (U : UseL) : Prop := ∀ k, k < U.length → -1099511627776 ≤ (ug U k).2.2 ∧ (ug U k).2.2 ≤ 1099511627776
theorem sumTo_b {U : UseL} (h : UseB U) (t : Int) : ∀ k, k ≤ U.length → -1099511627776 * (k : Int) ≤ sumTo U t k ∧ sumTo U t k ≤ 1099511627776 * (k : Int) := by
  intro k
  induction k with
  | zero => intro _; exact ⟨Int.le_refl _, Int.le_refl _⟩
  | succ k ih =>
    intro hk
    have h1 := ih (by omega)
    have h2 := h k (by omega)
    simp only [sumTo]
    split <;> omega
set_option maxHeartbeats 4000000 in
theorem refat_any (a : Option Addr) (U : UseL) (cap : Nat) (t : Int) (n₀ : Nat) (w : World) (hl : U.length ≤ 1000) (hB : UseB U) (hU : Parts n₀ w a U) :
    Calls Try.prog 36 #[.slice a U.length cap, .int .i64 t] w fun e w' => e = .returned (.int .i64 (sumAt U t)) ∧ w = w' := by
  have HU := Lib.hid hU
  have HB : Hid (∀ k, k ≤ U.length → -1099511627776 * (k : Int) ≤ sumTo U t k ∧ sumTo U t k ≤ 1099511627776 * (k : Int)) := Lib.hid (sumTo_b hB t)
  have HBB := Lib.hid hB
  have HE : Hid (sumAt U t = sumTo U t U.length) := Lib.hid rfl
  clear hU hB
  go_enter Try.func36, Try.ntmps36
  go_wp2
  go_loop [5, 6] (fun s i => ∃ k : Nat, k ≤ U.length ∧ i = .int .i64 k ∧ s = .int .i64 (sumTo U t k)) (fun _ i => U.length - (intOf i).toNat)
  case atStart => exact ⟨0, Nat.zero_le _, rfl, rfl⟩
  case round =>
    obtain ⟨k, hk, rfl, rfl⟩ := hrel
    obtain ⟨b1, b2⟩ := HB.out k hk
    by_cases hlt : k < U.length
    · obtain ⟨b, off, rfl, hb, hc⟩ := HU.out (by omega)
      obtain ⟨c0, c1, c2⟩ := hc k hlt
      change w.cell? _ = some (.int .i64 (ug U k).1) at c0
      change w.cell? _ = some (.int .i64 (ug U k).2.1) at c1
      change w.cell? _ = some (.int .i64 (ug U k).2.2) at c2
      obtain ⟨b3, b4⟩ := HBB.out k hlt
      clear hc
      by_cases p1 : (ug U k).1 ≤ t
      · by_cases p2 : t < (ug U k).2.1
        · have HS : Hid (sumTo U t (k + 1) = sumTo U t k + (ug U k).2.2) := Lib.hid (by simp only [sumTo]; rw [if_pos ⟨p1, p2⟩])
          go_wp2
          go_round
          case rel => exact ⟨k + 1, by omega, by go_num, by rw [HS.out]⟩
          case measure => simp [intOf]; omega
        · have HS : Hid (sumTo U t (k + 1) = sumTo U t k) := Lib.hid (by simp only [sumTo]; rw [if_neg (fun h => p2 h.2)]; omega)
          go_wp2
          go_round
          case rel => exact ⟨k + 1, by omega, by go_num, by rw [HS.out]⟩
          case measure => simp [intOf]; omega
      · have HS : Hid (sumTo U t (k + 1) = sumTo U t k) := Lib.hid (by simp only [sumTo]; rw [if_neg (fun h => p1 h.1)]; omega)
        go_wp2
        go_round
        case rel => exact ⟨k + 1, by omega, by go_num, by rw [HS.out]⟩
        case measure => simp [intOf]; omega
    · obtain rfl : k = U.length := by omega
      go_wp2
      go_ret
      exact ⟨ret_int HE.out.symm, rfl⟩

/-- One end more. -/
def lessE (t b e : Int) : Int := if e > t ∧ (b < 0 ∨ e < b) then e else b
theorem nextTo_succ (U : UseL) (t : Int) (k : Nat) : nextTo U t (k + 1) = lessE t (lessE t (nextTo U t k) (ug U k).1) (ug U k).2.1 := rfl
set_option maxHeartbeats 8000000 in
theorem refnext_any (a : Option Addr) (U : UseL) (cap : Nat) (t : Int) (n₀ : Nat) (w : World) (hl : U.length ≤ 1000) (hU : Parts n₀ w a U) :
    Calls Try.prog 37 #[.slice a U.length cap, .int .i64 t] w fun e w' => e = .returned (.int .i64 (nextP U t)) ∧ w = w' := by
  have HU := Lib.hid hU
  have HE : Hid (nextP U t = nextTo U t U.length) := Lib.hid rfl
  clear hU
  go_enter Try.func37, Try.ntmps37
  go_wp2
  go_loop [5, 6] (fun s i => ∃ k : Nat, k ≤ U.length ∧ i = .int .i64 k ∧ s = .int .i64 (nextTo U t k)) (fun _ i => U.length - (intOf i).toNat)
  case atStart => exact ⟨0, Nat.zero_le _, rfl, rfl⟩
  case round =>
    obtain ⟨k, hk, rfl, rfl⟩ := hrel
    by_cases hlt : k < U.length
    · obtain ⟨b, off, rfl, hb, hc⟩ := HU.out (by omega)
      obtain ⟨c0, c1, c2⟩ := hc k hlt
      change w.cell? _ = some (.int .i64 (ug U k).1) at c0
      change w.cell? _ = some (.int .i64 (ug U k).2.1) at c1
      have HN := Lib.hid (nextTo_succ U t k)
      clear hc c2
      generalize (ug U k).1 = x at *
      generalize (ug U k).2.1 = y at *
      generalize nextTo U t k = m at *
      have fin : ∀ v : Int, nextTo U t (k + 1) = v → ∃ k' : Nat, k' ≤ U.length ∧ Value.int .i64 ((k : Int) + 1) = .int .i64 k' ∧ Value.int .i64 v = .int .i64 (nextTo U t k') := fun v h => ⟨k + 1, by omega, by go_num, by rw [h]⟩
      have HF := Lib.hid fin
      clear fin
      by_cases p1 : x > t ∧ (m < 0 ∨ x < m)
      · have H1 : Hid (lessE t m x = x) := Lib.hid (by unfold lessE; rw [if_pos p1])
        obtain ⟨p1a, p1b⟩ := p1
        by_cases p2 : y > t ∧ (x < 0 ∨ y < x)
        · have H2 : Hid (lessE t x y = y) := Lib.hid (by unfold lessE; rw [if_pos p2])
          obtain ⟨p2a, p2b⟩ := p2
          go_wp2
          all_goals first
            | (exfalso; omega)
            | (go_round
               case rel => exact HF.out _ (by rw [HN.out, H1.out, H2.out])
               case measure => simp [intOf]; omega)
        · have H2 : Hid (lessE t x y = x) := Lib.hid (by unfold lessE; rw [if_neg p2])
          go_wp2
          all_goals first
            | (exfalso; omega)
            | (go_round
               case rel => exact HF.out _ (by rw [HN.out, H1.out, H2.out])
               case measure => simp [intOf]; omega)
      · have H1 : Hid (lessE t m x = m) := Lib.hid (by unfold lessE; rw [if_neg p1])
        by_cases p2 : y > t ∧ (m < 0 ∨ y < m)
        · have H2 : Hid (lessE t m y = y) := Lib.hid (by unfold lessE; rw [if_pos p2])
          obtain ⟨p2a, p2b⟩ := p2
          go_wp2
          all_goals first
            | (exfalso; omega)
            | (go_round
               case rel => exact HF.out _ (by rw [HN.out, H1.out, H2.out])
               case measure => simp [intOf]; omega)
        · have H2 : Hid (lessE t m y = m) := Lib.hid (by unfold lessE; rw [if_neg p2])
          go_wp2
          all_goals first
            | (exfalso; omega)
            | (go_round
               case rel => exact HF.out _ (by rw [HN.out, H1.out, H2.out])
               case measure => simp [intOf]; omega)
    · obtain rfl : k = U.length := by omega
      go_wp2
      go_ret
      exact ⟨ret_int HE.out.symm, rfl⟩
end Go.Proofs.Ytlnodjcmdnmnlaa
