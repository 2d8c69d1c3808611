/-
  THE WALKS of the reference's Valid (02) and RightLoss (10).
-/
import Derived.Test.YtfllfabinfmogaaLossy
import Derived.Test.YtfllfabinfmogaaRef2c
import Derived.BigQuiet
import Derived.Deep.RegionHeld3
import Derived.Deep.DeepCutAuto
namespace Go.Proofs.Ytfllfabinfmogaa
open Go.RowKit Go.Shelf
set_option maxHeartbeats 8000000 in
theorem rvalid_any (n d : Int) (w : World) :
    Calls Try.prog 57 #[.agg #[.int .i64 n, .int .i64 d]] w fun e w' => e = .returned (.bool (validF n d)) ∧ Below w.heap.size w w' := by
  have hW0 := below_new w (.cells #[.int .i64 n, .int .i64 d] 75)
  have x0 : (w.alloc (.cells #[.int .i64 n, .int .i64 d] 75)).cell? ⟨w.heap.size, 0, none⟩ = some (.int .i64 n) := by simp
  have x1 : (w.alloc (.cells #[.int .i64 n, .int .i64 d] 75)).cell? ⟨w.heap.size, 1, none⟩ = some (.int .i64 d) := by simp
  have hz : w.heap.size < (w.alloc (.cells #[.int .i64 n, .int .i64 d] 75)).heap.size := by simp
  obtain ⟨V, hV⟩ : ∃ V, validF n d = V := ⟨_, rfl⟩
  have HV := Lib.hid hV
  rw [hV]
  clear hV
  by_cases q1 : 1 ≤ d ∧ d ≤ 1152921504606846976 ∧ -1152921504606846976 ≤ n ∧ n ≤ 1152921504606846976
  · obtain ⟨a1, a2, a3, a4⟩ := q1
    have g1 : decide (d < 1) = false := decide_eq_false (by omega)
    have g2 : decide (1152921504606846976 < d) = false := decide_eq_false (by omega)
    have g3 : decide (n < -1152921504606846976) = false := decide_eq_false (by omega)
    have g4 : decide (1152921504606846976 < n) = false := decide_eq_false (by omega)
    obtain ⟨G, hG⟩ : ∃ G : Int, (Int.gcd (n.natAbs : Int) (d.natAbs : Int) : Int) = G := ⟨_, rfl⟩
    have HC : Hid ((G == 1) = V) := Lib.hid (by
      rw [← HV.out, ← hG]
      unfold validF
      rw [decide_eq_true a1, decide_eq_true a2, decide_eq_true a3, decide_eq_true a4]
      have e : Int.gcd (n.natAbs : Int) (d.natAbs : Int) = Int.gcd n d := by simp [Int.gcd]
      rw [e]
      simp only [Bool.true_and]
      rw [Bool.eq_iff_iff]
      simp only [beq_iff_eq]
      omega)
    have HG := Lib.hid hG
    clear hG HV
    by_cases hg : G = 1
    · subst hg
      obtain rfl : V = true := by rw [← HC.out]; rfl
      clear HC
      go_enter Try.func57, Try.ntmps57
      go_upto_region 3 with (fail)
      generalize w.alloc (.cells #[.int .i64 n, .int .i64 d] 75) = W0 at *
      obtain ⟨B, hB⟩ : ∃ B, w.heap.size = B := ⟨_, rfl⟩
      rw [hB] at x0 x1 hz
      simp only [hB]
      have hz0 : w.heap.size ≤ W0.heap.size := by omega
      have HS : Hid (∀ w', Below W0.heap.size W0 w' → Below W0.heap.size W0 w' ∧ w'.cell? ⟨B, 0, none⟩ = some (.int .i64 n) ∧ w'.cell? ⟨B, 1, none⟩ = some (.int .i64 d)) := Lib.hid fun w' h => ⟨h, (h.cell (p := ⟨B, 0, none⟩) hz).trans x0, (h.cell (p := ⟨B, 1, none⟩) hz).trans x1⟩
      have hbr := Below.refl W0.heap.size W0
      have hbd := hbr.drew
      clear x0 x1 g1 g2 g3 g4
      go_region_held3 (fun w' => Below W0.heap.size W0 w' ∧ w'.cell? ⟨B, 0, none⟩ = some (.int .i64 n) ∧ w'.cell? ⟨B, 1, none⟩ = some (.int .i64 d))
        (first | exact HS.out _ hbd | (go_split_ands; refine HS.out _ ?_; repeat' (first | assumption | apply below_a | apply Below.drew)))
        (first
          | (go_at_call 72; go_split_ands; (with_reducible refine (rsize_any n (by omega) (by omega) _).mono ?_); rintro e y1 ⟨rfl, rfl⟩)
          | (go_at_call 72; go_split_ands; (with_reducible refine (rsize_any d (by omega) (by omega) _).mono ?_); rintro e y2 ⟨rfl, rfl⟩)
          | (go_at_call 71; go_split_ands; (with_reducible refine (rgcd_any _ _ (by omega) (by omega) (by omega) (by omega) _).mono ?_); rintro e y3 ⟨rfl, hy3⟩; rw [HG.out]; have hxx := held_next (wr := W0) (by assumption) hy3))
      all_goals go_wp2_with fail
      all_goals go_ret
      all_goals exact ⟨rfl, hW0.trans ((by assumption : Below W0.heap.size W0 _).mono (by omega))⟩
    · have hg2 : (G == 1) = false := by simpa using hg
      obtain rfl : V = false := by rw [← HC.out, hg2]
      clear HC hg
      go_enter Try.func57, Try.ntmps57
      go_upto_region 3 with (fail)
      generalize w.alloc (.cells #[.int .i64 n, .int .i64 d] 75) = W0 at *
      obtain ⟨B, hB⟩ : ∃ B, w.heap.size = B := ⟨_, rfl⟩
      rw [hB] at x0 x1 hz
      simp only [hB]
      have hz0 : w.heap.size ≤ W0.heap.size := by omega
      have HS : Hid (∀ w', Below W0.heap.size W0 w' → Below W0.heap.size W0 w' ∧ w'.cell? ⟨B, 0, none⟩ = some (.int .i64 n) ∧ w'.cell? ⟨B, 1, none⟩ = some (.int .i64 d)) := Lib.hid fun w' h => ⟨h, (h.cell (p := ⟨B, 0, none⟩) hz).trans x0, (h.cell (p := ⟨B, 1, none⟩) hz).trans x1⟩
      have hbr := Below.refl W0.heap.size W0
      have hbd := hbr.drew
      clear x0 x1 g1 g2 g3 g4
      go_region_held3 (fun w' => Below W0.heap.size W0 w' ∧ w'.cell? ⟨B, 0, none⟩ = some (.int .i64 n) ∧ w'.cell? ⟨B, 1, none⟩ = some (.int .i64 d))
        (first | exact HS.out _ hbd | (go_split_ands; refine HS.out _ ?_; repeat' (first | assumption | apply below_a | apply Below.drew)))
        (first
          | (go_at_call 72; go_split_ands; (with_reducible refine (rsize_any n (by omega) (by omega) _).mono ?_); rintro e y1 ⟨rfl, rfl⟩)
          | (go_at_call 72; go_split_ands; (with_reducible refine (rsize_any d (by omega) (by omega) _).mono ?_); rintro e y2 ⟨rfl, rfl⟩)
          | (go_at_call 71; go_split_ands; (with_reducible refine (rgcd_any _ _ (by omega) (by omega) (by omega) (by omega) _).mono ?_); rintro e y3 ⟨rfl, hy3⟩; rw [HG.out]; have hxx := held_next (wr := W0) (by assumption) hy3))
      all_goals go_wp2_with fail
      all_goals go_ret
      all_goals exact ⟨rfl, hW0.trans ((by assumption : Below W0.heap.size W0 _).mono (by omega))⟩
  · have HF : V = false := by
      rw [← HV.out, Bool.eq_false_iff]
      intro h
      obtain ⟨b1, b2, b3, b4, _⟩ := (validF_iff n d).1 h
      exact q1 ⟨b1, b2, b3, b4⟩
    clear HV
    subst HF
    have q2 : (decide (d < 1) = true) ∨ (decide (d < 1) = false ∧ decide (1152921504606846976 < d) = true) ∨ (decide (d < 1) = false ∧ decide (1152921504606846976 < d) = false ∧ decide (n < -1152921504606846976) = true) ∨ (decide (d < 1) = false ∧ decide (1152921504606846976 < d) = false ∧ decide (n < -1152921504606846976) = false ∧ decide (1152921504606846976 < n) = true) := by
      simp only [decide_eq_true_eq, decide_eq_false_iff_not]
      omega
    clear q1
    rcases q2 with g1 | ⟨g1, g2⟩ | ⟨g1, g2, g3⟩ | ⟨g1, g2, g3, g4⟩
    all_goals
      go_enter Try.func57, Try.ntmps57
      go_wp2_with fail
      go_ret
      exact ⟨rfl, hW0⟩
end Go.Proofs.Ytfllfabinfmogaa
