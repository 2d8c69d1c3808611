/-
  THE WALK of wear.Spots on a length or spans that are no good.
-/
import Derived.Test.YtfllfabinfmogaaSpots
namespace Go.Proofs.Ytfllfabinfmogaa
open Go.RowKit Go.Shelf Go.Maps
set_option maxRecDepth 100000 in
set_option maxHeartbeats 16000000 in
theorem spots_bad (len : Int) (a : Option Addr) (L : List (Int × Int)) (cap : Nat) (w : World) (hl : L.length ≤ 1000000) (h : Spans w.heap.size w a L) (he : ¬ spotsE len L = 0) :
    Calls Try.prog 19 #[.int .i64 len, .slice a L.length cap] w fun e w' => e = .returned (.tuple #[.slice none 0 0, .int .i64 (spotsE len L)]) ∧ Below w.heap.size w w' := by
  have HS := Lib.hid h
  have hW0 := below_new w (.cells #[.int .i64 len] 3)
  obtain ⟨R, hR⟩ : ∃ R, spotsE len L = R := ⟨_, rfl⟩
  have HR := Lib.hid hR
  rw [hR]
  by_cases q1 : len < 1
  · obtain rfl : R = 2 := by rw [← hR]; unfold spotsE; rw [if_pos (Or.inl q1)]
    have g1 := decide_eq_true q1
    clear hR he h HS HR
    go_enter Try.func19, Try.ntmps19
    go_wp2_with fail
    go_ret2
    exact ⟨rfl, hW0⟩
  · have g1 := decide_eq_false q1
    by_cases q2 : 1048576 < len
    · obtain rfl : R = 2 := by rw [← hR]; unfold spotsE; rw [if_pos (Or.inr q2)]
      have g2 := decide_eq_true q2
      clear hR he h HS HR q1
      go_enter Try.func19, Try.ntmps19
      go_wp2_with fail
      go_ret2
      exact ⟨rfl, hW0⟩
    · have g2 := decide_eq_false q2
      by_cases q3 : 1000 < L.length
      · obtain rfl : R = 4 := by rw [← hR]; unfold spotsE; rw [if_neg (by omega), if_pos q3]
        have g3 : decide ((1000 : Int) < L.length) = true := decide_eq_true (by omega)
        clear hR he h HS HR q1 q2
        go_enter Try.func19, Try.ntmps19
        go_wp2_with fail
        go_ret2
        exact ⟨rfl, hW0⟩
      · have g3 : decide ((1000 : Int) < L.length) = false := decide_eq_false (by omega)
        have hany : L.any (spanBad len) = true := by
          by_cases q : L.any (spanBad len) = true
          · exact q
          · exact absurd (by unfold spotsE; rw [if_neg (by omega), if_neg q3, if_neg q]) he
        obtain rfl : R = 1 := by rw [← hR]; unfold spotsE; rw [if_neg (by omega), if_neg q3, if_pos hany]
        have HAN : Hid (span_any L (spanBad len) = true) := Lib.hid (by rw [span_any_eq]; exact hany)
        have hl3 : L.length ≤ 1000 := by omega
        clear hR he h HR hany q1 q2 q3
        have c0 : (w.alloc (.cells #[.int .i64 len] 3)).cell? ⟨w.heap.size, 0, none⟩ = some (.int .i64 len) := by simp
        have hz0 : w.heap.size < (w.alloc (.cells #[.int .i64 len] 3)).heap.size := by simp
        go_enter Try.func19, Try.ntmps19
        go_upto_region 1 with (fail)
        obtain ⟨Bl, hBl⟩ : ∃ b, w.heap.size = b := ⟨_, rfl⟩
        rw [hBl] at c0 hz0
        simp only [hBl]
        generalize w.alloc (.cells #[.int .i64 len] 3) = W0 at *
        go_wp2_with (go_at_call 31; (with_reducible refine (span_containsFunc _ L _ _ _ _ (spanBad len) _ ent_spanBad (by omega) (Nat.le_refl _) (HS.out.grow hW0) (asks_spanBad Bl len _ _ hz0 c0)).mono ?_); rintro e w2 ⟨rfl, hb2⟩; rw [HAN.out])
        go_ret2
        have hfin := hW0.trans (hb2.mono hW0.size)
        exact ⟨rfl, by first | exact hfin | (rw [← hBl]; exact hfin)⟩
theorem spots_any {H : Type} (len : Int) (a : Option Addr) (L : List (Int × Int)) (cap : Nat) (w : World) (hl : L.length ≤ 1000000) (h : Spans w.heap.size w a L) :
    Calls Try.prog 19 #[.int .i64 len, .slice a L.length cap] w fun e w' => Hid (∃ v, e = .returned (.tuple #[v, .int .i64 (spotsE len L)]) ∧ (spotsE len L = 0 → w'.ownsRow w.heap.size 48 2 v (spotsP len L).length (oflat (spotsP len L))) ∧ (¬ spotsE len L = 0 → v = .slice none 0 0)) ∧ Below w.heap.size w w' := by
  by_cases he : spotsE len L = 0
  · refine (spots_good (H := H) len a L cap w h he).mono ?_
    rintro e w' ⟨hv, hb⟩
    obtain ⟨v, rfl, hr⟩ := hv.out
    exact ⟨Lib.hid ⟨v, by rw [he], fun _ => hr, fun q => absurd he q⟩, hb⟩
  · refine (spots_bad len a L cap w hl h he).mono ?_
    rintro e w' ⟨rfl, hb⟩
    exact ⟨Lib.hid ⟨_, rfl, fun q => absurd q he, fun _ => rfl⟩, hb⟩
end Go.Proofs.Ytfllfabinfmogaa
