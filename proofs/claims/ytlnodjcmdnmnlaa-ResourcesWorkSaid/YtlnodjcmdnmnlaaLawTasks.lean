/-
  THE WALK of the law ResourcesTasks.
-/
import Derived.Test.YtlnodjcmdnmnlaaAwake
import Derived.Test.YtlnodjcmdnmnlaaRefProf
namespace Go.Proofs.Ytlnodjcmdnmnlaa
open Go.RowKit Go.Shelf

theorem profL_len (f : TaskR → Int) {L : List TaskR} (S : List Int) (h : L.length ≤ 70) : (profL f L S).length ≤ 1100 := by
  unfold profL
  split
  · have h1 := stepsK_len (usesTo f L S L.length) (timesP (usesTo f L S L.length)).length (Nat.le_refl _)
    rw [stepsK_all] at h1
    have h2 := times_len (usesTo f L S L.length)
    rw [usesTo_len] at h2
    omega
  · exact Nat.zero_le _
theorem load_equal_self (a1 a2 : Option Addr) (F : List (Int × Int)) (c1 c2 : Nat) (w : World) (hl : F.length ≤ 1100) (h1 : Loads w.heap.size w a1 F) (h2 : Loads w.heap.size w a2 F) :
    Calls Try.prog 15 #[.slice a1 F.length c1, .slice a2 F.length c2] w fun e w' => e = .returned (.bool true) ∧ Below w.heap.size w w' :=
  (load_equal a1 a2 F F c1 c2 w hl h1 h2 hl).mono fun e w' h => by rw [decide_eq_true rfl] at h; exact h
set_option maxRecDepth 100000 in
set_option maxHeartbeats 8000000 in
theorem lawtasks_law (a sa : Option Addr) (L : List TaskR) (S : List Int) (cap sc : Nat) (w : World) (hL : Tasks w.heap.size w a L) (hS : Nums w.heap.size w sa S) :
    Calls Try.prog 3 #[.slice a L.length cap, .slice sa S.length sc] w fun e w' => e = .returned (.bool true) ∧ Below w.heap.size w w' := by
  have HL := Lib.hid hL
  have HS := Lib.hid hS
  clear hL hS
  by_cases q1 : L.length ≤ 70
  · have b1 : decide ((70 : Int) < (L.length : Int)) = false := decide_eq_false (by omega)
    by_cases q2 : S.length ≤ 100
    · have b2 : decide ((100 : Int) < (S.length : Int)) = false := decide_eq_false (by omega)
      have hl : L.length ≤ 1000 := by omega
      have hls : S.length ≤ 1000 := by omega
      have n1 := profL_len TaskR.crew S q1
      have n2 := profL_len TaskR.power S q1
      clear q1 q2
      cases ht : tasksB L
      · have HT := Lib.hid ht
        have HE : Hid (profE L S = 1) := Lib.hid (by unfold profE; rw [ht]; rfl)
        have HP1 : Hid (profL TaskR.crew L S = []) := Lib.hid (by unfold profL; rw [HE.out]; rfl)
        have HP2 : Hid (profL TaskR.power L S = []) := Lib.hid (by unfold profL; rw [HE.out]; rfl)
        clear ht n1 n2
        go_enter Try.func3, Try.ntmps3
        go_wp2_with (first
          | (go_at_call 8; (with_reducible refine (awake_any _).mono ?_); rintro e w1 ⟨rfl, hB1⟩)
          | (go_at_call 9; (with_reducible refine (profile_any a sa L S _ _ _ hl hls (HL.out.grow hB1) (HS.out.grow hB1)).mono ?_); rintro e w2 ⟨v, u, rfl, hv, hu, hb2⟩; rw [HP1.out] at hv; rw [HP2.out] at hu; rw [HE.out]; obtain ⟨av, cv, rfl, _, _, _, _⟩ := load_of_row hv; obtain ⟨au, cu, rfl, _, _, _, _⟩ := load_of_row hu; clear hv hu; have hB2 := hB1.trans (hb2.mono hB1.size))
          | (go_at_call 10; (with_reducible refine (energy_any a L _ _ hl (HL.out.grow hB2)).mono ?_); rintro e w3 ⟨he, hb3⟩; rw [HT.out] at he; obtain rfl := he; have hB3 := hB2.trans (hb3.mono hB2.size))
          | (go_at_call 11; (with_reducible refine (reftasks_any a L _ _ _ hl (HL.out.grow hB3)).mono ?_); rintro e w' ⟨rfl, rfl⟩; rw [HT.out]))
        go_ret
        exact ⟨rfl, hB3⟩
      · have HT := Lib.hid ht
        have HW1 : ∃ x, workTo TaskR.crew L L.length = x := ⟨_, rfl⟩
        have HW2 : ∃ x, workTo TaskR.power L L.length = x := ⟨_, rfl⟩
        obtain ⟨x, hx⟩ := HW1
        obtain ⟨y, hy⟩ := HW2
        have HX := Lib.hid hx
        have HY := Lib.hid hy
        have z1 : (x != x) = false := bne_self_eq_false _
        have z2 : (y != y) = false := bne_self_eq_false _
        clear hx hy ht
        by_cases he : profE L S = 0
        · have HE := Lib.hid he
          clear he
          go_enter Try.func3, Try.ntmps3
          go_wp2_with (first
            | (go_at_call 8; (with_reducible refine (awake_any _).mono ?_); rintro e w1 ⟨rfl, hB1⟩)
            | (go_at_call 9; (with_reducible refine (profile_any a sa L S _ _ _ hl hls (HL.out.grow hB1) (HS.out.grow hB1)).mono ?_); rintro e w2 ⟨v, u, rfl, hv, hu, hb2⟩; rw [HE.out]; obtain ⟨av, cv, rfl, _, _, _, hv⟩ := load_of_row hv; obtain ⟨au, cu, rfl, _, _, _, hu⟩ := load_of_row hu; have HV := Lib.hid hv; have HU := Lib.hid hu; clear hv hu; have hB2 := hB1.trans (hb2.mono hB1.size))
            | (go_at_call 10; (with_reducible refine (energy_any a L _ _ hl (HL.out.grow hB2)).mono ?_); rintro e w3 ⟨he, hb3⟩; rw [HT.out, HX.out, HY.out] at he; obtain rfl := he; have hB3 := hB2.trans (hb3.mono hB2.size))
            | (go_at_call 11; (with_reducible refine (reftasks_any a L _ _ _ hl (HL.out.grow hB3)).mono ?_); rintro e w' ⟨rfl, rfl⟩; rw [HT.out])
            | (go_at_call 12; (with_reducible refine (refenergy_any a L _ _ HT.out (HL.out.grow hB3)).mono ?_); rintro e w4 ⟨rfl, hb4⟩; rw [HX.out, HY.out]; have hB4 := hB3.trans (hb4.mono hB3.size))
            | (go_at_call 13; (with_reducible refine (refgiven_any a sa L S _ _ _ _ hl hls (HL.out.grow hB4) (HS.out.grow hB4)).mono ?_); rintro e w' ⟨rfl, rfl⟩; rw [HE.out])
            | (go_at_call 14; (with_reducible refine (refprofile_any a sa L S _ _ _ hls HE.out (HL.out.grow hB4) (HS.out.grow hB4)).mono ?_); rintro e w5 ⟨v', u', rfl, hv, hu, hb5⟩; obtain ⟨av', cv', rfl, _, _, _, hv⟩ := load_of_row hv; obtain ⟨au', cu', rfl, _, _, _, hu⟩ := load_of_row hu; have HV5 := Lib.hid hv; have HU5 := Lib.hid hu; clear hv hu; have hB5 := hB4.trans (hb5.mono hB4.size); have hC5 := hb3.trans ((hb4.mono hb3.size).trans (hb5.mono (Nat.le_trans hb3.size hb4.size))))
            | (go_at_call 15; first
                | (with_reducible refine (load_equal_self _ _ (profL TaskR.crew L S) _ _ _ n1 (HV.out.grow hC5) HV5.out).mono ?_); rintro e w6 ⟨rfl, hb6⟩; have hB6 := hB5.trans (hb6.mono hB5.size); have hC6 := hC5.trans (hb6.mono hC5.size)
                | (with_reducible refine (load_equal_self _ _ (profL TaskR.power L S) _ _ _ n2 (HU.out.grow hC6) (HU5.out.grow hb6)).mono ?_); rintro e w7 ⟨rfl, hb7⟩; have hB7 := hB6.trans (hb7.mono hB6.size)))
          go_ret
          exact ⟨rfl, hB7⟩
        · obtain ⟨g, hg⟩ : ∃ g, profE L S = g := ⟨_, rfl⟩
          have HE := Lib.hid hg
          have HP1 : Hid (profL TaskR.crew L S = []) := Lib.hid (by unfold profL; rw [if_neg he])
          have HP2 : Hid (profL TaskR.power L S = []) := Lib.hid (by unfold profL; rw [if_neg he])
          rw [hg] at he
          have z3 : (g != 0) = true := bne_iff_ne.2 he
          have z4 : (g == g) = true := beq_self_eq_true _
          clear he hg n1 n2
          go_enter Try.func3, Try.ntmps3
          go_wp2_with (first
            | (go_at_call 8; (with_reducible refine (awake_any _).mono ?_); rintro e w1 ⟨rfl, hB1⟩)
            | (go_at_call 9; (with_reducible refine (profile_any a sa L S _ _ _ hl hls (HL.out.grow hB1) (HS.out.grow hB1)).mono ?_); rintro e w2 ⟨v, u, rfl, hv, hu, hb2⟩; rw [HP1.out] at hv; rw [HP2.out] at hu; rw [HE.out]; obtain ⟨av, cv, rfl, _, _, _, _⟩ := load_of_row hv; obtain ⟨au, cu, rfl, _, _, _, _⟩ := load_of_row hu; clear hv hu; have hB2 := hB1.trans (hb2.mono hB1.size))
            | (go_at_call 10; (with_reducible refine (energy_any a L _ _ hl (HL.out.grow hB2)).mono ?_); rintro e w3 ⟨he, hb3⟩; rw [HT.out, HX.out, HY.out] at he; obtain rfl := he; have hB3 := hB2.trans (hb3.mono hB2.size))
            | (go_at_call 11; (with_reducible refine (reftasks_any a L _ _ _ hl (HL.out.grow hB3)).mono ?_); rintro e w' ⟨rfl, rfl⟩; rw [HT.out])
            | (go_at_call 12; (with_reducible refine (refenergy_any a L _ _ HT.out (HL.out.grow hB3)).mono ?_); rintro e w4 ⟨rfl, hb4⟩; rw [HX.out, HY.out]; have hB4 := hB3.trans (hb4.mono hB3.size))
            | (go_at_call 13; (with_reducible refine (refgiven_any a sa L S _ _ _ _ hl hls (HL.out.grow hB4) (HS.out.grow hB4)).mono ?_); rintro e w' ⟨rfl, rfl⟩; rw [HE.out]))
          go_ret
          exact ⟨rfl, hB4⟩
    · have b2 : decide ((100 : Int) < (S.length : Int)) = true := decide_eq_true (by omega)
      clear q1 q2
      go_enter Try.func3, Try.ntmps3
      go_wp2_with (go_at_call 8; (with_reducible refine (awake_any _).mono ?_); rintro e w1 ⟨rfl, hB1⟩)
      go_ret
      exact ⟨rfl, hB1⟩
  · have b1 : decide ((70 : Int) < (L.length : Int)) = true := decide_eq_true (by omega)
    clear q1
    go_enter Try.func3, Try.ntmps3
    go_wp2_with (go_at_call 8; (with_reducible refine (awake_any _).mono ?_); rintro e w1 ⟨rfl, hB1⟩)
    go_ret
    exact ⟨rfl, hB1⟩
end Go.Proofs.Ytlnodjcmdnmnlaa
