/-
  THE WALK of the program's steps (package resources).
-/
import Derived.Test.YtlnodjcmdnmnlaaRefSteps
import Derived.Test.YtlnodjcmdnmnlaaSortW
import Derived.Outline
namespace Go.Proofs.Ytlnodjcmdnmnlaa
open Go.RowKit Go.Shelf

theorem nums_of_row {w : World} {base n cap : Nat} {a : Option Addr} {X : List Int} (h : w.ownsRow base 3 1 (.slice a n cap) n (nflat X)) (hl : X.length = n) : Nums w.heap.size w a X := by
  subst hl
  obtain ⟨a', c', e, _, _, _, hf⟩ := num_of_row h
  cases e
  exact hf
theorem compact_n {w : World} {base g cap n : Nat} {L : List Int} (h : w.ownsRow base 3 1 (.slice (some ⟨g, 0, none⟩) L.length cap) L.length (nflat L)) (hn : n = L.length) (hl : L.length ≤ 1000000) :
    Calls Try.prog 35 #[.slice (some ⟨g, 0, none⟩) n cap] w fun e w' => e = .returned (.slice (some ⟨g, 0, none⟩) (Go.Lib.compact L).length cap) ∧ w'.ownsRow base 3 1 (.slice (some ⟨g, 0, none⟩) (Go.Lib.compact L).length cap) (Go.Lib.compact L).length (nflat (Go.Lib.compact L)) ∧ w.grownBy w' (some g) := by
  subst hn
  exact compact_own h hl
set_option maxRecDepth 100000 in
set_option maxHeartbeats 16000000 in
theorem steps_any (a : Option Addr) (U : UseL) (cap : Nat) (w : World) (hl : U.length ≤ 1000) (hB : UseB U) (hU : Uses w.heap.size w a U) :
    Calls Try.prog 28 #[.slice a U.length cap] w fun e w' => Hid (∃ v, e = .returned v ∧ w'.ownsRow w.heap.size 39 2 v (stepsP U).length (oflat (stepsP U)) ∧ Below w.heap.size w w') := by
  have HU := Lib.hid hU
  have HBB : Hid (∀ k, k < U.length → -1099511627776 ≤ (ug U k).2.2 ∧ (ug U k).2.2 ≤ 1099511627776) := Lib.hid hB
  have HSB : Hid (∀ t k, k ≤ U.length → -1099511627776 * (k : Int) ≤ sumTo U t k ∧ sumTo U t k ≤ 1099511627776 * (k : Int)) := Lib.hid (sumTo_b hB)
  have HTL := times_len U
  have hpos := times_pos U
  have hel := endsTo_len U
  obtain ⟨E, hE⟩ : ∃ E, endsTo U U.length = E := ⟨_, rfl⟩
  have HEL : Hid (endsTo U U.length = E) := Lib.hid hE
  have hElen : E.length ≤ 2001 := by have := (hel U.length).1; rw [hE] at this; omega
  have hEpos : 0 < E.length := by have := (hel U.length).2; rw [hE] at this; omega
  have HENDS := Lib.hid hel
  obtain ⟨T, hT⟩ : ∃ T, timesP U = T := ⟨_, rfl⟩
  have HTE : Hid (Go.Lib.compact (sortI E) = T) := Lib.hid (by rw [← hE]; exact hT)
  have HSU : Hid (∀ k, k < T.length → stepsK U (k + 1) = addS U (stepsK U k) (ig T k)) := Lib.hid (by rw [← hT]; exact stepsK_succ U)
  have HSL : Hid (∀ k, k ≤ T.length → (stepsK U k).length ≤ k) := Lib.hid (by rw [← hT]; exact stepsK_len U)
  have HALL : Hid (stepsK U T.length = stepsP U) := Lib.hid (by rw [← hT]; exact stepsK_all U)
  rw [hT] at HTL hpos
  have hTle : T.length ≤ 2001 := by omega
  clear hU hB hT HTL hel hE
  go_enter Try.func28, Try.ntmps28
  go_wp2_with fail
  have HR0 : Hid ((w.alloc (.cells #[.int .i64 0] 3)).ownsRow w.heap.size 3 1 (.slice (some ⟨w.heap.size, 0, none⟩) 1 1) (endsTo U 0).length (nflat (endsTo U 0))) := Lib.hid (World.ownsRow_lit w #[.int .i64 0] 1 (Nat.le_refl _) (by unfold maxLen; omega) rfl)
  have hb0 := below_new w (.cells #[.int .i64 0] 3)
  go_loopw [3, 15] (fun v i wr => ∃ k : Nat, k ≤ U.length ∧ i = .int .i64 k ∧ Below w.heap.size w wr ∧ Hid (wr.ownsRow w.heap.size 3 1 v (endsTo U k).length (nflat (endsTo U k)))) (fun _ i _ => U.length - (intOf i).toNat)
  case atStart => exact ⟨0, Nat.zero_le _, rfl, hb0, HR0⟩
  case round =>
    clear hb0 HR0
    obtain ⟨k, hk, rfl, hB, HR⟩ := hrel
    have hbs := hB.size
    by_cases hlt : k < U.length
    · obtain ⟨b, off, rfl, hb, hc⟩ := HU.out (by omega)
      obtain ⟨c0, c1, c2⟩ := hc k hlt
      have d0 := (hB.cell (p := ⟨b, off + k * 3, none⟩) hb).trans c0
      have d1 := (hB.cell (p := ⟨b, off + k * 3 + 1, none⟩) hb).trans c1
      have d2 := (hB.cell (p := ⟨b, off + k * 3 + 2, none⟩) hb).trans c2
      have HEK : Hid ((endsTo U k).length ≤ 1000000) := Lib.hid (by have := (HENDS.out k).1; omega)
      clear hc c0 c1 c2
      by_cases p : (ug U k).1 < (ug U k).2.1
      · have HS : Hid (endsTo U (k + 1) = endsTo U k ++ [(ug U k).1, (ug U k).2.1]) := Lib.hid (by simp only [endsTo]; rw [if_pos p])
        go_wp2_with (at_builtin; refine num_append2 rfl _ _ rfl w.heap.size _ (endsTo U k) rfl ((HR.out.alloc (.cells #[.int .i64 (ug U k).1, .int .i64 (ug U k).2.1, .int .i64 (ug U k).2.2] 60)).alloc _) _ (ug U k).1 (ug U k).2.1 rfl (by simp) HEK.out (by first | omega | (simp; omega)) ?_; intro v5 w5 hown5 hg5; have hBn : Below w.heap.size w w5 := grown_own ((HR.out.alloc (.cells #[.int .i64 (ug U k).1, .int .i64 (ug U k).2.1, .int .i64 (ug U k).2.2] 60)).alloc (.cells #[.int .i64 (ug U k).1, .int .i64 (ug U k).2.1] 3)) hg5 ((hB.alloc hbs (.cells #[.int .i64 (ug U k).1, .int .i64 (ug U k).2.1, .int .i64 (ug U k).2.2] 60)).alloc (by first | omega | (simp; omega)) _) (by first | omega | (simp; omega)) (Nat.le_refl _))
        go_roundw
        case rel => exact ⟨k + 1, by omega, by go_num, hBn, Lib.hid (by rw [HS.out]; exact hown5)⟩
        case measure => simp [intOf]; omega
      · have HS : Hid (endsTo U (k + 1) = endsTo U k) := Lib.hid (by simp only [endsTo]; rw [if_neg p])
        go_wp2_with fail
        go_roundw
        case rel => exact ⟨k + 1, by omega, by go_num, hB.alloc hbs _, Lib.hid (by rw [HS.out]; exact HR.out.alloc _)⟩
        case measure => simp [intOf]; omega
    · obtain rfl : k = U.length := by omega
      have hr := HR.out
      rw [HEL.out] at hr
      obtain ⟨ea, ec, rfl, _, _, _, _⟩ := num_of_row hr
      obtain ⟨g, rfl, hg1, hg2⟩ := row_addr hr hEpos
      have HRE := Lib.hid hr
      clear hr HR hlt hk
      go_wp2_with (first
        | (go_at_call 34; (with_reducible refine (sort_own HRE.out (by omega)).mono ?_); rintro e w2 ⟨rfl, hs2, hgr2⟩; have hr2 : w2.ownsRow w.heap.size 3 1 (.slice (some ⟨g, 0, none⟩) (sortI E).length ec) (sortI E).length (nflat (sortI E)) := (by rw [sortI_len]; exact hs2); have hB2 := hB.grown hgr2 hbs (fun k e => by cases e; exact hg1); have HR2 := Lib.hid hr2; clear hs2 hgr2 hr2)
        | (go_at_call 35; (with_reducible refine (compact_n HR2.out (sortI_len E).symm (by rw [sortI_len]; omega)).mono ?_); rintro e w3 ⟨rfl, hs3, hgr3⟩; rw [HTE.out] at hs3; rw [HTE.out]; have hB3 := hB2.grown hgr3 hB2.size (fun k e => by cases e; exact hg1); have HR3 := Lib.hid hs3; clear hs3 hgr3))
      have HNT := Lib.hid (nums_of_row HR3.out rfl)
      have hbs3 := hB3.size
      clear HRE HR2 hB2 hB hbs
      go_loopw [6, 37] (fun v i wr => ∃ k : Nat, k ≤ T.length ∧ i = .int .i64 k ∧ Below w3.heap.size w3 wr ∧ Hid (wr.ownsRow w3.heap.size 39 2 v (stepsK U k).length (oflat (stepsK U k)))) (fun _ i _ => T.length - (intOf i).toNat)
      case atStart => exact ⟨0, Nat.zero_le _, rfl, Below.refl _ _, Lib.hid (World.ownsRow_nil _ _ _ _)⟩
      case round =>
        obtain ⟨k, hk, rfl, hC, HR⟩ := hrel
        have hcs := hC.size
        have hsl := HSL.out k hk
        by_cases hlt : k < T.length
        · obtain ⟨tb, to, e, htb, htc⟩ := HNT.out hpos
          cases e
          have t0 := (hC.cell (p := ⟨g, 0 + k, none⟩) htb).trans (htc k hlt)
          rw [Nat.zero_add] at t0
          have HSU1 := Lib.hid (HSU.out k hlt)
          generalize ig T k = t at *
          clear htc
          go_wp2_with fail
          obtain ⟨wo, rfl⟩ : ∃ wo : World, wo = wr := ⟨_, rfl⟩
          have HST0 : Hid (sumTo U t 0 = 0) := Lib.hid rfl
          go_loopw [9, 43] (fun s i wr => ∃ j : Nat, j ≤ U.length ∧ i = .int .i64 j ∧ s = .int .i64 (sumTo U t j) ∧ Below wo.heap.size wo wr) (fun _ i _ => U.length - (intOf i).toNat)
          case atStart => exact ⟨0, Nat.zero_le _, rfl, rfl, Below.refl _ _⟩
          case round =>
            obtain ⟨j, hj, rfl, rfl, hD⟩ := hrel
            obtain ⟨b1, b2⟩ := HSB.out t j hj
            have hds := hD.size
            have hE : Below w.heap.size w wr := hB3.trans ((hC.trans (hD.mono hcs)).mono hbs3)
            by_cases hlt2 : j < U.length
            · obtain ⟨b, off, rfl, hb, hc⟩ := HU.out (by omega)
              obtain ⟨c0, c1, c2⟩ := hc j hlt2
              have d0 := (hE.cell (p := ⟨b, off + j * 3, none⟩) hb).trans c0
              have d1 := (hE.cell (p := ⟨b, off + j * 3 + 1, none⟩) hb).trans c1
              have d2 := (hE.cell (p := ⟨b, off + j * 3 + 2, none⟩) hb).trans c2
              obtain ⟨b3, b4⟩ := HBB.out j hlt2
              clear hc c0 c1 c2
              by_cases p1 : (ug U j).1 ≤ t
              · by_cases p2 : t < (ug U j).2.1
                · have HS : Hid (sumTo U t (j + 1) = sumTo U t j + (ug U j).2.2) := Lib.hid (by simp only [sumTo]; rw [if_pos ⟨p1, p2⟩])
                  go_wp2_with fail
                  go_roundw
                  case rel => exact ⟨j + 1, by omega, by go_num, by rw [HS.out], hD.alloc hds _⟩
                  case measure => simp [intOf]; omega
                · have HS : Hid (sumTo U t (j + 1) = sumTo U t j) := Lib.hid (by simp only [sumTo]; rw [if_neg (fun h => p2 h.2)]; omega)
                  go_wp2_with fail
                  go_roundw
                  case rel => exact ⟨j + 1, by omega, by go_num, by rw [HS.out], hD.alloc hds _⟩
                  case measure => simp [intOf]; omega
              · have HS : Hid (sumTo U t (j + 1) = sumTo U t j) := Lib.hid (by simp only [sumTo]; rw [if_neg (fun h => p1 h.1)]; omega)
                go_wp2_with fail
                go_roundw
                case rel => exact ⟨j + 1, by omega, by go_num, by rw [HS.out], hD.alloc hds _⟩
                case measure => simp [intOf]; omega
            · obtain rfl : j = U.length := by omega
              have hC2 : Below w3.heap.size w3 wr := hC.trans (hD.mono hcs)
              have HR2 := Lib.hid (ownsRow_below HR.out hD)
              have hc2s := hC2.size
              have HSA : Hid (sumTo U t U.length = sumAt U t) := Lib.hid rfl
              obtain ⟨s, hs⟩ : ∃ s, sumTo U t U.length = s := ⟨_, rfl⟩
              rw [hs] at HSA
              obtain ⟨out, ho⟩ : ∃ out, stepsK U k = out := ⟨_, rfl⟩
              rw [ho] at HR2 HSU1 hsl
              rw [hs]
              clear ho hs b1 b2 HR
              by_cases h0 : out.length = 0
              · have HS : Hid (stepsK U (k + 1) = out ++ [(t, s)]) := Lib.hid (by rw [HSU1.out, HSA.out]; exact addS_first h0)
                obtain ⟨sa, sc, rfl, _, _, _, _⟩ := load_of_row HR2.out
                have g0 : ((out.length : Int) == 0) = true := beq_iff_eq.2 (by omega)
                clear h0
                go_wp2_with (at_builtin; refine load_append rfl _ _ rfl w3.heap.size _ out rfl (HR2.out.alloc _) _ (t, s) rfl (by simp) (by omega) (by first | omega | (simp; omega)) ?_; intro v5 w5 hown5 hg5; have hBn : Below w3.heap.size w3 w5 := grown_own (HR2.out.alloc (.cells #[.int .i64 t, .int .i64 s] 39)) hg5 (hC2.alloc hc2s _) (by first | omega | (simp; omega)) (Nat.le_refl _))
                go_roundw
                case rel => exact ⟨k + 1, by omega, by go_num, hBn, Lib.hid (by rw [HS.out]; exact hown5)⟩
                case measure => simp [intOf]; omega
              · obtain ⟨sa, sc, rfl, _, _, _, _⟩ := load_of_row HR2.out
                obtain ⟨g6, rfl, hg61, hg62⟩ := row_addr HR2.out (by omega)
                have g0 : ((out.length : Int) == 0) = false := beq_eq_false_iff_ne.2 (by omega)
                have o1 : wr.cell? ⟨g6, (out.length - 1) * 2 + 1, none⟩ = some (.int .i64 (og out (out.length - 1)).2) := by rw [HR2.out.cellAt _ (by omega)]; exact (oflat_at out _ (by omega)).2
                by_cases q : (og out (out.length - 1)).2 = s
                · have HS : Hid (stepsK U (k + 1) = out) := Lib.hid (by rw [HSU1.out]; exact addS_same (by omega) (by rw [← HSA.out]; exact q))
                  rw [q] at o1
                  have q1 : (s != s) = false := bne_self_eq_false _
                  clear q
                  go_wp2_with fail
                  go_roundw
                  case rel => exact ⟨k + 1, by omega, by go_num, hC2, Lib.hid (by rw [HS.out]; exact HR2.out)⟩
                  case measure => simp [intOf]; omega
                · have HS : Hid (stepsK U (k + 1) = out ++ [(t, s)]) := Lib.hid (by rw [HSU1.out, HSA.out]; exact addS_more (by rw [← HSA.out]; exact q))
                  have q1 : ((og out (out.length - 1)).2 != s) = true := bne_iff_ne.2 q
                  clear q
                  go_wp2_with (at_builtin; refine load_append rfl _ _ rfl w3.heap.size _ out rfl (HR2.out.alloc _) _ (t, s) rfl (by simp) (by omega) (by first | omega | (simp; omega)) ?_; intro v5 w5 hown5 hg5; have hBn : Below w3.heap.size w3 w5 := grown_own (HR2.out.alloc (.cells #[.int .i64 t, .int .i64 s] 39)) hg5 (hC2.alloc hc2s _) (by first | omega | (simp; omega)) (Nat.le_refl _))
                  go_roundw
                  case rel => exact ⟨k + 1, by omega, by go_num, hBn, Lib.hid (by rw [HS.out]; exact hown5)⟩
                  case measure => simp [intOf]; omega
        · obtain rfl : k = T.length := by omega
          go_wp2_with fail
          go_ret
          exact Lib.hid ⟨_, rfl, ownsRow_base (by rw [← HALL.out]; exact HR.out) hbs3, hB3.trans (hC.mono hbs3)⟩
end Go.Proofs.Ytlnodjcmdnmnlaa
