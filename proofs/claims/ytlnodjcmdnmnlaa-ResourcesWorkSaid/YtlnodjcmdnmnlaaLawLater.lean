/-
  THE WALK of the law ResourcesLater.
-/
import Derived.Test.YtlnodjcmdnmnlaaLaterP
import Derived.Test.YtlnodjcmdnmnlaaLawTasks
import Derived.IntWalk
namespace Go.Proofs.Ytlnodjcmdnmnlaa
open Go.RowKit Go.Shelf

theorem refgiven_n (a sa : Option Addr) (L : List TaskR) (S : List Int) (cap sc sn : Nat) (n₀ : Nat) (w : World) (hsn : sn = S.length) (hl : L.length ≤ 1000) (hL : Tasks n₀ w a L) (hS : Nums n₀ w sa S) :
    Calls Try.prog 13 #[.slice a L.length cap, .slice sa sn sc] w fun e w' => e = .returned (.int .i64 (profE L S)) ∧ w = w' := by
  subst hsn
  by_cases hn : S.length = L.length
  · exact refgiven_any a sa L S cap sc n₀ w hl (by omega) hL hS
  · have q1 : ((S.length : Int) != (L.length : Int)) = true := bne_iff_ne.2 (by omega)
    have HL := Lib.hid hL
    clear hL hS
    cases ht : tasksB L
    · have HT := Lib.hid ht
      have HE : Hid (profE L S = 1) := Lib.hid (by unfold profE; rw [ht]; rfl)
      clear ht hn
      go_enter Try.func13, Try.ntmps13
      go_wp2_with (go_at_call 11; (with_reducible refine (reftasks_any _ L _ _ _ (by omega) HL.out).mono ?_); rintro e w' ⟨rfl, rfl⟩; rw [HT.out])
      go_ret
      exact ⟨ret_int HE.out.symm, rfl⟩
    · have HT := Lib.hid ht
      have HE : Hid (profE L S = 3) := Lib.hid (by unfold profE; rw [ht, if_pos rfl, if_neg hn])
      clear ht hn
      go_enter Try.func13, Try.ntmps13
      go_wp2_with (go_at_call 11; (with_reducible refine (reftasks_any _ L _ _ _ (by omega) HL.out).mono ?_); rintro e w' ⟨rfl, rfl⟩; rw [HT.out])
      go_ret
      exact ⟨ret_int HE.out.symm, rfl⟩
theorem profile_n (a sa : Option Addr) (L : List TaskR) (S : List Int) (cap sc sn : Nat) (w : World) (hsn : sn = S.length) (hl : L.length ≤ 1000) (hls : sn ≤ 1000) (hL : Tasks w.heap.size w a L) (hS : Nums w.heap.size w sa S) :
    Calls Try.prog 9 #[.slice a L.length cap, .slice sa sn sc] w fun e w' => Hid (∃ v u, e = .returned (.tuple #[v, u, .int .i64 (profE L S)]) ∧ w'.ownsRow w.heap.size 39 2 v (profL TaskR.crew L S).length (oflat (profL TaskR.crew L S)) ∧ w'.ownsRow w.heap.size 39 2 u (profL TaskR.power L S).length (oflat (profL TaskR.power L S)) ∧ Below w.heap.size w w') := by
  subst hsn
  exact profile_any a sa L S cap sc w hl hls hL hS
/-- What the law asks of two profiles, the second of starts that are all later. -/
theorem later_facts {L : List TaskR} {S : List Int} {b t : Int} (hb : 0 ≤ b) (ht : 0 ≤ t) (he : profE L S = 0) (he' : profE L (allBy b S) = 0) :
    ∃ m x y p q, peakP (profL TaskR.crew L S) = (m, x, 0) ∧ peakP (profL TaskR.crew L (allBy b S)) = (m, y, 0) ∧ toldP (profL TaskR.crew L S) t = p ∧ toldP (profL TaskR.crew L (allBy b S)) (t + b) = p ∧ toldP (profL TaskR.power L S) t = q ∧ toldP (profL TaskR.power L (allBy b S)) (t + b) = q ∧ (0 < b → toldP (profL TaskR.crew L (allBy b S)) (b - 1) = 0) := by
  obtain ⟨htk, hn, hs⟩ := profE_ok he
  obtain ⟨_, hn', hs'⟩ := profE_ok he'
  obtain ⟨h60, hok⟩ := tasks_ok htk
  have e : ∀ f, profL f L S = stepsP (usesTo f L S L.length) := fun f => by unfold profL; rw [if_pos he]
  have e' : ∀ f, profL f L (allBy b S) = stepsP (usesTo f L (allBy b S) L.length) := fun f => by unfold profL; rw [if_pos he']
  have u := fun f => uses_ok f htk hn hs
  have u' := fun f => uses_ok f htk hn' hs'
  have l := fun f => later_uses f L S b hn
  have v := prof_valid TaskR.crew (fun k hk => (hok k hk).2.1) he
  have v' := prof_valid TaskR.crew (fun k hk => (hok k hk).2.1) he'
  have pk := peak_later hb (u TaskR.crew) (u' TaskR.crew) (l TaskR.crew) v v'
  rw [e, e', e, e']
  refine ⟨(peakP (stepsP (usesTo TaskR.crew L S L.length))).1, (peakP (stepsP (usesTo TaskR.crew L S L.length))).2.1, (peakP (stepsP (usesTo TaskR.crew L (allBy b S) L.length))).2.1, _, _, ?_, ?_, rfl, told_later hb (u _) (u' _) (l _) t ht, rfl, told_later hb (u _) (u' _) (l _) t ht, fun h => told_ahead h (u _) (u' _) (l _)⟩
  · unfold peakP; rw [v]; rfl
  · rw [← pk]; unfold peakP; rw [v']; rfl
set_option maxRecDepth 100000 in
set_option maxHeartbeats 16000000 in
theorem lawlater_law (a sa : Option Addr) (L : List TaskR) (S : List Int) (b t : Int) (cap sc : Nat) (w : World) (hb0 : 0 ≤ b) (hb1 : b ≤ 65535) (ht0 : 0 ≤ t) (ht1 : t ≤ 4294967295) (hsn : sa = none → sc = 0) (hL : Tasks w.heap.size w a L) (hS : Nums w.heap.size w sa S) :
    Calls Try.prog 5 #[.slice a L.length cap, .slice sa S.length sc, .int .u16 b, .int .u32 t] w fun e w' => e = .returned (.bool true) ∧ Below w.heap.size w w' := by
  have HL := Lib.hid hL
  have HS := Lib.hid hS
  clear hL hS
  by_cases q1 : L.length ≤ 30
  · have b1 : decide ((30 : Int) < (L.length : Int)) = false := decide_eq_false (by omega)
    have hl : L.length ≤ 1000 := by omega
    by_cases he : profE L S = 0
    · have HE := Lib.hid he
      obtain ⟨_, hn, hs⟩ := profE_ok he
      have hs30 : S.length ≤ 30 := by omega
      have HSB : Hid (∀ k, k < S.length → 0 ≤ ig S k ∧ ig S k ≤ 1000000) := Lib.hid (starts_ok hs)
      have n1 := profL_len TaskR.crew S (show L.length ≤ 70 by omega)
      have n2 := profL_len TaskR.power S (show L.length ≤ 70 by omega)
      have n3 := profL_len TaskR.crew (allBy b S) (show L.length ≤ 70 by omega)
      have n4 := profL_len TaskR.power (allBy b S) (show L.length ≤ 70 by omega)
      clear he hn hs q1
      go_enter Try.func5, Try.ntmps5
      go_wp2_with (first
        | (go_at_call 8; (with_reducible refine (awake_any _).mono ?_); rintro e w1 ⟨rfl, hB1⟩)
        | (go_at_call 13; (with_reducible refine (refgiven_n a sa L S _ _ _ _ _ rfl hl (HL.out.grow hB1) (HS.out.grow hB1)).mono ?_); rintro e w' ⟨rfl, rfl⟩; rw [HE.out])
        | (go_at_call 19; (with_reducible refine (num_clone sa S sc _ (by omega) hsn (HS.out.grow hB1)).mono ?_); rintro e w4 hx; obtain ⟨v4, rfl, hr4, hb4⟩ := hx.out; obtain ⟨a4, c4, rfl, _, _, _, _⟩ := num_of_row hr4; have HR4 := Lib.hid hr4; clear hx hr4))
      go_loopw [38] (fun v wr => ∃ j : Nat, j ≤ S.length ∧ v = .int .i64 j ∧ Hid (wr.ownsRow w1.heap.size 3 1 (.slice a4 S.length c4) S.length (nflat (partBy b S j))) ∧ Below w1.heap.size w1 wr) (fun v _ => S.length - (intOf v).toNat)
      case atStart => exact ⟨0, Nat.zero_le _, rfl, Lib.hid (by rw [partBy_zero]; exact HR4.out), hb4⟩
      case round =>
        clear HR4 hb4
        obtain ⟨j, hj, rfl, HR, hC⟩ := hrel
        have hB : Below w.heap.size w wr := hB1.trans (hC.mono hB1.size)
        by_cases hlt : j < S.length
        · obtain ⟨g, rfl, hg1, hg2⟩ := row_addr HR.out (by omega)
          have o1 : wr.cell? ⟨g, j, none⟩ = some (.int .i64 (ig S j)) := by rw [HR.out.cellAt j (by omega), nflat_at _ _ (by rw [partBy_len]; exact hlt), partBy_at _ _ _ _ hlt, if_neg (by omega)]
          have o2 := HR.out.frozenAt j
          obtain ⟨s1, s2⟩ := HSB.out j hlt
          have HST : Hid ((wr.setCell ⟨g, j, none⟩ (.int .i64 (ig S j + b))).ownsRow w1.heap.size 3 1 (.slice (some ⟨g, 0, none⟩) S.length c4) S.length (nflat (partBy b S (j + 1)))) := Lib.hid (by rw [partBy_set _ _ _ hlt, ← nflat_set]; exact (HR.out.stored j _).1)
          go_wp2_with fail
          go_roundw
          case rel => exact ⟨j + 1, by omega, by go_num, HST, hC.setCell hg1 _⟩
          case measure => simp [intOf]; omega
        · obtain rfl : j = S.length := by omega
          have HG5 : Hid (Nums wr.heap.size wr a4 (allBy b S)) := Lib.hid (nums_of_row (by rw [← partBy_all]; exact HR.out) (allBy_len _ _))
          clear HR hlt hj
          by_cases he' : profE L (allBy b S) = 0
          · obtain ⟨m, x, y, p, q, f1, f2, f3, f4, f5, f6, f7⟩ := later_facts hb0 ht0 HE.out he'
            have HE' := Lib.hid he'
            have F1 := Lib.hid f1
            have F2 := Lib.hid f2
            have F3 := Lib.hid f3
            have F4 := Lib.hid f4
            have F5 := Lib.hid f5
            have F6 := Lib.hid f6
            have z1 : (m == m) = true := beq_self_eq_true _
            have z2 : (p == p) = true := beq_self_eq_true _
            have z3 : (q == q) = true := beq_self_eq_true _
            clear f1 f2 f3 f4 f5 f6 he'
            by_cases hz : b = 0
            · have z4 : (b == 0) = true := beq_iff_eq.2 hz
              clear f7 hz
              go_wp2_with (first
                | (go_at_call 13; (with_reducible refine (refgiven_n a a4 L (allBy b S) _ _ _ _ _ (allBy_len _ _).symm hl (HL.out.grow hB) HG5.out).mono ?_); rintro e w' ⟨rfl, rfl⟩; rw [HE'.out])
                | (go_at_call 9; first
                    | (with_reducible refine (profile_n a sa L S _ _ _ _ rfl hl (by omega) (HL.out.grow hB) (HS.out.grow hB)).mono ?_); rintro e w5 ⟨v, u, rfl, hv, hu, hb5⟩; rw [HE.out]; obtain ⟨av, cv, rfl, _, _, _, hv⟩ := load_of_row hv; obtain ⟨au, cu, rfl, _, _, _, hu⟩ := load_of_row hu; have HVA := Lib.hid hv; have HVB := Lib.hid hu; clear hv hu; have hB5 := hB.trans (hb5.mono hB.size)
                    | (with_reducible refine (profile_n a a4 L (allBy b S) _ _ _ _ (allBy_len _ _).symm hl (by omega) (HL.out.grow hB5) (HG5.out.grow hb5)).mono ?_); rintro e w6 ⟨v', u', rfl, hv, hu, hb6⟩; rw [HE'.out]; obtain ⟨av', cv', rfl, _, _, _, hv⟩ := load_of_row hv; obtain ⟨au', cu', rfl, _, _, _, hu⟩ := load_of_row hu; have HVC := Lib.hid hv; have HVD := Lib.hid hu; clear hv hu; have hB6 := hB5.trans (hb6.mono hB5.size))
                | (go_at_call 20; first
                    | (with_reducible refine (peak_any _ (profL TaskR.crew L S) _ _ (by omega) (HVA.out.grow hb6)).mono ?_); rintro e w7 ⟨rfl, hb7⟩; rw [F1.out]; have hB7 := hB6.trans (hb7.mono hB6.size); have hD7 := hb6.trans (hb7.mono hb6.size)
                    | (with_reducible refine (peak_any _ (profL TaskR.crew L (allBy b S)) _ _ (by omega) (HVC.out.grow hb7)).mono ?_); rintro e w8 ⟨rfl, hb8⟩; rw [F2.out]; have hB8 := hB7.trans (hb8.mono hB7.size); have hD8 := hD7.trans (hb8.mono hD7.size); have hE8 := hb7.trans (hb8.mono hb7.size))
                | (go_at_call 18; first
                    | (with_reducible refine (told_any _ (profL TaskR.crew L S) _ t _ (by omega) (HVA.out.grow hD8)).mono ?_); rintro e w9 ⟨rfl, hb9⟩; rw [F3.out]; have hB9 := hB8.trans (hb9.mono hB8.size); have hD9 := hD8.trans (hb9.mono hD8.size); have hE9 := hE8.trans (hb9.mono hE8.size)
                    | (with_reducible refine (told_any _ (profL TaskR.crew L (allBy b S)) _ (t + b) _ (by omega) (HVC.out.grow hE9)).mono ?_); rintro e w10 ⟨rfl, hb10⟩; rw [F4.out]; have hB10 := hB9.trans (hb10.mono hB9.size); have hD10 := hD9.trans (hb10.mono hD9.size); have hE10 := hE9.trans (hb10.mono hE9.size)
                    | (with_reducible refine (told_any _ (profL TaskR.power L S) _ t _ (by omega) (HVB.out.grow hD10)).mono ?_); rintro e w11 ⟨rfl, hb11⟩; rw [F5.out]; have hB11 := hB10.trans (hb11.mono hB10.size); have hE11 := hE10.trans (hb11.mono hE10.size)
                    | (with_reducible refine (told_any _ (profL TaskR.power L (allBy b S)) _ (t + b) _ (by omega) (HVD.out.grow hE11)).mono ?_); rintro e w12 ⟨rfl, hb12⟩; rw [F6.out]; have hB12 := hB11.trans (hb12.mono hB11.size)))
              go_ret
              exact ⟨rfl, hB12⟩
            · have z4 : (b == 0) = false := beq_eq_false_iff_ne.2 hz
              have F7 := Lib.hid (f7 (by omega))
              clear f7
              go_wp2_with (first
                | (go_at_call 13; (with_reducible refine (refgiven_n a a4 L (allBy b S) _ _ _ _ _ (allBy_len _ _).symm hl (HL.out.grow hB) HG5.out).mono ?_); rintro e w' ⟨rfl, rfl⟩; rw [HE'.out])
                | (go_at_call 9; first
                    | (with_reducible refine (profile_n a sa L S _ _ _ _ rfl hl (by omega) (HL.out.grow hB) (HS.out.grow hB)).mono ?_); rintro e w5 ⟨v, u, rfl, hv, hu, hb5⟩; rw [HE.out]; obtain ⟨av, cv, rfl, _, _, _, hv⟩ := load_of_row hv; obtain ⟨au, cu, rfl, _, _, _, hu⟩ := load_of_row hu; have HVA := Lib.hid hv; have HVB := Lib.hid hu; clear hv hu; have hB5 := hB.trans (hb5.mono hB.size)
                    | (with_reducible refine (profile_n a a4 L (allBy b S) _ _ _ _ (allBy_len _ _).symm hl (by omega) (HL.out.grow hB5) (HG5.out.grow hb5)).mono ?_); rintro e w6 ⟨v', u', rfl, hv, hu, hb6⟩; rw [HE'.out]; obtain ⟨av', cv', rfl, _, _, _, hv⟩ := load_of_row hv; obtain ⟨au', cu', rfl, _, _, _, hu⟩ := load_of_row hu; have HVC := Lib.hid hv; have HVD := Lib.hid hu; clear hv hu; have hB6 := hB5.trans (hb6.mono hB5.size))
                | (go_at_call 20; first
                    | (with_reducible refine (peak_any _ (profL TaskR.crew L S) _ _ (by omega) (HVA.out.grow hb6)).mono ?_); rintro e w7 ⟨rfl, hb7⟩; rw [F1.out]; have hB7 := hB6.trans (hb7.mono hB6.size); have hD7 := hb6.trans (hb7.mono hb6.size)
                    | (with_reducible refine (peak_any _ (profL TaskR.crew L (allBy b S)) _ _ (by omega) (HVC.out.grow hb7)).mono ?_); rintro e w8 ⟨rfl, hb8⟩; rw [F2.out]; have hB8 := hB7.trans (hb8.mono hB7.size); have hD8 := hD7.trans (hb8.mono hD7.size); have hE8 := hb7.trans (hb8.mono hb7.size))
                | (go_at_call 18; first
                    | (with_reducible refine (told_any _ (profL TaskR.crew L S) _ t _ (by omega) (HVA.out.grow hD8)).mono ?_); rintro e w9 ⟨rfl, hb9⟩; rw [F3.out]; have hB9 := hB8.trans (hb9.mono hB8.size); have hD9 := hD8.trans (hb9.mono hD8.size); have hE9 := hE8.trans (hb9.mono hE8.size)
                    | (with_reducible refine (told_any _ (profL TaskR.crew L (allBy b S)) _ (t + b) _ (by omega) (HVC.out.grow hE9)).mono ?_); rintro e w10 ⟨rfl, hb10⟩; rw [F4.out]; have hB10 := hB9.trans (hb10.mono hB9.size); have hD10 := hD9.trans (hb10.mono hD9.size); have hE10 := hE9.trans (hb10.mono hE9.size)
                    | (with_reducible refine (told_any _ (profL TaskR.power L S) _ t _ (by omega) (HVB.out.grow hD10)).mono ?_); rintro e w11 ⟨rfl, hb11⟩; rw [F5.out]; have hB11 := hB10.trans (hb11.mono hB10.size); have hE11 := hE10.trans (hb11.mono hE10.size)
                    | (with_reducible refine (told_any _ (profL TaskR.power L (allBy b S)) _ (t + b) _ (by omega) (HVD.out.grow hE11)).mono ?_); rintro e w12 ⟨rfl, hb12⟩; rw [F6.out]; have hB12 := hB11.trans (hb12.mono hB11.size); have hE12 := hE11.trans (hb12.mono hE11.size)
                    | (with_reducible refine (told_any _ (profL TaskR.crew L (allBy b S)) _ (b - 1) _ (by omega) (HVC.out.grow hE12)).mono ?_); rintro e w13 ⟨rfl, hb13⟩; rw [F7.out]; have hB13 := hB12.trans (hb13.mono hB12.size)))
              go_ret
              exact ⟨rfl, hB13⟩
          · obtain ⟨g, hg⟩ : ∃ g, profE L (allBy b S) = g := ⟨_, rfl⟩
            have HE' := Lib.hid hg
            rw [hg] at he'
            have z3 : (g != 0) = true := bne_iff_ne.2 he'
            clear he' hg
            go_wp2_with (go_at_call 13; (with_reducible refine (refgiven_n a a4 L (allBy b S) _ _ _ _ _ (allBy_len _ _).symm hl (HL.out.grow hB) HG5.out).mono ?_); rintro e w' ⟨rfl, rfl⟩; rw [HE'.out])
            go_ret
            exact ⟨rfl, hB⟩
    · obtain ⟨g, hg⟩ : ∃ g, profE L S = g := ⟨_, rfl⟩
      have HE := Lib.hid hg
      rw [hg] at he
      have z3 : (g != 0) = true := bne_iff_ne.2 he
      clear he hg q1
      go_enter Try.func5, Try.ntmps5
      go_wp2_with (first
        | (go_at_call 8; (with_reducible refine (awake_any _).mono ?_); rintro e w1 ⟨rfl, hB1⟩)
        | (go_at_call 13; (with_reducible refine (refgiven_n a sa L S _ _ _ _ _ rfl hl (HL.out.grow hB1) (HS.out.grow hB1)).mono ?_); rintro e w' ⟨rfl, rfl⟩; rw [HE.out]))
      go_ret
      exact ⟨rfl, hB1⟩
  · have b1 : decide ((30 : Int) < (L.length : Int)) = true := decide_eq_true (by omega)
    clear q1
    go_enter Try.func5, Try.ntmps5
    go_wp2_with (go_at_call 8; (with_reducible refine (awake_any _).mono ?_); rintro e w1 ⟨rfl, hB1⟩)
    go_ret
    exact ⟨rfl, hB1⟩
end Go.Proofs.Ytlnodjcmdnmnlaa
