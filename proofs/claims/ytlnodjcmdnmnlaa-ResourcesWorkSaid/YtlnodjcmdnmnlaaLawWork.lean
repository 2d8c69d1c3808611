/-
  THE WALK of the law ResourcesWork.
-/
import Derived.Test.YtlnodjcmdnmnlaaAreaP
import Derived.Test.YtlnodjcmdnmnlaaLawLater
import Derived.Test.YtlnodjcmdnmnlaaWork
import Derived.Test.YtlnodjcmdnmnlaaShort
import Derived.IntWalk
import Derived.RegionTactic
namespace Go.Proofs.Ytlnodjcmdnmnlaa
open Go.RowKit Go.Shelf

theorem prof_small (f : TaskR → Int) {L : List TaskR} {S : List Int} (hf : ∀ k, k < L.length → 0 ≤ f (tg L k) ∧ f (tg L k) ≤ 100) (he : profE L S = 0) :
    0 < (profL f L S).length ∧ (profL f L S).length ≤ 2 * L.length + 1 ∧ (∀ k, k < (profL f L S).length → 0 ≤ (og (profL f L S) k).1 ∧ (og (profL f L S) k).1 ≤ 1010000 ∧ 0 ≤ (og (profL f L S) k).2 ∧ (og (profL f L S) k).2 ≤ 6000) ∧ validB (profL f L S) = true ∧ (og (profL f L S) ((profL f L S).length - 1)).2 = 0 ∧ (∀ k, 0 < k → k < (profL f L S).length → (og (profL f L S) k).2 ≠ (og (profL f L S) (k - 1)).2) ∧ areaTo (profL f L S) (profL f L S).length = workTo f L L.length ∧ ∀ t, 0 ≤ t → toldP (profL f L S) t = sumTo (usesTo f L S L.length) t L.length := by
  obtain ⟨ht, hn, hs⟩ := profE_ok he
  obtain ⟨h60, hok⟩ := tasks_ok ht
  have e : profL f L S = stepsP (usesTo f L S L.length) := by unfold profL; rw [if_pos he]
  have u := uses_ok f ht hn hs
  have I := steps_all (usesTo f L S L.length)
  rw [e]
  have h1 := stepsK_len (usesTo f L S L.length) (timesP (usesTo f L S L.length)).length (Nat.le_refl _)
  rw [stepsK_all] at h1
  have h2 := times_len (usesTo f L S L.length)
  rw [usesTo_len] at h2
  refine ⟨I.pos, by omega, fun k hk => ⟨step_time u k hk, ?_, ?_⟩, prof_valid f hf he, steps_last u, fun k h0 hk => (I.up k h0 hk).2, ?_, fun t h0 => ?_⟩
  · obtain ⟨j, hj, e⟩ := I.time k hk
    rw [e]
    rcases (times_mem _ _).1 (mem_ig.2 ⟨j, hj, rfl⟩) with e | ⟨i, hi, _, e⟩
    · omega
    · rw [usesTo_len] at hi
      rw [usesTo_at _ _ _ _ _ hi] at e
      have a := (hok i hi).1
      have b := starts_ok hs i (by omega)
      simp only at e
      omega
  · rw [I.sum k hk]
    have := sumTo_w (U := usesTo f L S L.length) (og (stepsP (usesTo f L S L.length)) k).1 (fun j hj => by rw [usesTo_len] at hj; rw [usesTo_at _ _ _ _ _ hj]; exact hf j hj) _ (Nat.le_refl _)
    rw [usesTo_len] at this
    unfold sumAt
    rw [usesTo_len]
    omega
  · rw [area_steps u, usesTo_len]; exact uses_work f L S _ (Nat.le_refl _)
  · rw [told_steps u t h0]; unfold sumAt; rw [usesTo_len]
set_option maxRecDepth 100000 in
set_option maxHeartbeats 16000000 in
theorem lawwork_law (a sa : Option Addr) (L : List TaskR) (S : List Int) (t : Int) (cap sc : Nat) (w : World) (ht0 : 0 ≤ t) (ht1 : t ≤ 4294967295) (hL : Tasks w.heap.size w a L) (hS : Nums w.heap.size w sa S) :
    Calls Try.prog 4 #[.slice a L.length cap, .slice sa S.length sc, .int .u32 t] w fun e w' => e = .returned (.bool true) ∧ Below w.heap.size w w' := by
  have HL := Lib.hid hL
  have HS := Lib.hid hS
  clear hL hS
  by_cases q1 : L.length ≤ 30
  · have b1 : decide ((30 : Int) < (L.length : Int)) = false := decide_eq_false (by omega)
    have hl : L.length ≤ 1000 := by omega
    by_cases he : profE L S = 0
    · have HE := Lib.hid he
      obtain ⟨htk, hn, hs⟩ := profE_ok he
      obtain ⟨_, hok⟩ := tasks_ok htk
      have HT := Lib.hid htk
      have HOK := Lib.hid hok
      have hs30 : S.length ≤ 30 := by omega
      have HSL := Lib.hid hn
      have HSB : Hid (∀ k, k < S.length → 0 ≤ ig S k ∧ ig S k ≤ 1000000) := Lib.hid (starts_ok hs)
      obtain ⟨x1, x2, x3, x4, x5, x6, x7, x8⟩ := prof_small TaskR.crew (fun k hk => (hok k hk).2.1) he
      obtain ⟨y1, y2, y3, y4, y5, y6, y7, y8⟩ := prof_small TaskR.power (fun k hk => (hok k hk).2.2) he
      have x8' := Lib.hid (x8 t ht0)
      have y8' := Lib.hid (y8 t ht0)
      have X3 := Lib.hid x3
      have Y3 := Lib.hid y3
      have X4 := Lib.hid x4
      have Y4 := Lib.hid y4
      have X5 := Lib.hid x5
      have Y5 := Lib.hid y5
      have X6 := Lib.hid x6
      have Y6 := Lib.hid y6
      obtain ⟨g, hg⟩ : ∃ g, workTo TaskR.crew L L.length = g := ⟨_, rfl⟩
      obtain ⟨h, hh⟩ : ∃ h, workTo TaskR.power L L.length = h := ⟨_, rfl⟩
      have G := Lib.hid hg
      have H := Lib.hid hh
      have X7 := Lib.hid (x7.trans hg)
      have Y7 := Lib.hid (y7.trans hh)
      have z1 : (g == g) = true := beq_self_eq_true _
      have z2 : (h == h) = true := beq_self_eq_true _
      have W1 : Hid (∀ k, k ≤ L.length → 0 ≤ sumTo (usesTo TaskR.crew L S L.length) t k ∧ sumTo (usesTo TaskR.crew L S L.length) t k ≤ 100 * (k : Int)) := Lib.hid fun k hk => sumTo_w t (fun j hj => by rw [usesTo_len] at hj; rw [usesTo_at _ _ _ _ _ hj]; exact (hok j hj).2.1) k (by rw [usesTo_len]; exact hk)
      have W2 : Hid (∀ k, k ≤ L.length → 0 ≤ sumTo (usesTo TaskR.power L S L.length) t k ∧ sumTo (usesTo TaskR.power L S L.length) t k ≤ 100 * (k : Int)) := Lib.hid fun k hk => sumTo_w t (fun j hj => by rw [usesTo_len] at hj; rw [usesTo_at _ _ _ _ _ hj]; exact (hok j hj).2.2) k (by rw [usesTo_len]; exact hk)
      clear he hn hs q1 htk hok x3 x4 x5 x6 x7 x8 y3 y4 y5 y6 y7 y8 hg hh
      go_enter Try.func4, Try.ntmps4
      go_wp2_with (first
        | (go_at_call 8; (with_reducible refine (awake_any _).mono ?_); rintro e w1 ⟨rfl, hB1⟩)
        | (go_at_call 13; (with_reducible refine (refgiven_n a sa L S _ _ _ _ _ rfl hl (HL.out.grow hB1) (HS.out.grow hB1)).mono ?_); rintro e w' ⟨rfl, rfl⟩; rw [HE.out])
        | (go_at_call 9; (with_reducible refine (profile_n a sa L S _ _ _ _ rfl hl (by omega) (HL.out.grow hB1) (HS.out.grow hB1)).mono ?_); rintro e w5 ⟨v, u, rfl, hv, hu, hb5⟩; rw [HE.out]; obtain ⟨av, cv, rfl, _, _, _, hv⟩ := load_of_row hv; obtain ⟨au, cu, rfl, _, _, _, hu⟩ := load_of_row hu; have HVA := Lib.hid hv; have HVB := Lib.hid hu; clear hv hu; have hB5 := hB1.trans (hb5.mono hB1.size))
        | (go_at_call 10; (with_reducible refine (energy_any a L _ _ hl (HL.out.grow hB5)).mono ?_); rintro e w6 ⟨he, hb6⟩; rw [HT.out, G.out, H.out] at he; obtain rfl := he; have hB6 := hB5.trans (hb6.mono hB5.size))
        | (go_at_call 16; first
            | (with_reducible refine (short_any _ (profL TaskR.crew L S) _ _ _ (by omega) (by omega) X4.out X5.out X6.out (HVA.out.grow hb6)).mono ?_); rintro e w7 ⟨rfl, hb7⟩; have hB7 := hB6.trans (hb7.mono hB6.size); have hD7 := hb6.trans (hb7.mono hb6.size)
            | (with_reducible refine (short_any _ (profL TaskR.power L S) _ _ _ (by omega) (by omega) Y4.out Y5.out Y6.out (HVB.out.grow hD7)).mono ?_); rintro e w8 ⟨rfl, hb8⟩; have hB8 := hB7.trans (hb8.mono hB7.size); have hD8 := hD7.trans (hb8.mono hD7.size)))
      go_loopw [13, 14, 67] (fun c p i wr => ∃ k : Nat, k ≤ L.length ∧ i = .int .i64 k ∧ c = .int .i64 (sumTo (usesTo TaskR.crew L S L.length) t k) ∧ p = .int .i64 (sumTo (usesTo TaskR.power L S L.length) t k) ∧ Below w5.heap.size w5 wr) (fun _ _ i _ => L.length - (intOf i).toNat)
      case atStart => exact ⟨0, Nat.zero_le _, rfl, rfl, rfl, hD8⟩
      case round =>
        obtain ⟨k, hk, rfl, rfl, rfl, hD⟩ := hrel
        have hB : Below w.heap.size w wr := hB5.trans (hD.mono hB5.size)
        have hbs := hB.size
        by_cases hlt : k < L.length
        · obtain ⟨b, off, rfl, hb, hc⟩ := HL.out (by omega)
          have hks : k < S.length := by have := HSL.out; omega
          obtain ⟨b', off', rfl, hb', hc'⟩ := HS.out (by omega)
          obtain ⟨c0, c1, c2, c3, c4⟩ := hc k hlt
          have d0 := (hB.cell (p := ⟨b, off + k * 5, none⟩) hb).trans c0
          have d1 := (hB.cell (p := ⟨b, off + k * 5 + 1, none⟩) hb).trans c1
          have d2 := (hB.cell (p := ⟨b, off + k * 5 + 2, none⟩) hb).trans c2
          have d3 := (hB.cell (p := ⟨b, off + k * 5 + 3, none⟩) hb).trans c3
          have d4 := (hB.cell (p := ⟨b, off + k * 5 + 4, none⟩) hb).trans c4
          have e0 : ∀ o, (wr.alloc o).cell? ⟨b', off' + k, none⟩ = some (.int .i64 (ig S k)) := fun o => ((hB.alloc hbs o).cell (p := ⟨b', off' + k, none⟩) hb').trans (hc' k hks)
          have hbr : b' < wr.heap.size := by omega
          obtain ⟨⟨l1, l2⟩, ⟨l3, l4⟩, l5, l6⟩ := HOK.out k hlt
          obtain ⟨s1, s2⟩ := HSB.out k hks
          obtain ⟨m1, m2⟩ := W1.out k hk
          obtain ⟨m3, m4⟩ := W2.out k hk
          have S1 : sumTo (usesTo TaskR.crew L S L.length) t (k + 1) = sumTo (usesTo TaskR.crew L S L.length) t k + if ig S k ≤ t ∧ t < ig S k + (tg L k).length then (tg L k).crew else 0 := by
            simp only [sumTo]; rw [usesTo_at _ _ _ _ _ hlt]
          have S2 : sumTo (usesTo TaskR.power L S L.length) t (k + 1) = sumTo (usesTo TaskR.power L S L.length) t k + if ig S k ≤ t ∧ t < ig S k + (tg L k).length then (tg L k).power else 0 := by
            simp only [sumTo]; rw [usesTo_at _ _ _ _ _ hlt]
          have n1 : IntKind.i64.wrap (ig S k + (tg L k).length) = ig S k + (tg L k).length := IntWalk.i64_in _ (by omega)
          have n2 : IntKind.i64.wrap t = t := IntWalk.i64_in _ (by omega)
          have n3 : IntKind.i64.wrap (sumTo (usesTo TaskR.crew L S L.length) t k + (tg L k).crew) = sumTo (usesTo TaskR.crew L S L.length) t k + (tg L k).crew := IntWalk.i64_in _ (by omega)
          have n4 : IntKind.i64.wrap (sumTo (usesTo TaskR.power L S L.length) t k + (tg L k).power) = sumTo (usesTo TaskR.power L S L.length) t k + (tg L k).power := IntWalk.i64_in _ (by omega)
          clear hc hc' c0 c1 c2 c3 c4
          by_cases p0 : ig S k ≤ t
          · have z3 : decide (ig S k ≤ t) = true := decide_eq_true p0
            by_cases p1 : t < ig S k + (tg L k).length
            · have z4 : decide (t < ig S k + (tg L k).length) = true := decide_eq_true p1
              rw [if_pos ⟨p0, p1⟩] at S1 S2
              have S1 := Lib.hid S1
              have S2 := Lib.hid S2
              clear p0 p1
              go_wp2_with fail
              go_quiet (fail)
              go_wp2_with fail
              go_roundw
              case rel => exact ⟨k + 1, by omega, by go_num, by rw [S1.out], by rw [S2.out], below_drewN (hD.alloc hD.size _) _⟩
              case measure => simp [intOf]; omega
            · have z4 : decide (t < ig S k + (tg L k).length) = false := decide_eq_false p1
              rw [if_neg (fun h => p1 h.2), Int.add_zero] at S1 S2
              have S1 := Lib.hid S1
              have S2 := Lib.hid S2
              clear p0 p1
              go_wp2_with fail
              go_quiet (fail)
              go_wp2_with fail
              go_roundw
              case rel => exact ⟨k + 1, by omega, by go_num, by rw [S1.out], by rw [S2.out], below_drewN (hD.alloc hD.size _) _⟩
              case measure => simp [intOf]; omega
          · have z3 : decide (ig S k ≤ t) = false := decide_eq_false p0
            rw [if_neg (fun h => p0 h.1), Int.add_zero] at S1 S2
            have S1 := Lib.hid S1
            have S2 := Lib.hid S2
            clear p0
            go_wp2_with fail
            go_quiet (fail)
            go_wp2_with fail
            go_roundw
            case rel => exact ⟨k + 1, by omega, by go_num, by rw [S1.out], by rw [S2.out], below_drewN (hD.alloc hD.size _) _⟩
            case measure => simp [intOf]; omega
        · obtain rfl : k = L.length := by omega
          have z3 := beq_self_eq_true (sumTo (usesTo TaskR.crew L S L.length) t L.length)
          have z4 := beq_self_eq_true (sumTo (usesTo TaskR.power L S L.length) t L.length)
          go_wp2_with (first
            | (go_at_call 17; first
                | (with_reducible refine (work_any _ (profL TaskR.crew L S) _ _ x1 (by omega) X3.out (HVA.out.grow hD)).mono ?_); rintro e w9 ⟨rfl, hb9⟩; rw [X7.out]; have hB9 := hB.trans (hb9.mono hB.size); have hD9 := hD.trans (hb9.mono hD.size)
                | (with_reducible refine (work_any _ (profL TaskR.power L S) _ _ y1 (by omega) Y3.out (HVB.out.grow hD9)).mono ?_); rintro e w10 ⟨rfl, hb10⟩; rw [Y7.out]; have hB10 := hB9.trans (hb10.mono hB9.size); have hD10 := hD9.trans (hb10.mono hD9.size))
            | (go_at_call 18; first
                | (with_reducible refine (told_any _ (profL TaskR.crew L S) _ t _ (by omega) (HVA.out.grow hD10)).mono ?_); rintro e w11 ⟨rfl, hb11⟩; rw [x8'.out]; have hB11 := hB10.trans (hb11.mono hB10.size); have hD11 := hD10.trans (hb11.mono hD10.size)
                | (with_reducible refine (told_any _ (profL TaskR.power L S) _ t _ (by omega) (HVB.out.grow hD11)).mono ?_); rintro e w12 ⟨rfl, hb12⟩; rw [y8'.out]; have hB12 := hB11.trans (hb12.mono hB11.size)))
          go_ret
          exact ⟨rfl, hB12⟩
    · obtain ⟨g, hg⟩ : ∃ g, profE L S = g := ⟨_, rfl⟩
      have HE := Lib.hid hg
      rw [hg] at he
      have z3 : (g != 0) = true := bne_iff_ne.2 he
      clear he hg q1
      go_enter Try.func4, Try.ntmps4
      go_wp2_with (first
        | (go_at_call 8; (with_reducible refine (awake_any _).mono ?_); rintro e w1 ⟨rfl, hB1⟩)
        | (go_at_call 13; (with_reducible refine (refgiven_n a sa L S _ _ _ _ _ rfl hl (HL.out.grow hB1) (HS.out.grow hB1)).mono ?_); rintro e w' ⟨rfl, rfl⟩; rw [HE.out]))
      go_ret
      exact ⟨rfl, hB1⟩
  · have b1 : decide ((30 : Int) < (L.length : Int)) = true := decide_eq_true (by omega)
    clear q1
    go_enter Try.func4, Try.ntmps4
    go_wp2_with (go_at_call 8; (with_reducible refine (awake_any _).mono ?_); rintro e w1 ⟨rfl, hB1⟩)
    go_ret
    exact ⟨rfl, hB1⟩
end Go.Proofs.Ytlnodjcmdnmnlaa
