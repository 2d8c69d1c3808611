/-
  THE WALK of the law LinksChains.
-/
import Derived.Test.YtapjhjpibefooaaLawStarts
import Derived.Test.YtapjhjpibefooaaChainsP
import Derived.Test.YtapjhjpibefooaaChainsC
import Derived.IntWalk
import Derived.BigQuiet
import Derived.Deep.QuietTactic
import Derived.Outline
namespace Go.Proofs.Ytapjhjpibefooaa
open Go.RowKit Go.Shelf

theorem chainN_cases (L : List CueR) (A : List (ByteArray × ByteArray)) (name : ByteArray) : (∃ e, e ≠ 0 ∧ chainNP L A name = ([], e)) ∨
    (linkedB L A = true ∧ ∃ i0 : Nat, i0 < L.length ∧ findI L name = i0 ∧ (chainP (hangs L) (i0 : Int)).2 = true ∧ chainNP L A name = (namesOf L (chainP (hangs L) (i0 : Int)).1, 0)) := by
  unfold chainNP
  cases hl : linkedB L A with
  | false => exact .inl ⟨1, by decide, by rw [if_neg (by decide)]⟩
  | true =>
    rw [if_pos rfl]
    by_cases h0 : findI L name < 0
    · exact .inl ⟨9, by decide, by rw [if_pos h0]⟩
    · have hfl := (findI_name L name (by omega)).1
      cases hok : (chainP (hangs L) (findI L name)).2 with
      | false => exact .inl ⟨23, by decide, by rw [if_neg h0, if_neg (by decide)]⟩
      | true =>
        refine .inr ⟨rfl, (findI L name).toNat, by omega, by omega, ?_, ?_⟩
        · rw [show (((findI L name).toNat : Nat) : Int) = findI L name by omega]; exact hok
        · rw [show (((findI L name).toNat : Nat) : Int) = findI L name by omega, if_neg h0, if_pos rfl]
theorem any_of_first {R : List ByteArray} {p : ByteArray → Bool} {m : Nat} (h : str_first R p = m) : str_any R p = true := by unfold str_any; rw [h]; exact decide_eq_true (by omega)

set_option maxRecDepth 100000 in
set_option maxHeartbeats 16000000 in
theorem chains_law (ca pa na ga : Option Addr) (L : List CueR) (A : List (ByteArray × ByteArray)) (N G : List Int) (name : ByteArray) (cc pc nc gc : Nat) (w : World) (hI : Cues w.heap.size w ca L) (hP : Pairs w.heap.size w pa A) (hN : Nums w.heap.size w na N) (hG : Nums w.heap.size w ga G) :
    Calls Try.prog 7 #[.agg #[.slice ca L.length cc, .slice pa A.length pc], .slice na N.length nc, .slice ga G.length gc, .string name] w fun e w' => e = .returned (.bool true) ∧ Below w.heap.size w w' := by
  have hb0 : Below w.heap.size w (w.alloc (.cells #[.slice ca L.length cc, .slice pa A.length pc] 25)) := below_new w _
  have HI := Lib.hid (hI.grow hb0)
  have HP := Lib.hid (hP.grow hb0)
  have HN := Lib.hid (hN.grow hb0)
  have HG := Lib.hid (hG.grow hb0)
  have HX : Hid (∀ wr, Below (w.alloc (.cells #[.slice ca L.length cc, .slice pa A.length pc] 25)).heap.size (w.alloc (.cells #[.slice ca L.length cc, .slice pa A.length pc] 25)) wr → Below w.heap.size w wr) := Lib.hid fun wr h => mono_in _ h
  have X0 : ∀ wr, Below (w.alloc (.cells #[.slice ca L.length cc, .slice pa A.length pc] 25)).heap.size (w.alloc (.cells #[.slice ca L.length cc, .slice pa A.length pc] 25)) wr → wr.cell? ⟨w.heap.size, 0, none⟩ = some (.slice ca L.length cc) := fun wr h => (box2 h).1
  have X1 : ∀ wr, Below (w.alloc (.cells #[.slice ca L.length cc, .slice pa A.length pc] 25)).heap.size (w.alloc (.cells #[.slice ca L.length cc, .slice pa A.length pc] 25)) wr → wr.cell? ⟨w.heap.size, 1, none⟩ = some (.slice pa A.length pc) := fun wr h => (box2 h).2
  clear hb0 hI hP hN hG
  cases hlb : largeB L A
  · have HLB := Lib.hid hlb
    obtain ⟨hl1, hl2, hl3⟩ := large_len hlb
    clear hlb
    by_cases q1 : (100 : Int) < N.length
    · have g1 := decide_eq_true q1
      go_enter Try.func7, Try.ntmps7
      go_wp2_with fail
      generalize (w.alloc (.cells #[.slice ca L.length cc, .slice pa A.length pc] 25)) = W0 at *
      go_wp2_with (first
        | (go_at_call 10; (with_reducible refine (awake_any _).mono ?_); rintro e w1 ⟨rfl, hB1⟩)
        | (go_at_call 11; (with_reducible refine (large_any _ _ L A _ _ _ (HI.out.grow hB1) (HP.out.grow hB1)).mono ?_); rintro e w2 ⟨rfl, hb2⟩; rw [HLB.out]; have hB2 := hB1.trans (hb2.mono hB1.size); clear hb2))
      go_ret
      exact ⟨rfl, HX.out _ hB2⟩
    · have g1 := decide_eq_false q1
      by_cases q2 : (100 : Int) < G.length
      · have g2 := decide_eq_true q2
        go_enter Try.func7, Try.ntmps7
        go_wp2_with fail
        generalize (w.alloc (.cells #[.slice ca L.length cc, .slice pa A.length pc] 25)) = W0 at *
        go_wp2_with (first
          | (go_at_call 10; (with_reducible refine (awake_any _).mono ?_); rintro e w1 ⟨rfl, hB1⟩)
          | (go_at_call 11; (with_reducible refine (large_any _ _ L A _ _ _ (HI.out.grow hB1) (HP.out.grow hB1)).mono ?_); rintro e w2 ⟨rfl, hb2⟩; rw [HLB.out]; have hB2 := hB1.trans (hb2.mono hB1.size); clear hb2))
        go_ret
        exact ⟨rfl, HX.out _ hB2⟩
      · have g2 := decide_eq_false q2
        by_cases q3 : (60 : Int) < name.size
        · have g3 := decide_eq_true q3
          go_enter Try.func7, Try.ntmps7
          go_wp2_with fail
          generalize (w.alloc (.cells #[.slice ca L.length cc, .slice pa A.length pc] 25)) = W0 at *
          go_wp2_with (first
            | (go_at_call 10; (with_reducible refine (awake_any _).mono ?_); rintro e w1 ⟨rfl, hB1⟩)
            | (go_at_call 11; (with_reducible refine (large_any _ _ L A _ _ _ (HI.out.grow hB1) (HP.out.grow hB1)).mono ?_); rintro e w2 ⟨rfl, hb2⟩; rw [HLB.out]; have hB2 := hB1.trans (hb2.mono hB1.size); clear hb2))
          go_ret
          exact ⟨rfl, HX.out _ hB2⟩
        · have g3 := decide_eq_false q3
          have hsl : N.length ≤ 100 := by omega
          have hnl : G.length ≤ 100 := by omega
          clear q1 q2 q3
          rcases chainN_cases L A name with ⟨ec, he, hcp⟩ | ⟨hlk, i0, hi0, hfi, hok, hcp⟩
          · have HCP := Lib.hid hcp
            have m1 : (ec != 0) = true := bne_iff_ne.2 he
            clear he hcp
            go_enter Try.func7, Try.ntmps7
            go_wp2_with fail
            generalize (w.alloc (.cells #[.slice ca L.length cc, .slice pa A.length pc] 25)) = W0 at *
            go_wp2_with (first
              | (go_at_call 10; (with_reducible refine (awake_any _).mono ?_); rintro e w1 ⟨rfl, hB1⟩)
              | (go_at_call 11; (with_reducible refine (large_any _ _ L A _ _ _ (HI.out.grow hB1) (HP.out.grow hB1)).mono ?_); rintro e w2 ⟨rfl, hb2⟩; rw [HLB.out]; have hB2 := hB1.trans (hb2.mono hB1.size); clear hb2)
              | (go_at_call 13; (with_reducible refine (chainN_any _ _ L A _ _ name _ (by omega) (HI.out.grow hB2) (HP.out.grow hB2)).mono ?_); rintro e w3 hx; obtain ⟨v3, rfl, hr3, hb3⟩ := hx.out; rw [HCP.out] at hr3; rw [HCP.out]; have hB3 := hB2.trans (hb3.mono hB2.size); obtain ⟨a3, c3, rfl, _, _, _, hf3⟩ := str_of_row hr3; clear hf3; clear hx hr3 hb3))
            go_ret
            exact ⟨rfl, HX.out _ hB3⟩
          · skip
            obtain ⟨I, hI1, hpos, hIL, hI0, hIf⟩ := chain_facts hlk i0 hi0 hok
            obtain ⟨T, hT⟩ : ∃ T, namesOf L (chainP (hangs L) (i0 : Int)).1 = T := ⟨_, rfl⟩
            have hTI : T.length = I.length := by rw [← hT, hI1, namesOf_len]
            have hTat : ∀ j m, j < I.length → ig I j = (m : Nat) → sg T j = (cg L m).name := fun j m hj e => by rw [← hT, hI1, sg_names L I j hj, e, Int.toNat_natCast]
            have HCP : Hid (chainNP L A name = (T, 0)) := Lib.hid (by rw [hcp, hT])
            have hnm0 := (findI_name L name (by omega)).2.1
            rw [hfi, Int.toNat_natCast] at hnm0
            have HT0 : Hid (sg T 0 = name) := Lib.hid (by rw [hTat 0 i0 hpos hI0, hnm0])
            obtain ⟨lm, hlm, elm, _, hl1'⟩ := hIf (I.length - 1) (by omega)
            have hlm1 := hl1' (by omega)
            have HTL : Hid (sg T (T.length - 1) = (cg L lm).name) := Lib.hid (by rw [hTI]; exact hTat _ _ (by omega) elm)
            obtain ⟨R, hR⟩ : ∃ R, rootsTo L L.length = R := ⟨_, rfl⟩
            have HRP : Hid (rootsP L A = (R, 0)) := Lib.hid (by unfold rootsP; rw [hlk, hR]; rfl)
            have hRF := roots_first hlk lm hlm hlm1
            rw [hR] at hRF
            have HRF := Lib.hid hRF
            have HAN : Hid (str_any R (fun y => decide (y = (cg L lm).name)) = true) := Lib.hid (any_of_first hRF)
            have hRl : R.length ≤ 63 := by have := rootsTo_len L L.length; rw [hR] at this; omega
            have hTpos : 0 < T.length := by omega
            have hTle : T.length ≤ 63 := by omega
            have HTI := Lib.hid hTI
            have HLM : Hid (manTo L lm < manTo L L.length) := Lib.hid (manTo_lt L lm _ hlm hlm1)
            have HFI := Lib.hid hfi
            have HIF : Hid (∀ j, j < T.length → ∃ m : Nat, m < L.length ∧ ig I j = m ∧ sg T j = (cg L m).name ∧ findI L (cg L m).name = m ∧ (0 ≤ (cg L m).delay ∧ (cg L m).delay ≤ 2147483648) ∧ (j + 1 < T.length → ∃ f : Nat, f < L.length ∧ ig I (j + 1) = f ∧ (cg L m).after = (cg L f).name ∧ sg T (j + 1) = (cg L f).name ∧ findI L (cg L f).name = f)) := Lib.hid fun j hj => by
              rw [hTI] at hj
              obtain ⟨m, hm, em, h1, _⟩ := hIf j hj
              refine ⟨m, hm, em, hTat j m hj em, (linked_cue hlk m hm).2.1, (linked_cue hlk m hm).2.2.1, fun hj1 => ?_⟩
              rw [hTI] at hj1
              obtain ⟨_, f, hf, ef, _, haf⟩ := h1 hj1
              exact ⟨f, hf, ef, haf, hTat _ _ hj1 ef, (linked_cue hlk f hf).2.1⟩
            have b0 : ((T.length : Int) == 0) = false := beq_eq_false_iff_ne.2 (by omega)
            have b1 : (name.toList != name.toList) = false := bne_self_eq_false _
            obtain ⟨V, g, hsp⟩ : ∃ V g, startsP L A N G = (V, g) := ⟨_, _, rfl⟩
            have HSP := Lib.hid hsp
            have hVle : V.length ≤ 1000 := by have := startsP_len L A N G; rw [hsp] at this; have h2 : V.length ≤ L.length := this; omega
            by_cases hg : g = 0
            · subst hg
              obtain ⟨_, hNL, hGM, hNW, hGW, hful, hV⟩ := starts_ok hsp
              have HSM : Hid (∀ j, j ≤ T.length → 0 ≤ sumTo L N I true j ∧ sumTo L N I true j ≤ 4294967296 * j) := Lib.hid fun j hj => sumTo_small hlk N I true (fun _ x hx => wrongT_no hNW x (by omega)) (fun j hj => by obtain ⟨m, a, b, _⟩ := hIf j hj; exact ⟨m, a, b⟩) j (by omega)
              have HEND : Hid (ig V i0 = ig G (manTo L lm) + sumTo L N I true T.length) := Lib.hid (by
                have := start_along hful N G I hIf (I.length - 1) 0 (by omega)
                rw [hI0, Int.toNat_natCast, elm, Int.toNat_natCast, ← hV, ← hTI] at this
                rw [this]; simp only [sumTo]; omega)
              have hVL : V.length = L.length := by rw [hV]; exact pass2_len _ _ _ _
              have HVB : Hid (0 ≤ ig G (manTo L lm) ∧ ig G (manTo L lm) ≤ 2147483648) := Lib.hid (wrongT_no hGW _ (by rw [hGM]; exact manTo_lt L lm _ hlm hlm1))
              have HNB : Hid (∀ x, x < N.length → 0 ≤ ig N x ∧ ig N x ≤ 2147483648) := Lib.hid fun x hx => wrongT_no hNW x hx
              have HNL := Lib.hid hNL
              have HGM := Lib.hid hGM
              have HVL := Lib.hid hVL
              clear hsp hNL hGM hNW hGW hful hV hVL hcp hI1 hT hTI hTat hnm0 hIf hl1' hlm1 hR hRF hfi hok hlk elm hI0 hIL
              go_enter Try.func7, Try.ntmps7
              go_wp2_with fail
              generalize (w.alloc (.cells #[.slice ca L.length cc, .slice pa A.length pc] 25)) = W0 at *
              go_wp2_with (first
                | (go_at_call 10; (with_reducible refine (awake_any _).mono ?_); rintro e w1 ⟨rfl, hB1⟩)
                | (go_at_call 11; (with_reducible refine (large_any _ _ L A _ _ _ (HI.out.grow hB1) (HP.out.grow hB1)).mono ?_); rintro e w2 ⟨rfl, hb2⟩; rw [HLB.out]; have hB2 := hB1.trans (hb2.mono hB1.size); clear hb2)
                | (go_at_call 13; (with_reducible refine (chainN_any _ _ L A _ _ name _ (by omega) (HI.out.grow hB2) (HP.out.grow hB2)).mono ?_); rintro e w3 hx; obtain ⟨v3, rfl, hr3, hb3⟩ := hx.out; rw [HCP.out] at hr3; rw [HCP.out]; have hB3 := hB2.trans (hb3.mono hB2.size); obtain ⟨a3, c3, rfl, _, _, _, hf3⟩ := str_of_row hr3; obtain ⟨tb, to, rfl, htb, htc⟩ := (show Strs w3.heap.size w3 a3 T from hf3) hTpos; have x3a : w3.cell? ⟨tb, to, none⟩ = some (.string name) := (htc 0 hTpos).trans (by rw [HT0.out]); have x3b : w3.cell? ⟨tb, to + (T.length - 1), none⟩ = some (.string (cg L lm).name) := (htc (T.length - 1) (by omega)).trans (by rw [HTL.out]); clear hf3; clear hx hr3 hb3)
                | (go_at_call 31; (with_reducible refine (roots_any _ _ L A _ _ _ (by omega) (HI.out.grow hB3) (HP.out.grow hB3)).mono ?_); rintro e w4 hx; obtain ⟨v4, rfl, hr4, hb4⟩ := hx.out; rw [HRP.out] at hr4; rw [HRP.out]; have hB4 := hB3.trans (hb4.mono hB3.size); obtain ⟨a4, c4, rfl, _, _, _, hf4⟩ := str_of_row hr4; have HF4 := Lib.hid hf4; have x4a := (hb4.cell (p := ⟨tb, to, none⟩) htb).trans x3a; have x4b := (hb4.cell (p := ⟨tb, to + (T.length - 1), none⟩) htb).trans x3b; have HT4 := Lib.hid fun j hj => (hb4.cell (p := ⟨tb, to + j, none⟩) htb).trans (htc j hj); clear hx hr4 hf4)
                | (go_at_call 32; (with_reducible refine (str_contains _ R _ (cg L lm).name _ _ (by omega) HF4.out).mono ?_); rintro e w' ⟨rfl, rfl⟩; rw [HAN.out])
                | (go_at_call 12; (with_reducible refine (starts_any _ _ _ _ L A N G _ _ _ _ _ (by omega) (by omega) (by omega) (HI.out.grow hB4) (HP.out.grow hB4) (HN.out.grow hB4) (HG.out.grow hB4)).mono ?_); rintro e w5 hx; obtain ⟨v5, rfl, hr5, hb5⟩ := hx.out; rw [HSP.out] at hr5; rw [HSP.out]; have hB5 := hB4.trans (hb5.mono hB4.size); obtain ⟨a5, c5, rfl, _, _, _, hf5⟩ := num_of_row hr5; have HF5 := Lib.hid hf5; have HR5 := Lib.hid (HF4.out.grow hb5); clear hx hr5 hf5))
              have HT5 : Hid (∀ wr, Below w5.heap.size w5 wr → ∀ j, j < T.length → wr.cell? ⟨tb, to + j, none⟩ = some (.string (sg T j))) := Lib.hid fun wr h j hj => ((hb5.trans (h.mono hb5.size)).cell (p := ⟨tb, to + j, none⟩) (Nat.lt_of_lt_of_le htb (hb4.size))).trans (HT4.out j hj)
              clear hb4 hb5 htc x3a x3b x4a x4b HT4 hB1 hB2 hB3 hB4 HF4
              go_loopw [16, 93] (fun s v wr => ∃ j : Nat, j ≤ T.length ∧ v = .int .i64 j ∧ s = .int .i64 (sumTo L N I true j) ∧ Below w5.heap.size w5 wr) (fun _ v _ => T.length - (intOf v).toNat)
              case atStart => exact ⟨0, Nat.zero_le _, rfl, rfl, Below.refl _ _⟩
              case round =>
                obtain ⟨j, hj, rfl, rfl, hCr⟩ := hrel
                have hBr : Below W0.heap.size W0 wr := hB5.trans (hCr.mono hB5.size)
                obtain ⟨s1, s2⟩ := HSM.out j hj
                by_cases hlt : j < T.length
                · obtain ⟨m, hm, em, etm, efm, ⟨d1, d2⟩, hnx⟩ := HIF.out j hlt
                  obtain ⟨cb, co, rfl, hcb, hcc⟩ := HI.out (by omega)
                  have K1 : ∀ wr, Below W0.heap.size W0 wr → wr.cell? ⟨cb, co + m * 7 + 1, none⟩ = some (.string (cg L m).after) := fun wr h => (h.cell (p := ⟨cb, co + m * 7 + 1, none⟩) hcb).trans (hcc m hm).2.1
                  have K2 : ∀ wr, Below W0.heap.size W0 wr → wr.cell? ⟨cb, co + m * 7 + 2, none⟩ = some (.int .i64 (cg L m).link) := fun wr h => (h.cell (p := ⟨cb, co + m * 7 + 2, none⟩) hcb).trans (hcc m hm).2.2.1
                  have K3 : ∀ wr, Below W0.heap.size W0 wr → wr.cell? ⟨cb, co + m * 7 + 3, none⟩ = some (.int .i64 (cg L m).delay) := fun wr h => (h.cell (p := ⟨cb, co + m * 7 + 3, none⟩) hcb).trans (hcc m hm).2.2.2.1
                  have t0 := HT5.out _ hCr j hlt
                  rw [etm] at t0
                  have EFM := Lib.hid efm
                  have HADD : Hid (sumTo L N I true (j + 1) = sumTo L N I true j + addAt L N I true j) := Lib.hid rfl
                  have EM := Lib.hid em
                  clear hcc etm efm em
                  by_cases hj1 : j + 1 < T.length
                  · obtain ⟨f, hf, ef, eaf, etf, eff⟩ := hnx hj1
                    have T1 : ∀ wr, Below w5.heap.size w5 wr → wr.cell? ⟨tb, to + (j + 1), none⟩ = some (.string (cg L f).name) := fun wr h => by rw [← etf]; exact HT5.out _ h _ hj1
                    rw [eaf] at K1
                    have EFF := Lib.hid eff
                    have EF := Lib.hid ef
                    have q1 : ((cg L f).name.toList != (cg L f).name.toList) = false := bne_self_eq_false _
                    have q2 : IntKind.i64.wrap ((j : Int) + 1) = (j : Int) + 1 := IntWalk.i64_in _ (by omega)
                    clear hnx eaf etf eff ef
                    by_cases hl2 : (cg L m).link = 2
                    · have l2 : ((cg L m).link == 2) = true := beq_iff_eq.2 hl2
                      have hfN : f < N.length := by have := HNL.out; omega
                      obtain ⟨nb, no, rfl, hnb, hnc⟩ := HN.out (by omega)
                      have K4 : ∀ wr, Below W0.heap.size W0 wr → wr.cell? ⟨nb, no + f, none⟩ = some (.int .i64 (ig N f)) := fun wr h => (h.cell (p := ⟨nb, no + f, none⟩) hnb).trans (hnc f hfN)
                      obtain ⟨n1, n2⟩ := HNB.out f hfN
                      have HA : Hid (addAt L N I true j = (cg L m).delay + ig N f) := Lib.hid (by unfold addAt; rw [EM.out, EF.out, Int.toNat_natCast, Int.toNat_natCast, if_pos ⟨rfl, by have := HTI.out; omega, hl2⟩])
                      clear hnc hl2
                      go_wp2_with (go_at_call 33; (with_reducible refine (chains_find _ L cc _ (cg L m).name _ (by omega) (X0 _ hBr) (HI.out.grow hBr)).mono ?_); rintro e w6 ⟨rfl, hb6⟩; rw [EFM.out]; have hB6 := hBr.trans (hb6.mono hBr.size); have hC6 := hCr.trans (hb6.mono hCr.size); clear hb6)
                      go_quiet (fail)
                      have hB7 : Below W0.heap.size W0 (w6.drewN nq) := below_drewN hB6 _
                      have hC7 : Below w5.heap.size w5 (w6.drewN nq) := below_drewN hC6 _
                      go_wp2_with (go_at_call 33; (with_reducible refine (chains_find _ L cc _ (cg L f).name _ (by omega) (X0 _ hB7) (HI.out.grow hB7)).mono ?_); rintro e w8 ⟨rfl, hb8⟩; rw [EFF.out]; have hB8 := hB7.trans (hb8.mono hB7.size); have hC8 := hC7.trans (hb8.mono hC7.size); clear hb8)
                      go_roundw
                      case rel => exact ⟨j + 1, by omega, by go_num, by rw [HADD.out, HA.out]; go_num, (by assumption)⟩
                      case measure => simp [intOf]; omega
                    · have l2 : ((cg L m).link == 2) = false := beq_eq_false_iff_ne.2 hl2
                      have HA : Hid (addAt L N I true j = (cg L m).delay) := Lib.hid (by unfold addAt; rw [EM.out, Int.toNat_natCast, if_neg (fun e => hl2 e.2.2)]; omega)
                      clear hl2
                      go_wp2_with (go_at_call 33; (with_reducible refine (chains_find _ L cc _ (cg L m).name _ (by omega) (X0 _ hBr) (HI.out.grow hBr)).mono ?_); rintro e w6 ⟨rfl, hb6⟩; rw [EFM.out]; have hB6 := hBr.trans (hb6.mono hBr.size); have hC6 := hCr.trans (hb6.mono hCr.size); clear hb6)
                      go_quiet (fail)
                      have hB7 : Below W0.heap.size W0 (w6.drewN nq) := below_drewN hB6 _
                      have hC7 : Below w5.heap.size w5 (w6.drewN nq) := below_drewN hC6 _
                      go_wp2_with (go_at_call 33; (with_reducible refine (chains_find _ L cc _ (cg L f).name _ (by omega) (X0 _ hB7) (HI.out.grow hB7)).mono ?_); rintro e w8 ⟨rfl, hb8⟩; rw [EFF.out]; have hB8 := hB7.trans (hb8.mono hB7.size); have hC8 := hC7.trans (hb8.mono hC7.size); clear hb8)
                      go_roundw
                      case rel => exact ⟨j + 1, by omega, by go_num, by rw [HADD.out, HA.out], (by assumption)⟩
                      case measure => simp [intOf]; omega
                  · have HA : Hid (addAt L N I true j = (cg L m).delay) := Lib.hid (by unfold addAt; rw [EM.out, Int.toNat_natCast, if_neg (fun e => hj1 (by have := HTI.out; omega))]; omega)
                    clear hnx
                    go_wp2_with (go_at_call 33; (with_reducible refine (chains_find _ L cc _ (cg L m).name _ (by omega) (X0 _ hBr) (HI.out.grow hBr)).mono ?_); rintro e w6 ⟨rfl, hb6⟩; rw [EFM.out]; have hB6 := hBr.trans (hb6.mono hBr.size); have hC6 := hCr.trans (hb6.mono hCr.size); clear hb6)
                    go_roundw
                    case rel => exact ⟨j + 1, by omega, by go_num, by rw [HADD.out, HA.out], hC6⟩
                    case measure => simp [intOf]; omega
                · obtain rfl : j = T.length := by omega
                  have tl := HT5.out _ hCr (T.length - 1) (by omega)
                  rw [HTL.out] at tl
                  obtain ⟨gb, go, rfl, hgb, hgc⟩ := HG.out (by have := HGM.out; have := HLM.out; omega)
                  have hrG : manTo L lm < G.length := by have := HGM.out; have := HLM.out; omega
                  have K5 : ∀ wr, Below W0.heap.size W0 wr → wr.cell? ⟨gb, go + manTo L lm, none⟩ = some (.int .i64 (ig G (manTo L lm))) := fun wr h => (h.cell (p := ⟨gb, go + manTo L lm, none⟩) hgb).trans (hgc _ hrG)
                  have hiV : i0 < V.length := by have := HVL.out; omega
                  obtain ⟨vb, vo, rfl, hvb, hvc⟩ := HF5.out (by omega)
                  have K6 : ∀ wr, Below w5.heap.size w5 wr → wr.cell? ⟨vb, vo + i0, none⟩ = some (.int .i64 (ig V i0)) := fun wr h => (h.cell (p := ⟨vb, vo + i0, none⟩) hvb).trans (hvc i0 hiV)
                  have K7 : (ig V i0 == ig G (manTo L lm) + sumTo L N I true T.length) = true := beq_iff_eq.2 HEND.out
                  obtain ⟨v1, v2⟩ := HVB.out
                  have K8 : IntKind.i64.wrap (ig G (manTo L lm) + sumTo L N I true T.length) = ig G (manTo L lm) + sumTo L N I true T.length := IntWalk.i64_in _ (by omega)
                  have K9 : decide (((manTo L lm : Nat) : Int) < (G.length : Int)) = true := decide_eq_true (by omega)
                  have K10 : decide ((i0 : Int) < (V.length : Int)) = true := decide_eq_true (by omega)
                  have K11 : decide (manTo L lm < G.length) = true := decide_eq_true hrG
                  have K12 : decide (i0 < V.length) = true := decide_eq_true hiV
                  clear hgc hvc
                  go_wp2_with (first
                    | (go_at_call 35; (with_reducible refine (str_index _ R _ (cg L lm).name _ _ (by omega) (HR5.out.grow hCr)).mono ?_); rintro e w' ⟨rfl, rfl⟩; rw [HRF.out])
                    | (go_at_call 33; (with_reducible refine (chains_find _ L cc _ name _ (by omega) (X0 _ hBr) (HI.out.grow hBr)).mono ?_); rintro e w6 ⟨rfl, hb6⟩; rw [HFI.out]; have hB6 := hBr.trans (hb6.mono hBr.size); have hC6 := hCr.trans (hb6.mono hCr.size); clear hb6))
                  go_quiet (fail)
                  go_wp2_with fail
                  go_ret
                  exact ⟨rfl, HX.out _ (below_drewN hB6 _)⟩
            · obtain rfl := starts_bad hsp hg
              have g4 : (g == 0) = false := beq_eq_false_iff_ne.2 hg
              have g5 : (g != 0) = true := bne_iff_ne.2 hg
              have HSM : Hid (∀ j, j ≤ T.length → 0 ≤ sumTo L N I false j ∧ sumTo L N I false j ≤ 4294967296 * j) := Lib.hid fun j hj => sumTo_small hlk N I false (fun e => by cases e) (fun j hj => by obtain ⟨m, a, b, _⟩ := hIf j hj; exact ⟨m, a, b⟩) j (by omega)
              clear hsp hg hcp hI1 hT hTI hTat hnm0 hIf hl1' hlm1 hR hRF hfi hok hlk elm hI0 hIL
              go_enter Try.func7, Try.ntmps7
              go_wp2_with fail
              generalize (w.alloc (.cells #[.slice ca L.length cc, .slice pa A.length pc] 25)) = W0 at *
              go_wp2_with (first
                | (go_at_call 10; (with_reducible refine (awake_any _).mono ?_); rintro e w1 ⟨rfl, hB1⟩)
                | (go_at_call 11; (with_reducible refine (large_any _ _ L A _ _ _ (HI.out.grow hB1) (HP.out.grow hB1)).mono ?_); rintro e w2 ⟨rfl, hb2⟩; rw [HLB.out]; have hB2 := hB1.trans (hb2.mono hB1.size); clear hb2)
                | (go_at_call 13; (with_reducible refine (chainN_any _ _ L A _ _ name _ (by omega) (HI.out.grow hB2) (HP.out.grow hB2)).mono ?_); rintro e w3 hx; obtain ⟨v3, rfl, hr3, hb3⟩ := hx.out; rw [HCP.out] at hr3; rw [HCP.out]; have hB3 := hB2.trans (hb3.mono hB2.size); obtain ⟨a3, c3, rfl, _, _, _, hf3⟩ := str_of_row hr3; obtain ⟨tb, to, rfl, htb, htc⟩ := (show Strs w3.heap.size w3 a3 T from hf3) hTpos; have x3a : w3.cell? ⟨tb, to, none⟩ = some (.string name) := (htc 0 hTpos).trans (by rw [HT0.out]); have x3b : w3.cell? ⟨tb, to + (T.length - 1), none⟩ = some (.string (cg L lm).name) := (htc (T.length - 1) (by omega)).trans (by rw [HTL.out]); clear hf3; clear hx hr3 hb3)
                | (go_at_call 31; (with_reducible refine (roots_any _ _ L A _ _ _ (by omega) (HI.out.grow hB3) (HP.out.grow hB3)).mono ?_); rintro e w4 hx; obtain ⟨v4, rfl, hr4, hb4⟩ := hx.out; rw [HRP.out] at hr4; rw [HRP.out]; have hB4 := hB3.trans (hb4.mono hB3.size); obtain ⟨a4, c4, rfl, _, _, _, hf4⟩ := str_of_row hr4; have HF4 := Lib.hid hf4; have x4a := (hb4.cell (p := ⟨tb, to, none⟩) htb).trans x3a; have x4b := (hb4.cell (p := ⟨tb, to + (T.length - 1), none⟩) htb).trans x3b; have HT4 := Lib.hid fun j hj => (hb4.cell (p := ⟨tb, to + j, none⟩) htb).trans (htc j hj); clear hx hr4 hf4)
                | (go_at_call 32; (with_reducible refine (str_contains _ R _ (cg L lm).name _ _ (by omega) HF4.out).mono ?_); rintro e w' ⟨rfl, rfl⟩; rw [HAN.out])
                | (go_at_call 12; (with_reducible refine (starts_any _ _ _ _ L A N G _ _ _ _ _ (by omega) (by omega) (by omega) (HI.out.grow hB4) (HP.out.grow hB4) (HN.out.grow hB4) (HG.out.grow hB4)).mono ?_); rintro e w5 hx; obtain ⟨v5, rfl, hr5, hb5⟩ := hx.out; rw [HSP.out] at hr5; rw [HSP.out]; have hB5 := hB4.trans (hb5.mono hB4.size); obtain ⟨a5, c5, rfl, _, _, _, hf5⟩ := num_of_row hr5; have HF5 := Lib.hid hf5; have HR5 := Lib.hid (HF4.out.grow hb5); clear hx hr5 hf5))
              have HT5 : Hid (∀ wr, Below w5.heap.size w5 wr → ∀ j, j < T.length → wr.cell? ⟨tb, to + j, none⟩ = some (.string (sg T j))) := Lib.hid fun wr h j hj => ((hb5.trans (h.mono hb5.size)).cell (p := ⟨tb, to + j, none⟩) (Nat.lt_of_lt_of_le htb (hb4.size))).trans (HT4.out j hj)
              clear hb4 hb5 htc x3a x3b x4a x4b HT4 hB1 hB2 hB3 hB4 HF4
              go_loopw [16, 93] (fun s v wr => ∃ j : Nat, j ≤ T.length ∧ v = .int .i64 j ∧ s = .int .i64 (sumTo L N I false j) ∧ Below w5.heap.size w5 wr) (fun _ v _ => T.length - (intOf v).toNat)
              case atStart => exact ⟨0, Nat.zero_le _, rfl, rfl, Below.refl _ _⟩
              case round =>
                obtain ⟨j, hj, rfl, rfl, hCr⟩ := hrel
                have hBr : Below W0.heap.size W0 wr := hB5.trans (hCr.mono hB5.size)
                obtain ⟨s1, s2⟩ := HSM.out j hj
                by_cases hlt : j < T.length
                · obtain ⟨m, hm, em, etm, efm, ⟨d1, d2⟩, hnx⟩ := HIF.out j hlt
                  obtain ⟨cb, co, rfl, hcb, hcc⟩ := HI.out (by omega)
                  have K1 : ∀ wr, Below W0.heap.size W0 wr → wr.cell? ⟨cb, co + m * 7 + 1, none⟩ = some (.string (cg L m).after) := fun wr h => (h.cell (p := ⟨cb, co + m * 7 + 1, none⟩) hcb).trans (hcc m hm).2.1
                  have K2 : ∀ wr, Below W0.heap.size W0 wr → wr.cell? ⟨cb, co + m * 7 + 2, none⟩ = some (.int .i64 (cg L m).link) := fun wr h => (h.cell (p := ⟨cb, co + m * 7 + 2, none⟩) hcb).trans (hcc m hm).2.2.1
                  have K3 : ∀ wr, Below W0.heap.size W0 wr → wr.cell? ⟨cb, co + m * 7 + 3, none⟩ = some (.int .i64 (cg L m).delay) := fun wr h => (h.cell (p := ⟨cb, co + m * 7 + 3, none⟩) hcb).trans (hcc m hm).2.2.2.1
                  have t0 := HT5.out _ hCr j hlt
                  rw [etm] at t0
                  have EFM := Lib.hid efm
                  have HADD : Hid (sumTo L N I false (j + 1) = sumTo L N I false j + addAt L N I false j) := Lib.hid rfl
                  have EM := Lib.hid em
                  clear hcc etm efm em
                  by_cases hj1 : j + 1 < T.length
                  · obtain ⟨f, hf, ef, eaf, etf, eff⟩ := hnx hj1
                    have T1 : ∀ wr, Below w5.heap.size w5 wr → wr.cell? ⟨tb, to + (j + 1), none⟩ = some (.string (cg L f).name) := fun wr h => by rw [← etf]; exact HT5.out _ h _ hj1
                    rw [eaf] at K1
                    have EFF := Lib.hid eff
                    have EF := Lib.hid ef
                    have q1 : ((cg L f).name.toList != (cg L f).name.toList) = false := bne_self_eq_false _
                    have q2 : IntKind.i64.wrap ((j : Int) + 1) = (j : Int) + 1 := IntWalk.i64_in _ (by omega)
                    clear hnx eaf etf eff ef
                    have HA : Hid (addAt L N I false j = (cg L m).delay) := Lib.hid (by unfold addAt; rw [EM.out, Int.toNat_natCast, if_neg (fun e => by cases e.1)]; omega)
                    go_wp2_with (go_at_call 33; (with_reducible refine (chains_find _ L cc _ (cg L m).name _ (by omega) (X0 _ hBr) (HI.out.grow hBr)).mono ?_); rintro e w6 ⟨rfl, hb6⟩; rw [EFM.out]; have hB6 := hBr.trans (hb6.mono hBr.size); have hC6 := hCr.trans (hb6.mono hCr.size); clear hb6)
                    go_quiet (fail)
                    have hB7 : Below W0.heap.size W0 (w6.drewN nq) := below_drewN hB6 _
                    have hC7 : Below w5.heap.size w5 (w6.drewN nq) := below_drewN hC6 _
                    go_wp2_with (go_at_call 33; (with_reducible refine (chains_find _ L cc _ (cg L f).name _ (by omega) (X0 _ hB7) (HI.out.grow hB7)).mono ?_); rintro e w8 ⟨rfl, hb8⟩; rw [EFF.out]; have hB8 := hB7.trans (hb8.mono hB7.size); have hC8 := hC7.trans (hb8.mono hC7.size); clear hb8)
                    go_roundw
                    case rel => exact ⟨j + 1, by omega, by go_num, by rw [HADD.out, HA.out], (by assumption)⟩
                    case measure => simp [intOf]; omega
                  · have HA : Hid (addAt L N I false j = (cg L m).delay) := Lib.hid (by unfold addAt; rw [EM.out, Int.toNat_natCast, if_neg (fun e => hj1 (by have := HTI.out; omega))]; omega)
                    clear hnx
                    go_wp2_with (go_at_call 33; (with_reducible refine (chains_find _ L cc _ (cg L m).name _ (by omega) (X0 _ hBr) (HI.out.grow hBr)).mono ?_); rintro e w6 ⟨rfl, hb6⟩; rw [EFM.out]; have hB6 := hBr.trans (hb6.mono hBr.size); have hC6 := hCr.trans (hb6.mono hCr.size); clear hb6)
                    go_roundw
                    case rel => exact ⟨j + 1, by omega, by go_num, by rw [HADD.out, HA.out], hC6⟩
                    case measure => simp [intOf]; omega
                · obtain rfl : j = T.length := by omega
                  go_wp2_with fail
                  go_ret
                  exact ⟨rfl, HX.out _ hBr⟩
  · have HLB := Lib.hid hlb
    clear hlb
    go_enter Try.func7, Try.ntmps7
    go_wp2_with fail
    generalize (w.alloc (.cells #[.slice ca L.length cc, .slice pa A.length pc] 25)) = W0 at *
    go_wp2_with (first
      | (go_at_call 10; (with_reducible refine (awake_any _).mono ?_); rintro e w1 ⟨rfl, hB1⟩)
      | (go_at_call 11; (with_reducible refine (large_any _ _ L A _ _ _ (HI.out.grow hB1) (HP.out.grow hB1)).mono ?_); rintro e w2 ⟨rfl, hb2⟩; rw [HLB.out]; have hB2 := hB1.trans (hb2.mono hB1.size); clear hb2))
    go_ret
    exact ⟨rfl, HX.out _ hB2⟩
end Go.Proofs.Ytapjhjpibefooaa
