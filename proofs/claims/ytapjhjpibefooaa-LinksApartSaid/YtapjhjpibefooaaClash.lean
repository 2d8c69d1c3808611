/-
  THE WALK of Clash (package links).
-/
import Derived.Test.YtapjhjpibefooaaClashP
import Derived.IntWalk
import Derived.Deep.RegionHeld3
namespace Go.Proofs.Ytapjhjpibefooaa
open Go.RowKit Go.Shelf

set_option maxRecDepth 100000 in
set_option maxHeartbeats 16000000 in
theorem clash_any (ca pa sa na : Option Addr) (L : List CueR) (A : List (ByteArray × ByteArray)) (S N : List Int) (cc pc sc nc : Nat) (w : World) (hlen : L.length ≤ 1000) (hlS : S.length ≤ 1000) (hlN : N.length ≤ 1000) (hI : Cues w.heap.size w ca L) (hP : Pairs w.heap.size w pa A) (hS : Nums w.heap.size w sa S) (hN : Nums w.heap.size w na N) :
    Calls Try.prog 20 #[.agg #[.slice ca L.length cc, .slice pa A.length pc], .slice sa S.length sc, .slice na N.length nc] w fun e w' => Hid (∃ v, e = .returned (.tuple #[v, .int .i64 (clashP L A S N).2]) ∧ w'.ownsRow w.heap.size 50 2 v (clashP L A S N).1.length (flat (clashP L A S N).1) ∧ Below w.heap.size w w') := by
  have hb0 : Below w.heap.size w (w.alloc (.cells #[.slice ca L.length cc, .slice pa A.length pc] 25)) := below_new w _
  have HI := Lib.hid (hI.grow hb0)
  have HP := Lib.hid (hP.grow hb0)
  have HS := Lib.hid (hS.grow hb0)
  have HN := Lib.hid (hN.grow hb0)
  have HX : Hid (∀ wr, Below (w.alloc (.cells #[.slice ca L.length cc, .slice pa A.length pc] 25)).heap.size (w.alloc (.cells #[.slice ca L.length cc, .slice pa A.length pc] 25)) wr → Below w.heap.size w wr ∧ wr.cell? ⟨w.heap.size, 0, none⟩ = some (.slice ca L.length cc) ∧ wr.cell? ⟨w.heap.size, 1, none⟩ = some (.slice pa A.length pc)) := Lib.hid fun wr h => ⟨mono_in _ h, box2 h⟩
  have hz0 : w.heap.size ≤ (w.alloc (.cells #[.slice ca L.length cc, .slice pa A.length pc] 25)).heap.size := hb0.size
  clear hb0 hI hP hS hN
  cases hlk : linkedB L A
  · have HLK := Lib.hid hlk
    have HP0 : Hid (clashP L A S N = ([], 1)) := Lib.hid (by unfold clashP; rw [hlk]; rfl)
    clear hlk
    go_enter Try.func20, Try.ntmps20
    go_wp2_with (first
      | (go_at_call 48; (with_reducible refine (linked_any _ _ L A _ _ _ (by omega) HI.out HP.out).mono ?_); rintro e w1 ⟨rfl, hb1⟩; rw [HLK.out]; obtain ⟨hB1, z0, z1⟩ := HX.out _ hb1))
    go_ret2
    rw [HP0.out]
    exact Lib.hid ⟨_, rfl, World.ownsRow_nil _ _ _ _, hB1⟩
  · have HLK := Lib.hid hlk
    obtain ⟨hl60, hlA⟩ := linked_len hlk
    by_cases hs1 : S.length = L.length
    · by_cases hn1 : N.length = L.length
      · have m1 : ((S.length : Int) != (L.length : Int)) = false := by rw [bne_eq_false_iff_eq]; omega
        have m2 : ((N.length : Int) != (L.length : Int)) = false := by rw [bne_eq_false_iff_eq]; omega
        have HC0 : Hid (clashP L A S N = if S.any wrongM || N.any wrongM then ([], 2) else (clashTo L A S N A.length, 0)) := Lib.hid (by unfold clashP; rw [hlk, if_pos rfl, if_pos ⟨hs1, hn1⟩])
        have HSL := Lib.hid hs1
        have HNL := Lib.hid hn1
        clear hlk hs1 hn1
        cases hws : S.any wrongM
        · have HWS := any_num S wrongM _ hws
          have HWS' := Lib.hid hws
          cases hwn : N.any wrongM
          · have HWN := any_num N wrongM _ hwn
            have HWN' := Lib.hid hwn
            have HCM : Hid (clashP L A S N = (clashTo L A S N A.length, 0)) := Lib.hid (by rw [HC0.out, hws, hwn]; rfl)
            clear hws hwn
            go_enter Try.func20, Try.ntmps20
            go_wp2_with (first
              | (go_at_call 48; (with_reducible refine (linked_any _ _ L A _ _ _ (by omega) HI.out HP.out).mono ?_); rintro e w1 ⟨rfl, hb1⟩; rw [HLK.out]; obtain ⟨hB1, z0, z1⟩ := HX.out _ hb1)
              | (go_at_call 51; (with_reducible refine (num_containsFunc na N _ _ _ _ wrongM _ ent_wrongM (by omega) (Nat.le_refl _) (HN.out.grow hB2) (asks_wrongM _ _)).mono ?_); rintro e w3 ⟨rfl, hb3⟩; rw [HWN.out]; have hB3 := hB2.trans (hb3.mono hB2.size); obtain ⟨hB3', x0, x1⟩ := HX.out _ hB3)
              | (go_at_call 51; (with_reducible refine (num_containsFunc sa S _ _ _ _ wrongM _ ent_wrongM (by omega) (Nat.le_refl _) (HS.out.grow hb1) (asks_wrongM _ _)).mono ?_); rintro e w2 ⟨rfl, hb2⟩; rw [HWS.out]; have hB2 := hb1.trans (hb2.mono hb1.size); obtain ⟨hB2', y0, y1⟩ := HX.out _ hB2))
            generalize (w.alloc (.cells #[.slice ca L.length cc, .slice pa A.length pc] 25)) = W0 at *
            clear z0 z1 y0 y1 x0 x1 hB1 hB2' hB3'
            go_loopw [9, 46] (fun v i wr => ∃ k : Nat, k ≤ A.length ∧ i = .int .i64 k ∧ Below W0.heap.size W0 wr ∧ Hid (wr.ownsRow W0.heap.size 50 2 v (clashTo L A S N k).length (flat (clashTo L A S N k)))) (fun _ i _ => A.length - (intOf i).toNat)
            case atStart => exact ⟨0, Nat.zero_le _, rfl, hB3, Lib.hid (World.ownsRow_nil _ _ _ _)⟩
            case round =>
              clear hB3 hB2 hb1 hb2 hb3
              obtain ⟨k, hk, rfl, hB, HR⟩ := hrel
              obtain ⟨hBw, z0, z1⟩ := HX.out _ hB
              have hbz : w.heap.size < wr.heap.size := World.block_lt_of_cell? _ _ z0
              have hbs := hB.size
              have HIR := Lib.hid (HI.out.grow hB)
              by_cases hlt : k < A.length
              · obtain ⟨b, off, rfl, hbl, hc⟩ := HP.out (by omega)
                obtain ⟨c0, c1⟩ := hc k hlt
                have p0 := (hB.cell (p := ⟨b, off + k * 2, none⟩) hbl).trans c0
                have p1 := (hB.cell (p := ⟨b, off + k * 2 + 1, none⟩) hbl).trans c1
                obtain ⟨m1', m2', hf1, hf2, hm1, hm2, hpp⟩ := linked_pair HLK.out k hlt
                obtain ⟨sb, so, hse, hsl, hsc⟩ := HS.out (by have := HSL.out; omega)
                obtain ⟨nb, no, hne, hnl, hnc⟩ := HN.out (by have := HNL.out; omega)
                subst hse hne
                have s1 := hsc m1' (by have := HSL.out; omega)
                have s2 := hsc m2' (by have := HSL.out; omega)
                have n1 := hnc m1' (by have := HNL.out; omega)
                have n2 := hnc m2' (by have := HNL.out; omega)
                obtain ⟨b1, t1⟩ := wrong_no HWS'.out m1' (by have := HSL.out; omega)
                obtain ⟨b2, t2⟩ := wrong_no HWS'.out m2' (by have := HSL.out; omega)
                obtain ⟨b3, t3⟩ := wrong_no HWN'.out m1' (by have := HNL.out; omega)
                obtain ⟨b4, t4⟩ := wrong_no HWN'.out m2' (by have := HNL.out; omega)
                have hbm1 : m1' < S.length := by have := HSL.out; omega
                have hbm2 : m2' < S.length := by have := HSL.out; omega
                have hbn1 : m1' < N.length := by have := HNL.out; omega
                have hbn2 : m2' < N.length := by have := HNL.out; omega
                obtain ⟨cb, co, hce, hcl, hcc⟩ := HI.out (by omega)
                subst hce
                have HQ1 := Lib.hid ((hcc m1' hm1).1)
                have HQ2 := Lib.hid ((hcc m2' hm2).1)
                have HF1 := Lib.hid hf1
                have HF2 := Lib.hid hf2
                have HCA : Hid (clashTo L A S N (k + 1) = clashTo L A S N k ++ if hitB S N m1' m2' then [((k : Int), (cg L (later S m1' m2')).name)] else []) := Lib.hid (by simp only [clashTo, clashAt]; rw [hf1, hf2]; rfl)
                have HHIT : Hid (hitB S N m1' m2' = (decide (ig S m1' < ig S m2' + ig N m2') && decide (ig S m2' < ig S m1' + ig N m1'))) := Lib.hid rfl
                have HLAT : Hid (later S m1' m2' = if ig S m2' < ig S m1' then m1' else m2') := Lib.hid rfl
                have HCL := Lib.hid (clashTo_len L A S N k)
                have HS1 := Lib.hid s1
                have HS2 := Lib.hid s2
                have HN1 := Lib.hid n1
                have HN2 := Lib.hid n2
                clear hc hf1 hf2 hsc hnc hcc s1 s2 n1 n2 c0 c1
                generalize ig S m1' = x1 at *
                generalize ig S m2' = x2 at *
                generalize ig N m1' = y1 at *
                generalize ig N m2' = y2 at *
                have HBA := Lib.hid (hB.alloc hbs (.cells #[.string (pg A k).1, .string (pg A k).2] 52))
                have HSS : Hid (∀ w', Below (wr.alloc (.cells #[.string (pg A k).1, .string (pg A k).2] 52)).heap.size (wr.alloc (.cells #[.string (pg A k).1, .string (pg A k).2] 52)) w' → Below (wr.alloc (.cells #[.string (pg A k).1, .string (pg A k).2] 52)).heap.size (wr.alloc (.cells #[.string (pg A k).1, .string (pg A k).2] 52)) w' ∧ w'.cell? ⟨w.heap.size, 0, none⟩ = some (.slice (some ⟨cb, co, none⟩) L.length cc) ∧ w'.cell? ⟨w.heap.size, 1, none⟩ = some (.slice (some ⟨b, off, none⟩) A.length pc) ∧ w'.cell? ⟨wr.heap.size, 0, none⟩ = some (.string (pg A k).1) ∧ w'.cell? ⟨wr.heap.size, 1, none⟩ = some (.string (pg A k).2)) := Lib.hid fun w' h =>
                  ⟨h, (h.cell (p := ⟨w.heap.size, 0, none⟩) (by simp; omega)).trans ((World.cell?_alloc_lt _ _ _ hbz).trans z0), (h.cell (p := ⟨w.heap.size, 1, none⟩) (by simp; omega)).trans ((World.cell?_alloc_lt _ _ _ hbz).trans z1), (h.cell (p := ⟨wr.heap.size, 0, none⟩) (by simp)).trans (by simp), (h.cell (p := ⟨wr.heap.size, 1, none⟩) (by simp)).trans (by simp)⟩
                have HIA := Lib.hid (HIR.out.grow (below_new wr (.cells #[.string (pg A k).1, .string (pg A k).2] 52)))
                have hbr := Below.refl (wr.alloc (.cells #[.string (pg A k).1, .string (pg A k).2] 52)).heap.size (wr.alloc (.cells #[.string (pg A k).1, .string (pg A k).2] 52))
                go_wp2_with fail
                go_region_held3 (fun w' => Below (wr.alloc (.cells #[.string (pg A k).1, .string (pg A k).2] 52)).heap.size (wr.alloc (.cells #[.string (pg A k).1, .string (pg A k).2] 52)) w' ∧ w'.cell? ⟨w.heap.size, 0, none⟩ = some (.slice (some ⟨cb, co, none⟩) L.length cc) ∧ w'.cell? ⟨w.heap.size, 1, none⟩ = some (.slice (some ⟨b, off, none⟩) A.length pc) ∧ w'.cell? ⟨wr.heap.size, 0, none⟩ = some (.string (pg A k).1) ∧ w'.cell? ⟨wr.heap.size, 1, none⟩ = some (.string (pg A k).2))
                  (first | exact HSS.out _ hbn | exact HSS.out _ hbr.drew | go_keep)
                  (first
                    | (go_at_call 53; go_split_ands; (with_reducible refine (find_any _ L _ _ (pg A k).1 _ (by omega) ?_).mono ?_); (next => exact HIA.out.grow (by assumption)); rintro e w2 ⟨rfl, hb2⟩; rw [HF1.out]; have hbn := held_next (wr := (wr.alloc (.cells #[.string (pg A k).1, .string (pg A k).2] 52))) (by assumption) hb2)
                    | (go_at_call 53; go_split_ands; (with_reducible refine (find_any _ L _ _ (pg A k).2 _ (by omega) ?_).mono ?_); (next => exact HIA.out.grow (by assumption)); rintro e w2 ⟨rfl, hb2⟩; rw [HF2.out]; have hbn := held_next (wr := (wr.alloc (.cells #[.string (pg A k).1, .string (pg A k).2] 52))) (by assumption) hb2))
                have hB2 := HBA.out.trans (hbn.mono HBA.out.size)
                obtain ⟨_, u0, u1, u2, u3⟩ := HSS.out _ hbn
                have HROW := Lib.hid (ownsRow_below (HR.out.alloc (.cells #[.string (pg A k).1, .string (pg A k).2] 52)) hbn)
                have v1 := (hB2.cell (p := ⟨sb, so + m1', none⟩) hsl).trans HS1.out
                have v2 := (hB2.cell (p := ⟨sb, so + m2', none⟩) hsl).trans HS2.out
                have v3 := (hB2.cell (p := ⟨nb, no + m1', none⟩) hnl).trans HN1.out
                have v4 := (hB2.cell (p := ⟨nb, no + m2', none⟩) hnl).trans HN2.out
                have v5 := (hB2.cell (p := ⟨cb, co + m1' * 7, none⟩) hcl).trans HQ1.out
                have v6 := (hB2.cell (p := ⟨cb, co + m2' * 7, none⟩) hcl).trans HQ2.out
                have hbs2 := hB2.size
                by_cases q1 : x1 < x2 + y2
                · by_cases q2 : x2 < x1 + y1
                  · have HHT : Hid (clashTo L A S N (k + 1) = clashTo L A S N k ++ [((k : Int), (cg L (later S m1' m2')).name)]) := Lib.hid (by rw [HCA.out, HHIT.out, decide_eq_true q1, decide_eq_true q2]; rfl)
                    by_cases q3 : x2 < x1
                    · have HHL : Hid (clashTo L A S N (k + 1) = clashTo L A S N k ++ [((k : Int), (cg L m1').name)]) := Lib.hid (by rw [HHT.out, HLAT.out, if_pos q3])
                      have s1 : IntKind.i64.wrap (x2 + y2) = x2 + y2 := IntWalk.i64_in _ (by omega)
                      have s2 : IntKind.i64.wrap (x1 + y1) = x1 + y1 := IntWalk.i64_in _ (by omega)
                      have g1 : decide (x2 + y2 ≤ x1) = false := decide_eq_false (by omega)
                      have g2 : decide (x1 + y1 ≤ x2) = false := decide_eq_false (by omega)
                      go_wp2_with fail
                      go_quiet (fail)
                      clear s1 s2 g1 g2
                      go_wp2_with fail
                      go_quiet (fail)
                      go_wp2_with (at_builtin; refine fin_append rfl _ _ rfl W0.heap.size _ (clashTo L A S N k) rfl ((own_drewN HROW.out _).alloc _) _ ((k : Int), (cg L m1').name) rfl (new_drew2 _ _ _ _ _) (by have := HCL.out; omega) (by first | omega | (simp; omega)) ?_; intro v7 w7 hown7 hg7; have hB7 := grown_own ((own_drewN HROW.out _).alloc _) hg7 ((below_drewN hB2 _).alloc (by first | omega | (simp; omega)) _) (by first | omega | (simp; omega)) (Nat.le_refl _))
                      go_roundw
                      case rel => exact ⟨k + 1, by omega, by go_num, hB7, Lib.hid (by rw [HHL.out]; exact hown7)⟩
                      case measure => simp [intOf]; omega
                    · have HHL : Hid (clashTo L A S N (k + 1) = clashTo L A S N k ++ [((k : Int), (cg L m2').name)]) := Lib.hid (by rw [HHT.out, HLAT.out, if_neg q3])
                      have s1 : IntKind.i64.wrap (x2 + y2) = x2 + y2 := IntWalk.i64_in _ (by omega)
                      have s2 : IntKind.i64.wrap (x1 + y1) = x1 + y1 := IntWalk.i64_in _ (by omega)
                      have g1 : decide (x2 + y2 ≤ x1) = false := decide_eq_false (by omega)
                      have g2 : decide (x1 + y1 ≤ x2) = false := decide_eq_false (by omega)
                      go_wp2_with fail
                      go_quiet (fail)
                      clear s1 s2 g1 g2
                      go_wp2_with fail
                      go_quiet (fail)
                      go_wp2_with (at_builtin; refine fin_append rfl _ _ rfl W0.heap.size _ (clashTo L A S N k) rfl ((own_drewN HROW.out _).alloc _) _ ((k : Int), (cg L m2').name) rfl (new_drew2 _ _ _ _ _) (by have := HCL.out; omega) (by first | omega | (simp; omega)) ?_; intro v7 w7 hown7 hg7; have hB7 := grown_own ((own_drewN HROW.out _).alloc _) hg7 ((below_drewN hB2 _).alloc (by first | omega | (simp; omega)) _) (by first | omega | (simp; omega)) (Nat.le_refl _))
                      go_roundw
                      case rel => exact ⟨k + 1, by omega, by go_num, hB7, Lib.hid (by rw [HHL.out]; exact hown7)⟩
                      case measure => simp [intOf]; omega
                  · have HHL : Hid (clashTo L A S N (k + 1) = clashTo L A S N k) := Lib.hid (by rw [HCA.out, HHIT.out, decide_eq_false q2, Bool.and_false]; simp)
                    have s1 : IntKind.i64.wrap (x2 + y2) = x2 + y2 := IntWalk.i64_in _ (by omega)
                    have s2 : IntKind.i64.wrap (x1 + y1) = x1 + y1 := IntWalk.i64_in _ (by omega)
                    have g1 : decide (x2 + y2 ≤ x1) = false := decide_eq_false (by omega)
                    have g2 : decide (x1 + y1 ≤ x2) = true := decide_eq_true (by omega)
                    go_wp2_with fail
                    go_quiet (fail)
                    go_wp2_with fail
                    clear s1 s2 g1 g2
                    go_roundw
                    case rel => exact ⟨k + 1, by omega, by go_num, below_drewN hB2 _, Lib.hid (by rw [HHL.out]; exact HROW.out)⟩
                    case measure => simp [intOf]; omega
                · have HHL : Hid (clashTo L A S N (k + 1) = clashTo L A S N k) := Lib.hid (by rw [HCA.out, HHIT.out, decide_eq_false q1]; simp)
                  have s1 : IntKind.i64.wrap (x2 + y2) = x2 + y2 := IntWalk.i64_in _ (by omega)
                  have g1 : decide (x2 + y2 ≤ x1) = true := decide_eq_true (by omega)
                  go_wp2_with fail
                  go_quiet (fail)
                  go_wp2_with fail
                  clear s1 g1
                  go_roundw
                  case rel => exact ⟨k + 1, by omega, by go_num, below_drewN hB2 _, Lib.hid (by rw [HHL.out]; exact HROW.out)⟩
                  case measure => simp [intOf]; omega
              · obtain rfl : k = A.length := by omega
                go_wp2_with fail
                go_ret2
                rw [HCM.out]
                exact Lib.hid ⟨_, rfl, ownsRow_base HR.out hz0, (HX.out _ hB).1⟩
          · have HWN := any_num N wrongM _ hwn
            have HP0 : Hid (clashP L A S N = ([], 2)) := Lib.hid (by rw [HC0.out, hws, hwn]; rfl)
            clear hws hwn
            go_enter Try.func20, Try.ntmps20
            go_wp2_with (first
              | (go_at_call 48; (with_reducible refine (linked_any _ _ L A _ _ _ (by omega) HI.out HP.out).mono ?_); rintro e w1 ⟨rfl, hb1⟩; rw [HLK.out]; obtain ⟨hB1, z0, z1⟩ := HX.out _ hb1)
              | (go_at_call 51; (with_reducible refine (num_containsFunc na N _ _ _ _ wrongM _ ent_wrongM (by omega) (Nat.le_refl _) (HN.out.grow hB2) (asks_wrongM _ _)).mono ?_); rintro e w3 ⟨rfl, hb3⟩; rw [HWN.out]; have hB3 := hB2.trans (hb3.mono hB2.size); obtain ⟨hB3', x0, x1⟩ := HX.out _ hB3)
              | (go_at_call 51; (with_reducible refine (num_containsFunc sa S _ _ _ _ wrongM _ ent_wrongM (by omega) (Nat.le_refl _) (HS.out.grow hb1) (asks_wrongM _ _)).mono ?_); rintro e w2 ⟨rfl, hb2⟩; rw [HWS.out]; have hB2 := hb1.trans (hb2.mono hb1.size); obtain ⟨hB2', y0, y1⟩ := HX.out _ hB2))
            go_ret2
            rw [HP0.out]
            exact Lib.hid ⟨_, rfl, World.ownsRow_nil _ _ _ _, hB3'⟩
        · have HWS := any_num S wrongM _ hws
          have HP0 : Hid (clashP L A S N = ([], 2)) := Lib.hid (by rw [HC0.out, hws]; rfl)
          clear hws
          go_enter Try.func20, Try.ntmps20
          go_wp2_with (first
            | (go_at_call 48; (with_reducible refine (linked_any _ _ L A _ _ _ (by omega) HI.out HP.out).mono ?_); rintro e w1 ⟨rfl, hb1⟩; rw [HLK.out]; obtain ⟨hB1, z0, z1⟩ := HX.out _ hb1)
            | (go_at_call 51; (with_reducible refine (num_containsFunc sa S _ _ _ _ wrongM _ ent_wrongM (by omega) (Nat.le_refl _) (HS.out.grow hb1) (asks_wrongM _ _)).mono ?_); rintro e w2 ⟨rfl, hb2⟩; rw [HWS.out]; have hB2 := hb1.trans (hb2.mono hb1.size); obtain ⟨hB2', y0, y1⟩ := HX.out _ hB2))
          go_ret2
          rw [HP0.out]
          exact Lib.hid ⟨_, rfl, World.ownsRow_nil _ _ _ _, hB2'⟩
      · have m1 : ((S.length : Int) != (L.length : Int)) = false := by rw [bne_eq_false_iff_eq]; omega
        have m2 : ((N.length : Int) != (L.length : Int)) = true := bne_iff_ne.2 (by omega)
        have HP0 : Hid (clashP L A S N = ([], 3)) := Lib.hid (by unfold clashP; rw [hlk, if_pos rfl, if_neg (fun h => hn1 h.2)])
        clear hlk hs1 hn1
        go_enter Try.func20, Try.ntmps20
        go_wp2_with (first
          | (go_at_call 48; (with_reducible refine (linked_any _ _ L A _ _ _ (by omega) HI.out HP.out).mono ?_); rintro e w1 ⟨rfl, hb1⟩; rw [HLK.out]; obtain ⟨hB1, z0, z1⟩ := HX.out _ hb1))
        go_ret2
        rw [HP0.out]
        exact Lib.hid ⟨_, rfl, World.ownsRow_nil _ _ _ _, hB1⟩
    · have m1 : ((S.length : Int) != (L.length : Int)) = true := bne_iff_ne.2 (by omega)
      have HP0 : Hid (clashP L A S N = ([], 3)) := Lib.hid (by unfold clashP; rw [hlk, if_pos rfl, if_neg (fun h => hs1 h.1)])
      clear hlk hs1
      go_enter Try.func20, Try.ntmps20
      go_wp2_with (first
        | (go_at_call 48; (with_reducible refine (linked_any _ _ L A _ _ _ (by omega) HI.out HP.out).mono ?_); rintro e w1 ⟨rfl, hb1⟩; rw [HLK.out]; obtain ⟨hB1, z0, z1⟩ := HX.out _ hb1))
      go_ret2
      rw [HP0.out]
      exact Lib.hid ⟨_, rfl, World.ownsRow_nil _ _ _ _, hB1⟩
end Go.Proofs.Ytapjhjpibefooaa
