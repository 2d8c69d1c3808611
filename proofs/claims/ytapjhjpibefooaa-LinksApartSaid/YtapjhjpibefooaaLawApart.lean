/-
  THE WALK of the law LinksApart.
-/
import Derived.Test.YtapjhjpibefooaaLawClash
import Derived.Test.YtapjhjpibefooaaApartP
import Derived.Deep.RegionHeld3
import Derived.IntWalk
import Derived.BigQuiet
import Derived.Deep.QuietTactic
import Derived.Outline
namespace Go.Proofs.Ytapjhjpibefooaa
open Go.RowKit Go.Shelf

set_option maxRecDepth 100000 in
set_option maxHeartbeats 16000000 in
theorem apart_law (ca pa sa na : Option Addr) (L : List CueR) (A : List (ByteArray × ByteArray)) (S N : List Int) (cc pc sc nc : Nat) (w : World) (hI : Cues w.heap.size w ca L) (hP : Pairs w.heap.size w pa A) (hS : Nums w.heap.size w sa S) (hN : Nums w.heap.size w na N) :
    Calls Try.prog 5 #[.agg #[.slice ca L.length cc, .slice pa A.length pc], .slice sa S.length sc, .slice na N.length nc] w fun e w' => e = .returned (.bool true) ∧ Below w.heap.size w w' := by
  have hb0 : Below w.heap.size w (w.alloc (.cells #[.slice ca L.length cc, .slice pa A.length pc] 25)) := below_new w _
  have HI := Lib.hid (hI.grow hb0)
  have HP := Lib.hid (hP.grow hb0)
  have HS := Lib.hid (hS.grow hb0)
  have HN := Lib.hid (hN.grow hb0)
  have HX : Hid (∀ wr, Below (w.alloc (.cells #[.slice ca L.length cc, .slice pa A.length pc] 25)).heap.size (w.alloc (.cells #[.slice ca L.length cc, .slice pa A.length pc] 25)) wr → Below w.heap.size w wr) := Lib.hid fun wr h => mono_in _ h
  have X0 : ∀ wr, Below (w.alloc (.cells #[.slice ca L.length cc, .slice pa A.length pc] 25)).heap.size (w.alloc (.cells #[.slice ca L.length cc, .slice pa A.length pc] 25)) wr → wr.cell? ⟨w.heap.size, 0, none⟩ = some (.slice ca L.length cc) := fun wr h => (box2 h).1
  have X1 : ∀ wr, Below (w.alloc (.cells #[.slice ca L.length cc, .slice pa A.length pc] 25)).heap.size (w.alloc (.cells #[.slice ca L.length cc, .slice pa A.length pc] 25)) wr → wr.cell? ⟨w.heap.size, 1, none⟩ = some (.slice pa A.length pc) := fun wr h => (box2 h).2
  clear hb0 hI hP hS hN
  cases hlb : largeB L A
  · have HLB := Lib.hid hlb
    obtain ⟨hl1, hl2, hl3⟩ := large_len hlb
    clear hlb
    by_cases q1 : (100 : Int) < S.length
    · have g1 := decide_eq_true q1
      go_enter Try.func5, Try.ntmps5
      go_wp2_with fail
      generalize (w.alloc (.cells #[.slice ca L.length cc, .slice pa A.length pc] 25)) = W0 at *
      go_wp2_with (first
        | (go_at_call 10; (with_reducible refine (awake_any _).mono ?_); rintro e w1 ⟨rfl, hB1⟩)
        | (go_at_call 11; (with_reducible refine (large_any _ _ L A _ _ _ (HI.out.grow hB1) (HP.out.grow hB1)).mono ?_); rintro e w2 ⟨rfl, hb2⟩; rw [HLB.out]; have hB2 := hB1.trans (hb2.mono hB1.size); clear hb2))
      go_ret
      exact ⟨rfl, HX.out _ hB2⟩
    · have g1 := decide_eq_false q1
      by_cases q2 : (100 : Int) < N.length
      · have g2 := decide_eq_true q2
        go_enter Try.func5, Try.ntmps5
        go_wp2_with fail
        generalize (w.alloc (.cells #[.slice ca L.length cc, .slice pa A.length pc] 25)) = W0 at *
        go_wp2_with (first
          | (go_at_call 10; (with_reducible refine (awake_any _).mono ?_); rintro e w1 ⟨rfl, hB1⟩)
          | (go_at_call 11; (with_reducible refine (large_any _ _ L A _ _ _ (HI.out.grow hB1) (HP.out.grow hB1)).mono ?_); rintro e w2 ⟨rfl, hb2⟩; rw [HLB.out]; have hB2 := hB1.trans (hb2.mono hB1.size); clear hb2))
        go_ret
        exact ⟨rfl, HX.out _ hB2⟩
      · have g2 := decide_eq_false q2
        have hsl : S.length ≤ 100 := by omega
        have hnl : N.length ≤ 100 := by omega
        clear q1 q2
        rcases clash_cases L A S N with ⟨ec, he, hc1, hc2⟩ | ⟨hlk, hSL, hNL, hSW, hNW, hc1, hc2⟩
        · have HC1 := Lib.hid hc1
          have HC2 := Lib.hid hc2
          have m1 : (ec != 0) = true := bne_iff_ne.2 he
          have m2 : (ec != ec) = false := bne_self_eq_false _
          clear he hc1 hc2
          go_enter Try.func5, Try.ntmps5
          go_wp2_with fail
          generalize (w.alloc (.cells #[.slice ca L.length cc, .slice pa A.length pc] 25)) = W0 at *
          go_wp2_with (first
            | (go_at_call 10; (with_reducible refine (awake_any _).mono ?_); rintro e w1 ⟨rfl, hB1⟩)
            | (go_at_call 11; (with_reducible refine (large_any _ _ L A _ _ _ (HI.out.grow hB1) (HP.out.grow hB1)).mono ?_); rintro e w2 ⟨rfl, hb2⟩; rw [HLB.out]; have hB2 := hB1.trans (hb2.mono hB1.size); clear hb2)
            | (go_at_call 20; (with_reducible refine (clash_any _ _ _ _ L A S N _ _ _ _ _ (by omega) (by omega) (by omega) (HI.out.grow hB2) (HP.out.grow hB2) (HS.out.grow hB2) (HN.out.grow hB2)).mono ?_); rintro e w3 hx; obtain ⟨v3, rfl, hr3, hb3⟩ := hx.out; rw [HC1.out] at hr3; rw [HC1.out]; have hB3 := hB2.trans (hb3.mono hB2.size); obtain ⟨a3, c3, rfl, _, _, _, hf3⟩ := fin_of_row hr3; have HF3 := Lib.hid hf3; have h3z : w.heap.size < w3.heap.size := World.block_lt_of_cell? _ _ (X0 _ hB3); clear hx hr3 hf3 hb3))
          have hW3 : Below w3.heap.size w3 (w3.alloc (.cells #[.slice ca L.length cc, .slice none 0 0] 25)) := below_new w3 _
          have e0 : ((w3.alloc (.cells #[.slice ca L.length cc, .slice none 0 0] 25))).cell? ⟨w3.heap.size, 0, none⟩ = some (.slice ca L.length cc) := by simp
          have e1 : ((w3.alloc (.cells #[.slice ca L.length cc, .slice none 0 0] 25))).cell? ⟨w3.heap.size, 1, none⟩ = some (.slice none 0 0) := by simp
          have ef : ((w3.alloc (.cells #[.slice ca L.length cc, .slice none 0 0] 25))).frozen? ⟨w3.heap.size, 1, none⟩ = false := by simp
          have ez : w3.heap.size < ((w3.alloc (.cells #[.slice ca L.length cc, .slice none 0 0] 25))).heap.size := by simp
          generalize (w3.alloc (.cells #[.slice ca L.length cc, .slice none 0 0] 25)) = wb at *
          go_loopw [45] (fun v wr => ∃ k : Nat, k ≤ A.length ∧ v = .int .i64 k ∧ Below w3.heap.size w3 wr ∧ wr.cell? ⟨w3.heap.size, 0, none⟩ = some (.slice ca L.length cc) ∧ wr.frozen? ⟨w3.heap.size, 1, none⟩ = false ∧ Hid (∃ u, wr.cell? ⟨w3.heap.size, 1, none⟩ = some u ∧ wr.ownsRow (w3.heap.size + 1) 52 2 u (swp (A.take k)).length (pflat (swp (A.take k))))) (fun v _ => A.length - (intOf v).toNat)
          case atStart => exact ⟨0, Nat.zero_le _, rfl, hW3, e0, ef, Lib.hid ⟨_, e1, World.ownsRow_nil _ _ _ _⟩⟩
          case round =>
            clear hW3 e0 e1 ef ez
            obtain ⟨k, hk, rfl, hC, e0, ef, HU⟩ := hrel
            obtain ⟨u, e1, hr⟩ := HU.out
            have HR := Lib.hid hr
            have hB : Below W0.heap.size W0 wr := hB3.trans (hC.mono hB3.size)
            have ez : w3.heap.size < wr.heap.size := World.block_lt_of_cell? _ _ e0
            have h4z : w.heap.size < wr.heap.size := by omega
            have HSL2 : Hid ((swp (A.take k)).length ≤ 1000000) := Lib.hid (by rw [swp_len, List.length_take]; omega)
            clear hr HU
            by_cases hlt : k < A.length
            · obtain ⟨pb, po, rfl, hpb, hpc⟩ := HP.out (by omega)
              have K1 : ∀ wr, Below W0.heap.size W0 wr → wr.cell? ⟨pb, po + k * 2, none⟩ = some (.string (pg A k).1) := fun wr h => (h.cell (p := ⟨pb, po + k * 2, none⟩) hpb).trans (hpc k hlt).1
              have K2 : ∀ wr, Below W0.heap.size W0 wr → wr.cell? ⟨pb, po + k * 2 + 1, none⟩ = some (.string (pg A k).2) := fun wr h => (h.cell (p := ⟨pb, po + k * 2 + 1, none⟩) hpb).trans (hpc k hlt).2
              have HST := Lib.hid (swp_take A k hlt)
              have e1a : ∀ o, (wr.alloc o).cell? ⟨w3.heap.size, 1, none⟩ = some u := fun o => ((below_new wr o).cell (p := ⟨w3.heap.size, 1, none⟩) ez).trans e1
              clear hpc
              go_wp2_with (at_builtin; refine pair_append rfl _ _ rfl (w3.heap.size + 1) _ (swp (A.take k)) rfl ((HR.out.alloc (.cells #[.string (pg A k).1, .string (pg A k).2] 52)).alloc _) _ ((pg A k).2, (pg A k).1) rfl (by simp) HSL2.out (by first | omega | (simp; omega)) ?_; intro v5 w5 hown5 hg5; obtain ⟨a5, c5, rfl, _, _, _, _⟩ := pair_of_row hown5; have hown6 : w5.ownsRow (w3.heap.size + 1) 52 2 (.slice a5 ((swp (A.take k)).length + 1) c5) ((swp (A.take k)).length + 1) (pflat (swp (A.take k) ++ [((pg A k).2, (pg A k).1)])) := (by simpa using hown5); have hBn : Below (w3.heap.size + 1) wr w5 := grown_own ((HR.out.alloc (.cells #[.string (pg A k).1, .string (pg A k).2] 52)).alloc (.cells #[.string (pg A k).2, .string (pg A k).1] 52)) hg5 (((Below.refl _ _).alloc (by omega) (.cells #[.string (pg A k).1, .string (pg A k).2] 52)).alloc (by first | omega | (simp; omega)) _) (by first | omega | (simp; omega)) (Nat.le_refl _); have d0 := (hBn.cell (p := ⟨w3.heap.size, 0, none⟩) (Nat.lt_succ_self _)).trans e0; have d1 := (hBn.cell (p := ⟨w3.heap.size, 1, none⟩) (Nat.lt_succ_self _)).trans e1; have df := (hBn.frozen (p := ⟨w3.heap.size, 1, none⟩) (Nat.lt_succ_self _)).trans ef)
              go_roundw
              case rel => exact ⟨k + 1, by omega, by go_num, (hC.trans (hBn.mono (Nat.le_succ _))).setCell (Nat.le_refl _) _, (World.cell?_setCell_other _ _ _ _ (fun x => absurd (congrArg Addr.off x) (by simp))).trans d0, by simpa using df, Lib.hid ⟨_, World.cell?_setCell_same _ _ _ d1, by rw [HST.out, List.length_append, List.length_singleton]; exact ownsRow_setCell_below hown6 (a := ⟨w3.heap.size, 1, none⟩) (Nat.lt_succ_self _) _⟩⟩
              case measure => simp [intOf]; omega
            · obtain rfl : k = A.length := by omega
              rw [List.take_length] at HR
              obtain ⟨a4, c4, rfl, _, _, _, hf4⟩ := pair_of_row HR.out
              have HF4 := Lib.hid hf4
              have HF34 := Lib.hid (HF3.out.grow hC)
              have SWL := Lib.hid (swp_len A)
              clear hf4 HR hk hlt HSL2
              rw [swp_len] at e1
              go_wp2_with (go_at_call 20; (with_reducible refine (clash_n _ _ _ _ L (swp A) S N _ _ _ _ _ _ (swp_len A).symm (by omega) (by omega) (by omega) (HI.out.grow hB) HF4.out (HS.out.grow hB) (HN.out.grow hB)).mono ?_); rintro e w6 hx; obtain ⟨v6, rfl, hr6, hb6⟩ := hx.out; rw [HC2.out] at hr6; rw [HC2.out]; have hB6 := hB.trans (hb6.mono hB.size); obtain ⟨a6, c6, rfl, _, _, _, hf6⟩ := fin_of_row hr6; have HF6 := Lib.hid hf6; have HF36 := Lib.hid (HF34.out.grow hb6); clear hx hr6 hf6 hb6)
              go_ret
              exact ⟨rfl, HX.out _ hB6⟩
        · skip
          have HC1 := Lib.hid hc1
          have HC2 := Lib.hid hc2
          have hwl := clashTo_swp L A S N A.length (Nat.le_refl _)
          have hvl := clashTo_len L A S N A.length
          obtain ⟨V, hV⟩ : ∃ V, clashTo L A S N A.length = V := ⟨_, rfl⟩
          obtain ⟨V2, hV2⟩ : ∃ V2, clashTo L (swp A) S N A.length = V2 := ⟨_, rfl⟩
          have HK : Hid (∀ k, k < A.length → ∃ m1 m2 : Nat, m1 < L.length ∧ m2 < L.length ∧ findI L (pg A k).1 = m1 ∧ findI L (pg A k).2 = m2 ∧ fin_any V (fun r => decide (r.1 = (k : Int))) = hitB S N m1 m2 ∧ fin_any V2 (fun r => decide (r.1 = (k : Int))) = hitB S N m1 m2) := Lib.hid fun k hk => by
            obtain ⟨m1, m2, h1, h2, hm1, hm2, _⟩ := linked_pair hlk k hk
            refine ⟨m1, m2, hm1, hm2, h1, h2, ?_, ?_⟩
            · rw [fin_any_eq, ← hV, clash_kind, decide_eq_true hk, h1, h2]; rfl
            · rw [fin_any_eq, ← hV2, clash_kind, decide_eq_true hk, pg_swp A k hk, h1, h2]; exact hit_comm S N m1 m2
          rw [hV, hV2] at hwl
          rw [hV] at HC1 hvl
          rw [hV2] at HC2
          have m3 : ((V.length : Int) != (V2.length : Int)) = false := by rw [bne_eq_false_iff_eq]; omega
          have HSB : Hid (∀ x, x < S.length → 0 ≤ ig S x ∧ ig S x ≤ 1099511627776) := Lib.hid fun x hx => wrong_no hSW x hx
          have HNB : Hid (∀ x, x < N.length → 0 ≤ ig N x ∧ ig N x ≤ 1099511627776) := Lib.hid fun x hx => wrong_no hNW x hx
          have HSL := Lib.hid hSL
          have HNL := Lib.hid hNL
          have hvl2 : V2.length ≤ 30 := by omega
          have hvl1 : V.length ≤ 30 := by omega
          clear hlk hSL hNL hSW hNW hc1 hc2 hV hV2 hwl hvl
          go_enter Try.func5, Try.ntmps5
          go_wp2_with fail
          generalize (w.alloc (.cells #[.slice ca L.length cc, .slice pa A.length pc] 25)) = W0 at *
          go_wp2_with (first
            | (go_at_call 10; (with_reducible refine (awake_any _).mono ?_); rintro e w1 ⟨rfl, hB1⟩)
            | (go_at_call 11; (with_reducible refine (large_any _ _ L A _ _ _ (HI.out.grow hB1) (HP.out.grow hB1)).mono ?_); rintro e w2 ⟨rfl, hb2⟩; rw [HLB.out]; have hB2 := hB1.trans (hb2.mono hB1.size); clear hb2)
            | (go_at_call 20; (with_reducible refine (clash_any _ _ _ _ L A S N _ _ _ _ _ (by omega) (by omega) (by omega) (HI.out.grow hB2) (HP.out.grow hB2) (HS.out.grow hB2) (HN.out.grow hB2)).mono ?_); rintro e w3 hx; obtain ⟨v3, rfl, hr3, hb3⟩ := hx.out; rw [HC1.out] at hr3; rw [HC1.out]; have hB3 := hB2.trans (hb3.mono hB2.size); obtain ⟨a3, c3, rfl, _, _, _, hf3⟩ := fin_of_row hr3; have HF3 := Lib.hid hf3; have h3z : w.heap.size < w3.heap.size := World.block_lt_of_cell? _ _ (X0 _ hB3); clear hx hr3 hf3 hb3))
          have hW3 : Below w3.heap.size w3 (w3.alloc (.cells #[.slice ca L.length cc, .slice none 0 0] 25)) := below_new w3 _
          have e0 : ((w3.alloc (.cells #[.slice ca L.length cc, .slice none 0 0] 25))).cell? ⟨w3.heap.size, 0, none⟩ = some (.slice ca L.length cc) := by simp
          have e1 : ((w3.alloc (.cells #[.slice ca L.length cc, .slice none 0 0] 25))).cell? ⟨w3.heap.size, 1, none⟩ = some (.slice none 0 0) := by simp
          have ef : ((w3.alloc (.cells #[.slice ca L.length cc, .slice none 0 0] 25))).frozen? ⟨w3.heap.size, 1, none⟩ = false := by simp
          have ez : w3.heap.size < ((w3.alloc (.cells #[.slice ca L.length cc, .slice none 0 0] 25))).heap.size := by simp
          generalize (w3.alloc (.cells #[.slice ca L.length cc, .slice none 0 0] 25)) = wb at *
          go_loopw [45] (fun v wr => ∃ k : Nat, k ≤ A.length ∧ v = .int .i64 k ∧ Below w3.heap.size w3 wr ∧ wr.cell? ⟨w3.heap.size, 0, none⟩ = some (.slice ca L.length cc) ∧ wr.frozen? ⟨w3.heap.size, 1, none⟩ = false ∧ Hid (∃ u, wr.cell? ⟨w3.heap.size, 1, none⟩ = some u ∧ wr.ownsRow (w3.heap.size + 1) 52 2 u (swp (A.take k)).length (pflat (swp (A.take k))))) (fun v _ => A.length - (intOf v).toNat)
          case atStart => exact ⟨0, Nat.zero_le _, rfl, hW3, e0, ef, Lib.hid ⟨_, e1, World.ownsRow_nil _ _ _ _⟩⟩
          case round =>
            clear hW3 e0 e1 ef ez
            obtain ⟨k, hk, rfl, hC, e0, ef, HU⟩ := hrel
            obtain ⟨u, e1, hr⟩ := HU.out
            have HR := Lib.hid hr
            have hB : Below W0.heap.size W0 wr := hB3.trans (hC.mono hB3.size)
            have ez : w3.heap.size < wr.heap.size := World.block_lt_of_cell? _ _ e0
            have h4z : w.heap.size < wr.heap.size := by omega
            have HSL2 : Hid ((swp (A.take k)).length ≤ 1000000) := Lib.hid (by rw [swp_len, List.length_take]; omega)
            clear hr HU
            by_cases hlt : k < A.length
            · obtain ⟨pb, po, rfl, hpb, hpc⟩ := HP.out (by omega)
              have K1 : ∀ wr, Below W0.heap.size W0 wr → wr.cell? ⟨pb, po + k * 2, none⟩ = some (.string (pg A k).1) := fun wr h => (h.cell (p := ⟨pb, po + k * 2, none⟩) hpb).trans (hpc k hlt).1
              have K2 : ∀ wr, Below W0.heap.size W0 wr → wr.cell? ⟨pb, po + k * 2 + 1, none⟩ = some (.string (pg A k).2) := fun wr h => (h.cell (p := ⟨pb, po + k * 2 + 1, none⟩) hpb).trans (hpc k hlt).2
              have HST := Lib.hid (swp_take A k hlt)
              have e1a : ∀ o, (wr.alloc o).cell? ⟨w3.heap.size, 1, none⟩ = some u := fun o => ((below_new wr o).cell (p := ⟨w3.heap.size, 1, none⟩) ez).trans e1
              clear hpc
              go_wp2_with (at_builtin; refine pair_append rfl _ _ rfl (w3.heap.size + 1) _ (swp (A.take k)) rfl ((HR.out.alloc (.cells #[.string (pg A k).1, .string (pg A k).2] 52)).alloc _) _ ((pg A k).2, (pg A k).1) rfl (by simp) HSL2.out (by first | omega | (simp; omega)) ?_; intro v5 w5 hown5 hg5; obtain ⟨a5, c5, rfl, _, _, _, _⟩ := pair_of_row hown5; have hown6 : w5.ownsRow (w3.heap.size + 1) 52 2 (.slice a5 ((swp (A.take k)).length + 1) c5) ((swp (A.take k)).length + 1) (pflat (swp (A.take k) ++ [((pg A k).2, (pg A k).1)])) := (by simpa using hown5); have hBn : Below (w3.heap.size + 1) wr w5 := grown_own ((HR.out.alloc (.cells #[.string (pg A k).1, .string (pg A k).2] 52)).alloc (.cells #[.string (pg A k).2, .string (pg A k).1] 52)) hg5 (((Below.refl _ _).alloc (by omega) (.cells #[.string (pg A k).1, .string (pg A k).2] 52)).alloc (by first | omega | (simp; omega)) _) (by first | omega | (simp; omega)) (Nat.le_refl _); have d0 := (hBn.cell (p := ⟨w3.heap.size, 0, none⟩) (Nat.lt_succ_self _)).trans e0; have d1 := (hBn.cell (p := ⟨w3.heap.size, 1, none⟩) (Nat.lt_succ_self _)).trans e1; have df := (hBn.frozen (p := ⟨w3.heap.size, 1, none⟩) (Nat.lt_succ_self _)).trans ef)
              go_roundw
              case rel => exact ⟨k + 1, by omega, by go_num, (hC.trans (hBn.mono (Nat.le_succ _))).setCell (Nat.le_refl _) _, (World.cell?_setCell_other _ _ _ _ (fun x => absurd (congrArg Addr.off x) (by simp))).trans d0, by simpa using df, Lib.hid ⟨_, World.cell?_setCell_same _ _ _ d1, by rw [HST.out, List.length_append, List.length_singleton]; exact ownsRow_setCell_below hown6 (a := ⟨w3.heap.size, 1, none⟩) (Nat.lt_succ_self _) _⟩⟩
              case measure => simp [intOf]; omega
            · obtain rfl : k = A.length := by omega
              rw [List.take_length] at HR
              obtain ⟨a4, c4, rfl, _, _, _, hf4⟩ := pair_of_row HR.out
              have HF4 := Lib.hid hf4
              have HF34 := Lib.hid (HF3.out.grow hC)
              have SWL := Lib.hid (swp_len A)
              clear hf4 HR hk hlt HSL2
              rw [swp_len] at e1
              go_wp2_with (go_at_call 20; (with_reducible refine (clash_n _ _ _ _ L (swp A) S N _ _ _ _ _ _ (swp_len A).symm (by omega) (by omega) (by omega) (HI.out.grow hB) HF4.out (HS.out.grow hB) (HN.out.grow hB)).mono ?_); rintro e w6 hx; obtain ⟨v6, rfl, hr6, hb6⟩ := hx.out; rw [HC2.out] at hr6; rw [HC2.out]; have hB6 := hB.trans (hb6.mono hB.size); obtain ⟨a6, c6, rfl, _, _, _, hf6⟩ := fin_of_row hr6; have HF6 := Lib.hid hf6; have HF36 := Lib.hid (HF34.out.grow hb6); clear hx hr6 hf6 hb6)
              clear e0 e1 ef ez hC HF4 HF34 h4z
              obtain ⟨wo, rfl⟩ : ∃ wo : World, wo = wr := ⟨_, rfl⟩
              go_loopw [86] (fun v wr => ∃ k : Nat, k ≤ A.length ∧ v = .int .i64 k ∧ Below w6.heap.size w6 wr) (fun v _ => A.length - (intOf v).toNat)
              case atStart => exact ⟨0, Nat.zero_le _, rfl, Below.refl _ _⟩
              case round =>
                obtain ⟨k, hk, rfl, hD⟩ := hrel
                have hBD : Below W0.heap.size W0 wr := hB6.trans (hD.mono hB6.size)
                by_cases hlt : k < A.length
                · obtain ⟨m1, m2, hm1, hm2, hf1, hf2, hh1, hh2⟩ := HK.out k hlt
                  have hz : w.heap.size < wr.heap.size := World.block_lt_of_cell? _ _ (X0 _ hBD)
                  obtain ⟨pb, po, rfl, hpb, hpc⟩ := HP.out (by omega)
                  have HSS : Hid (∀ w', Below (wr.alloc (.cells #[.int .i64 (k : Int)] 3)).heap.size (wr.alloc (.cells #[.int .i64 (k : Int)] 3)) w' → Below (wr.alloc (.cells #[.int .i64 (k : Int)] 3)).heap.size (wr.alloc (.cells #[.int .i64 (k : Int)] 3)) w' ∧ w'.cell? ⟨w.heap.size, 0, none⟩ = some (.slice ca L.length cc) ∧ w'.cell? ⟨w.heap.size, 1, none⟩ = some (.slice (some ⟨pb, po, none⟩) A.length pc) ∧ w'.cell? ⟨wr.heap.size, 0, none⟩ = some (.int .i64 (k : Int)) ∧ w'.cell? ⟨pb, po + k * 2, none⟩ = some (.string (pg A k).1) ∧ w'.cell? ⟨pb, po + k * 2 + 1, none⟩ = some (.string (pg A k).2)) := Lib.hid fun w' h =>
                    have hX := hBD.trans ((below_new wr (.cells #[.int .i64 (k : Int)] 3)).trans (h.mono (by simp)) |>.mono hBD.size)
                    ⟨h, X0 _ hX, X1 _ hX, (h.cell (p := ⟨wr.heap.size, 0, none⟩) (by simp)).trans (by simp), (hX.cell (p := ⟨pb, po + k * 2, none⟩) hpb).trans (hpc k hlt).1, (hX.cell (p := ⟨pb, po + k * 2 + 1, none⟩) hpb).trans (hpc k hlt).2⟩
                  have HIA := Lib.hid ((HI.out.grow hBD).grow (below_new wr (.cells #[.int .i64 (k : Int)] 3)))
                  have HOLD : Hid (∀ w', Below (wr.alloc (.cells #[.int .i64 (k : Int)] 3)).heap.size (wr.alloc (.cells #[.int .i64 (k : Int)] 3)) w' → Below W0.heap.size W0 w' ∧ Below w6.heap.size w6 w') := Lib.hid fun w' h =>
                    ⟨hBD.trans ((below_new wr (.cells #[.int .i64 (k : Int)] 3)).trans (h.mono (by simp)) |>.mono hBD.size), hD.trans ((below_new wr (.cells #[.int .i64 (k : Int)] 3)).trans (h.mono (by simp)) |>.mono hD.size)⟩
                  have hbr := Below.refl (wr.alloc (.cells #[.int .i64 (k : Int)] 3)).heap.size (wr.alloc (.cells #[.int .i64 (k : Int)] 3))
                  have HF1 := Lib.hid hf1
                  have HF2 := Lib.hid hf2
                  have HH1 := Lib.hid hh1
                  have HH2 := Lib.hid hh2
                  have h1S : m1 < S.length := by have := HSL.out; omega
                  have h2S : m2 < S.length := by have := HSL.out; omega
                  have h1N : m1 < N.length := by have := HNL.out; omega
                  have h2N : m2 < N.length := by have := HNL.out; omega
                  obtain ⟨sb, so, rfl, hsb, hsc⟩ := HS.out (by omega)
                  obtain ⟨nb, no, rfl, hnb, hnc⟩ := HN.out (by omega)
                  have K1 : ∀ wr, Below W0.heap.size W0 wr → wr.cell? ⟨sb, so + m1, none⟩ = some (.int .i64 (ig S m1)) := fun wr h => (h.cell (p := ⟨sb, so + m1, none⟩) hsb).trans (hsc m1 h1S)
                  have K2 : ∀ wr, Below W0.heap.size W0 wr → wr.cell? ⟨sb, so + m2, none⟩ = some (.int .i64 (ig S m2)) := fun wr h => (h.cell (p := ⟨sb, so + m2, none⟩) hsb).trans (hsc m2 h2S)
                  have K3 : ∀ wr, Below W0.heap.size W0 wr → wr.cell? ⟨nb, no + m1, none⟩ = some (.int .i64 (ig N m1)) := fun wr h => (h.cell (p := ⟨nb, no + m1, none⟩) hnb).trans (hnc m1 h1N)
                  have K4 : ∀ wr, Below W0.heap.size W0 wr → wr.cell? ⟨nb, no + m2, none⟩ = some (.int .i64 (ig N m2)) := fun wr h => (h.cell (p := ⟨nb, no + m2, none⟩) hnb).trans (hnc m2 h2N)
                  obtain ⟨l1, u1⟩ := HSB.out m1 h1S
                  obtain ⟨l2, u2⟩ := HSB.out m2 h2S
                  obtain ⟨l3, u3⟩ := HNB.out m1 h1N
                  obtain ⟨l4, u4⟩ := HNB.out m2 h2N
                  have HHD : Hid (hitB S N m1 m2 = (decide (ig S m1 < ig S m2 + ig N m2) && decide (ig S m2 < ig S m1 + ig N m1))) := Lib.hid rfl
                  generalize ig S m1 = x1 at *
                  generalize ig S m2 = x2 at *
                  generalize ig N m1 = y1 at *
                  generalize ig N m2 = y2 at *
                  clear hf1 hf2 hh1 hh2 hpc hsc hnc
                  have HX0 := Lib.hid X0
                  have HX1 := Lib.hid X1
                  have HK1 := Lib.hid K1
                  have HK2 := Lib.hid K2
                  have HK3 := Lib.hid K3
                  have HK4 := Lib.hid K4
                  clear X0 X1 K1 K2 K3 K4
                  by_cases hh : x1 < x2 + y2 ∧ x2 < x1 + y1
                  · have HHT : Hid (hitB S N m1 m2 = true) := Lib.hid (by rw [HHD.out, decide_eq_true hh.1, decide_eq_true hh.2]; rfl)
                    have b1 : decide (x1 + y1 ≤ x2) = false := decide_eq_false (by omega)
                    have b2 : decide (x2 + y2 ≤ x1) = false := decide_eq_false (by omega)
                    have HHH := Lib.hid hh
                    clear hh
                    go_wp2_with fail
                    go_region_held3 (fun w' => Below (wr.alloc (.cells #[.int .i64 (k : Int)] 3)).heap.size (wr.alloc (.cells #[.int .i64 (k : Int)] 3)) w' ∧ w'.cell? ⟨w.heap.size, 0, none⟩ = some (.slice ca L.length cc) ∧ w'.cell? ⟨w.heap.size, 1, none⟩ = some (.slice (some ⟨pb, po, none⟩) A.length pc) ∧ w'.cell? ⟨wr.heap.size, 0, none⟩ = some (.int .i64 (k : Int)) ∧ w'.cell? ⟨pb, po + k * 2, none⟩ = some (.string (pg A k).1) ∧ w'.cell? ⟨pb, po + k * 2 + 1, none⟩ = some (.string (pg A k).2))
                      (first | exact HSS.out _ hbn | exact HSS.out _ hbr.drew | go_keep)
                      (first
                        | (go_at_call 23; go_split_ands; (with_reducible refine (apart_find ca L cc _ (pg A k).1 _ (by omega) ?_ ?_).mono ?_); (next => assumption); (next => exact HIA.out.grow (by assumption)); rintro e w2 ⟨rfl, hb2⟩; rw [HF1.out]; have hbn := held_next (wr := (wr.alloc (.cells #[.int .i64 (k : Int)] 3))) (by assumption) hb2)
                        | (go_at_call 23; go_split_ands; (with_reducible refine (apart_find ca L cc _ (pg A k).2 _ (by omega) ?_ ?_).mono ?_); (next => assumption); (next => exact HIA.out.grow (by assumption)); rintro e w2 ⟨rfl, hb2⟩; rw [HF2.out]; have hbn := held_next (wr := (wr.alloc (.cells #[.int .i64 (k : Int)] 3))) (by assumption) hb2))
                    obtain ⟨hBc, hCc⟩ := HOLD.out _ hbn
                    obtain ⟨_, _, _, kc, _, _⟩ := HSS.out _ hbn
                    have X0 := HX0.out
                    have X1 := HX1.out
                    go_wp2_with (first
                      | (go_at_call 26; (with_reducible refine (fin_containsFunc _ V _ _ _ _ (fun r => decide (r.1 = (k : Int))) _ ent_kind2 (by omega) (Nat.le_refl _) (HF36.out.grow hCc) (asks_kind2 wr.heap.size (k : Int) _ _ (World.block_lt_of_cell? _ _ kc) kc)).mono ?_); rintro e wd ⟨rfl, hbd⟩; rw [HH1.out, HHT.out]; have hBd := hBc.trans (hbd.mono hBc.size); have hCd := hCc.trans (hbd.mono hCc.size); have kd := (hbd.cell (p := ⟨wr.heap.size, 0, none⟩) (World.block_lt_of_cell? _ _ kc)).trans kc; clear hbd)
                      | (go_at_call 26; (with_reducible refine (fin_containsFunc _ V2 _ _ _ _ (fun r => decide (r.1 = (k : Int))) _ ent_kind3 (by omega) (Nat.le_refl _) (HF6.out.grow hCd) (asks_kind3 wr.heap.size (k : Int) _ _ (World.block_lt_of_cell? _ _ kd) kd)).mono ?_); rintro e we ⟨rfl, hbe⟩; rw [HH2.out, HHT.out]; have hBe := hBd.trans (hbe.mono hBd.size); have hCe := hCd.trans (hbe.mono hCd.size); have ke := (hbe.cell (p := ⟨wr.heap.size, 0, none⟩) (World.block_lt_of_cell? _ _ kd)).trans kd; clear hbe))
                    by_cases q : x1 = x2
                    · have b3 : (x1 == x2) = true := beq_iff_eq.2 q
                      have b4 : decide (0 < y1) = true := decide_eq_true (by have := HHH.out; omega)
                      have b5 : decide (0 < y2) = true := decide_eq_true (by have := HHH.out; omega)
                      clear q
                      have K1 := HK1.out
                      have K2 := HK2.out
                      have K3 := HK3.out
                      have K4 := HK4.out
                      have s1 : IntKind.i64.wrap (x2 + y2) = x2 + y2 := IntWalk.i64_in _ (by omega)
                      have s2 : IntKind.i64.wrap (x1 + y1) = x1 + y1 := IntWalk.i64_in _ (by omega)
                      go_quiet (fail)
                      clear s1 s2
                      go_wp2_with fail
                      go_roundw
                      case rel => exact ⟨k + 1, by omega, by go_num, below_drewN hCe _⟩
                      case measure => simp [intOf]; omega
                    · have b3 : (x1 == x2) = false := beq_eq_false_iff_ne.2 q
                      clear q
                      have K1 := HK1.out
                      have K2 := HK2.out
                      have K3 := HK3.out
                      have K4 := HK4.out
                      have s1 : IntKind.i64.wrap (x2 + y2) = x2 + y2 := IntWalk.i64_in _ (by omega)
                      have s2 : IntKind.i64.wrap (x1 + y1) = x1 + y1 := IntWalk.i64_in _ (by omega)
                      go_quiet (fail)
                      clear s1 s2
                      go_wp2_with fail
                      go_roundw
                      case rel => exact ⟨k + 1, by omega, by go_num, below_drewN hCe _⟩
                      case measure => simp [intOf]; omega
                  · have HHT : Hid (hitB S N m1 m2 = false) := Lib.hid (by rw [HHD.out]; by_cases h : x1 < x2 + y2 <;> simp [h]; omega)
                    have HHH := Lib.hid hh
                    clear hh
                    go_wp2_with fail
                    go_region_held3 (fun w' => Below (wr.alloc (.cells #[.int .i64 (k : Int)] 3)).heap.size (wr.alloc (.cells #[.int .i64 (k : Int)] 3)) w' ∧ w'.cell? ⟨w.heap.size, 0, none⟩ = some (.slice ca L.length cc) ∧ w'.cell? ⟨w.heap.size, 1, none⟩ = some (.slice (some ⟨pb, po, none⟩) A.length pc) ∧ w'.cell? ⟨wr.heap.size, 0, none⟩ = some (.int .i64 (k : Int)) ∧ w'.cell? ⟨pb, po + k * 2, none⟩ = some (.string (pg A k).1) ∧ w'.cell? ⟨pb, po + k * 2 + 1, none⟩ = some (.string (pg A k).2))
                      (first | exact HSS.out _ hbn | exact HSS.out _ hbr.drew | go_keep)
                      (first
                        | (go_at_call 23; go_split_ands; (with_reducible refine (apart_find ca L cc _ (pg A k).1 _ (by omega) ?_ ?_).mono ?_); (next => assumption); (next => exact HIA.out.grow (by assumption)); rintro e w2 ⟨rfl, hb2⟩; rw [HF1.out]; have hbn := held_next (wr := (wr.alloc (.cells #[.int .i64 (k : Int)] 3))) (by assumption) hb2)
                        | (go_at_call 23; go_split_ands; (with_reducible refine (apart_find ca L cc _ (pg A k).2 _ (by omega) ?_ ?_).mono ?_); (next => assumption); (next => exact HIA.out.grow (by assumption)); rintro e w2 ⟨rfl, hb2⟩; rw [HF2.out]; have hbn := held_next (wr := (wr.alloc (.cells #[.int .i64 (k : Int)] 3))) (by assumption) hb2))
                    obtain ⟨hBc, hCc⟩ := HOLD.out _ hbn
                    obtain ⟨_, _, _, kc, _, _⟩ := HSS.out _ hbn
                    have X0 := HX0.out
                    have X1 := HX1.out
                    go_wp2_with (first
                      | (go_at_call 26; (with_reducible refine (fin_containsFunc _ V _ _ _ _ (fun r => decide (r.1 = (k : Int))) _ ent_kind2 (by omega) (Nat.le_refl _) (HF36.out.grow hCc) (asks_kind2 wr.heap.size (k : Int) _ _ (World.block_lt_of_cell? _ _ kc) kc)).mono ?_); rintro e wd ⟨rfl, hbd⟩; rw [HH1.out, HHT.out]; have hBd := hBc.trans (hbd.mono hBc.size); have hCd := hCc.trans (hbd.mono hCc.size); have kd := (hbd.cell (p := ⟨wr.heap.size, 0, none⟩) (World.block_lt_of_cell? _ _ kc)).trans kc; clear hbd)
                      | (go_at_call 26; (with_reducible refine (fin_containsFunc _ V2 _ _ _ _ (fun r => decide (r.1 = (k : Int))) _ ent_kind3 (by omega) (Nat.le_refl _) (HF6.out.grow hCd) (asks_kind3 wr.heap.size (k : Int) _ _ (World.block_lt_of_cell? _ _ kd) kd)).mono ?_); rintro e we ⟨rfl, hbe⟩; rw [HH2.out, HHT.out]; have hBe := hBd.trans (hbe.mono hBd.size); have hCe := hCd.trans (hbe.mono hCd.size); have ke := (hbe.cell (p := ⟨wr.heap.size, 0, none⟩) (World.block_lt_of_cell? _ _ kd)).trans kd; clear hbe))
                    by_cases p1 : x1 + y1 ≤ x2
                    · have b1 : decide (x1 + y1 ≤ x2) = true := decide_eq_true p1
                      by_cases q : x1 = x2
                      · have b3 : (x1 == x2) = true := beq_iff_eq.2 q
                        have b4 : decide (0 < y1) = false := decide_eq_false (by omega)
                        clear p1 q
                        have K1 := HK1.out
                        have K2 := HK2.out
                        have K3 := HK3.out
                        have K4 := HK4.out
                        have s1 : IntKind.i64.wrap (x2 + y2) = x2 + y2 := IntWalk.i64_in _ (by omega)
                        have s2 : IntKind.i64.wrap (x1 + y1) = x1 + y1 := IntWalk.i64_in _ (by omega)
                        go_quiet (fail)
                        clear s1 s2
                        go_wp2_with fail
                        go_roundw
                        case rel => exact ⟨k + 1, by omega, by go_num, below_drewN hCe _⟩
                        case measure => simp [intOf]; omega
                      · have b3 : (x1 == x2) = false := beq_eq_false_iff_ne.2 q
                        clear p1 q
                        have K1 := HK1.out
                        have K2 := HK2.out
                        have K3 := HK3.out
                        have K4 := HK4.out
                        have s1 : IntKind.i64.wrap (x2 + y2) = x2 + y2 := IntWalk.i64_in _ (by omega)
                        have s2 : IntKind.i64.wrap (x1 + y1) = x1 + y1 := IntWalk.i64_in _ (by omega)
                        go_quiet (fail)
                        clear s1 s2
                        go_wp2_with fail
                        go_roundw
                        case rel => exact ⟨k + 1, by omega, by go_num, below_drewN hCe _⟩
                        case measure => simp [intOf]; omega
                    · have b1 : decide (x1 + y1 ≤ x2) = false := decide_eq_false p1
                      have b2 : decide (x2 + y2 ≤ x1) = true := decide_eq_true (by have := HHH.out; omega)
                      by_cases q : x1 = x2
                      · have b3 : (x1 == x2) = true := beq_iff_eq.2 q
                        have b5 : decide (0 < y2) = false := decide_eq_false (by have := HHH.out; omega)
                        have b4 : decide (0 < y1) = true := decide_eq_true (by omega)
                        clear p1 q
                        have K1 := HK1.out
                        have K2 := HK2.out
                        have K3 := HK3.out
                        have K4 := HK4.out
                        have s1 : IntKind.i64.wrap (x2 + y2) = x2 + y2 := IntWalk.i64_in _ (by omega)
                        have s2 : IntKind.i64.wrap (x1 + y1) = x1 + y1 := IntWalk.i64_in _ (by omega)
                        go_quiet (fail)
                        clear s1 s2
                        go_wp2_with fail
                        go_roundw
                        case rel => exact ⟨k + 1, by omega, by go_num, below_drewN hCe _⟩
                        case measure => simp [intOf]; omega
                      · have b3 : (x1 == x2) = false := beq_eq_false_iff_ne.2 q
                        clear p1 q
                        have K1 := HK1.out
                        have K2 := HK2.out
                        have K3 := HK3.out
                        have K4 := HK4.out
                        have s1 : IntKind.i64.wrap (x2 + y2) = x2 + y2 := IntWalk.i64_in _ (by omega)
                        have s2 : IntKind.i64.wrap (x1 + y1) = x1 + y1 := IntWalk.i64_in _ (by omega)
                        go_quiet (fail)
                        clear s1 s2
                        go_wp2_with fail
                        go_roundw
                        case rel => exact ⟨k + 1, by omega, by go_num, below_drewN hCe _⟩
                        case measure => simp [intOf]; omega
                · obtain rfl : k = A.length := by omega
                  go_wp2_with fail
                  go_ret
                  exact ⟨rfl, HX.out _ hBD⟩
  · have HLB := Lib.hid hlb
    clear hlb
    go_enter Try.func5, Try.ntmps5
    go_wp2_with fail
    generalize (w.alloc (.cells #[.slice ca L.length cc, .slice pa A.length pc] 25)) = W0 at *
    go_wp2_with (first
      | (go_at_call 10; (with_reducible refine (awake_any _).mono ?_); rintro e w1 ⟨rfl, hB1⟩)
      | (go_at_call 11; (with_reducible refine (large_any _ _ L A _ _ _ (HI.out.grow hB1) (HP.out.grow hB1)).mono ?_); rintro e w2 ⟨rfl, hb2⟩; rw [HLB.out]; have hB2 := hB1.trans (hb2.mono hB1.size); clear hb2))
    go_ret
    exact ⟨rfl, HX.out _ hB2⟩
end Go.Proofs.Ytapjhjpibefooaa
