/-
  slices.Sort and slices.Compact at a row of numbers of the call's own.
-/
import Derived.Sort.OwnSortedInts
import Derived.Lib.RowBridge
import Derived.Test.YtlnodjcmdnmnlaaGreatV29
namespace Go.Proofs.YtlnodjcmdnmnlaaGreat
set_option maxRecDepth 100000
set_option maxHeartbeats 80000000
section
open Go.RowKit Go.Shelf Go.Sort Go.Lib
theorem nflat_map (L : List Int) : nflat L = L.map (Value.int .i64) := by
 induction L with
 | nil => rfl
 | cons x r ih => rw [List.map_cons, ← ih]; rfl
theorem row_block {w : World} {base g n cap : Nat} {e : TypeId} {xs : List Value} (h : w.ownsRow base e 1 (.slice (some ⟨g, 0, none⟩) n cap) n xs) :
  ∃ cur, base ≤ g ∧ w.heap[g]? = some (.cells cur e (0, 0)) ∧ n ≤ cap ∧ cap ≤ maxLen ∧ cur.size = cap * 1 ∧ cur.toList.take (n * 1) = xs := by
 rcases h.2 with ⟨e0, _⟩ | ⟨g', cap', cur, e0, hb, hg, h1, h2, h3, h4⟩
 ·cases e0
 ·cases e0; exact ⟨cur, hb, hg, h1, h2, h3, h4⟩
theorem sort_own {w : World} {base g cap : Nat} {L : List Int} (h : w.ownsRow base 3 1 (.slice (some ⟨g, 0, none⟩) L.length cap) L.length (nflat L)) (hl : L.length ≤ 1000000) :
  Calls Tryz.prog 50 #[.slice (some ⟨g, 0, none⟩) L.length cap] w fun e w' => e = .returned (.tuple #[]) ∧ w'.ownsRow base 3 1 (.slice (some ⟨g, 0, none⟩) L.length cap) L.length (nflat (sortI L)) ∧ w.grownBy w' (some g) := by
 obtain ⟨cur, hb, hg, h1, h2, h3, h4⟩ := row_block h;rw [Nat.mul_one, nflat_map] at h4;refine (Tryz.slices_Sort_int g 0 cap L w (holds_of_blockI hg h4) (Array.getElem?_eq_some_iff.1 hg).1 (by omega)).mono fun e w' ⟨he, n, os, hw⟩ => ⟨he, ?_, ?_⟩
 ·rw [hw, nflat_map]
  exact ownsRow_sortedI (sortI_len L) hb hg h1 h2 h3
 ·rw [hw]; exact grownBy_sortedI _
theorem compact_own {w : World} {base g cap : Nat} {L : List Int} (h : w.ownsRow base 3 1 (.slice (some ⟨g, 0, none⟩) L.length cap) L.length (nflat L)) (hl : L.length ≤ 1000000) :
  Calls Tryz.prog 51 #[.slice (some ⟨g, 0, none⟩) L.length cap] w fun e w' => e = .returned (.slice (some ⟨g, 0, none⟩) (compact L).length cap) ∧ w'.ownsRow base 3 1 (.slice (some ⟨g, 0, none⟩) (compact L).length cap) (compact L).length (nflat (compact L)) ∧ w.grownBy w' (some g) := by
 obtain ⟨cur, hb, hg, h1, h2, h3, h4⟩ := row_block h;rw [Nat.mul_one, nflat_map] at h4;have hle := compact_length_le L;refine (Tryz.slices_Compact_int g 0 cap L w (holds_of_blockI hg h4) (by omega) h1).mono fun e w' ⟨he, q, hw⟩ => ⟨he, ?_, ?_⟩
 ·rw [hw, nflat_map]
  have hh := heap_sortedI (n := q) (os := #[]) (compact L ++ List.replicate (L.length - (compact L).length) 0).toArray hg;rw [grow_empty] at hh;refine ⟨by simp, .inr ⟨g, cap, _, rfl, hb, hh, by omega, h2, by simp [putCells, h3], ?_⟩⟩;have ht := take_putCellsI cur (compact L ++ List.replicate (L.length - (compact L).length) 0) (by simp; omega);have h5 := congrArg (List.take (compact L).length) ht;rw [List.take_take, Nat.min_eq_left (by simp), List.map_append, List.take_append_of_le_length (by simp), List.take_of_length_le (l := (compact L).map (Value.int .i64)) (by simp)] at h5;rw [Nat.mul_one];exact h5
 ·rw [hw]
  have := grownBy_sortedI (w := w) (g := g) (n := q) (os := #[]) (compact L ++ List.replicate (L.length - (compact L).length) 0).toArray;rw [grow_empty] at this;exact this
end
section
open Go.RowKit Go.Shelf
theorem nums_of_row {w : World} {base n cap : Nat} {a : Option Addr} {X : List Int} (h : w.ownsRow base 3 1 (.slice a n cap) n (nflat X)) (hl : X.length = n) : Nums w.heap.size w a X := by
 subst hl;obtain ⟨a', c', e, _, _, _, hf⟩ := num_of_row h
 cases e
 exact hf
theorem compact_n {w : World} {base g cap n : Nat} {L : List Int} (h : w.ownsRow base 3 1 (.slice (some ⟨g, 0, none⟩) L.length cap) L.length (nflat L)) (hn : n = L.length) (hl : L.length ≤ 1000000) :
  Calls Tryz.prog 51 #[.slice (some ⟨g, 0, none⟩) n cap] w fun e w' => e = .returned (.slice (some ⟨g, 0, none⟩) (Go.Lib.compact L).length cap) ∧ w'.ownsRow base 3 1 (.slice (some ⟨g, 0, none⟩) (Go.Lib.compact L).length cap) (Go.Lib.compact L).length (nflat (Go.Lib.compact L)) ∧ w.grownBy w' (some g) := by
 subst hn;exact compact_own h hl
theorem steps_any (a : Option Addr) (U : UseL) (cap : Nat) (w : World) (hl : U.length ≤ 1000) (hB : UseB U) (hU : Uses w.heap.size w a U) :
  Calls Tryz.prog 31 #[.slice a U.length cap] w fun e w' => Hid (∃ v, e = .returned v ∧ w'.ownsRow w.heap.size 41 2 v (stepsP U).length (oflat (stepsP U)) ∧ Below w.heap.size w w') := by
 have HU := lh hU;have HBB : Hid (∀ k, k < U.length → -1099511627776 ≤ (ug U k).2.2 ∧ (ug U k).2.2 ≤ 1099511627776) := lh hB;have HSB : Hid (∀ t k, k ≤ U.length → -1099511627776 * (k : Int) ≤ sumTo U t k ∧ sumTo U t k ≤ 1099511627776 * (k : Int)) := lh (sumTo_b hB);have HTL := times_len U;have hpos := times_pos U;have hel := endsTo_len U;obtain ⟨E, hE⟩ := nm (endsTo U U.length);have HEL : Hid (endsTo U U.length = E) := lh hE;have hElen : E.length ≤ 2001 := by have := (hel U.length).1; rw [hE] at this; omega
 have hEpos : 0 < E.length := by have := (hel U.length).2; rw [hE] at this; omega
 have HENDS := lh hel;obtain ⟨T, hT⟩ := nm (timesP U);have HTE : Hid (Go.Lib.compact (sortI E) = T) := lh (by rw [← hE]; exact hT);have HSU : Hid (∀ k, k < T.length → stepsK U (k + 1) = addS U (stepsK U k) (ig T k)) := lh (by rw [← hT]; exact stepsK_succ U);have HSL : Hid (∀ k, k ≤ T.length → (stepsK U k).length ≤ k) := lh (by rw [← hT]; exact stepsK_len U);have HALL : Hid (stepsK U T.length = stepsP U) := lh (by rw [← hT]; exact stepsK_all U);rw [hT] at HTL hpos;have hTle : T.length ≤ 2001 := by omega
 clear hU hB hT HTL hel hE
 go_enter Tryz.func31, Tryz.ntmps31
 go_wp2_with fail
 have HR0 : Hid ((w.alloc (.cells #[.int .i64 0] 3)).ownsRow w.heap.size 3 1 (.slice (some ⟨w.heap.size, 0, none⟩) 1 1) (endsTo U 0).length (nflat (endsTo U 0))) := lh (World.ownsRow_lit w #[.int .i64 0] 1 (Nat.le_refl _) (by unfold maxLen; omega) rfl);have hb0 := below_new w (.cells #[.int .i64 0] 3)
 go_loopw [3, 15] (fun v i wr => ∃ k : Nat, k ≤ U.length ∧ i = .int .i64 k ∧ Below w.heap.size w wr ∧ Hid (wr.ownsRow w.heap.size 3 1 v (endsTo U k).length (nflat (endsTo U k)))) (fun _ i _ => U.length - (intOf i).toNat)
 case atStart => exact ⟨0, Nat.zero_le _, rfl, hb0, HR0⟩
 case round =>
  clear hb0 HR0;obtain ⟨k, hk, rfl, hB, HR⟩ := hrel;have hbs := hB.size
  by_cases hlt : k < U.length
  ·obtain ⟨b, off, rfl, hb, hc⟩ := HU.out (by omega)
   obtain ⟨c0, c1, c2⟩ := hc k hlt;have d0 := (hB.cell (p := ⟨b, off + k * 3, none⟩) hb).trans c0;have d1 := (hB.cell (p := ⟨b, off + k * 3 + 1, none⟩) hb).trans c1;have d2 := (hB.cell (p := ⟨b, off + k * 3 + 2, none⟩) hb).trans c2;have HEK : Hid ((endsTo U k).length ≤ 1000000) := lh (by have := (HENDS.out k).1; omega);clear hc c0 c1 c2
   by_cases p : (ug U k).1 < (ug U k).2.1
   ·have HS : Hid (endsTo U (k + 1) = endsTo U k ++ [(ug U k).1, (ug U k).2.1]) := lh (by simp only [endsTo]; rw [if_pos p])
    go_wp2_with (at_builtin; refine num_append2 rfl _ _ rfl w.heap.size _ (endsTo U k) rfl ((HR.out.alloc (.cells #[.int .i64 (ug U k).1, .int .i64 (ug U k).2.1, .int .i64 (ug U k).2.2] 83)).alloc _) _ (ug U k).1 (ug U k).2.1 rfl (by simp) HEK.out (by first | omega | (simp; omega)) ?_; intro v5 w5 hown5 hg5; have hBn : Below w.heap.size w w5 := grown_own ((HR.out.alloc (.cells #[.int .i64 (ug U k).1, .int .i64 (ug U k).2.1, .int .i64 (ug U k).2.2] 83)).alloc (.cells #[.int .i64 (ug U k).1, .int .i64 (ug U k).2.1] 3)) hg5 ((hB.alloc hbs (.cells #[.int .i64 (ug U k).1, .int .i64 (ug U k).2.1, .int .i64 (ug U k).2.2] 83)).alloc (by first | omega | (simp; omega)) _) (by first | omega | (simp; omega)) (Nat.le_refl _))
    go_roundw
    case rel => exact ⟨k + 1, by omega, by go_num, hBn, lh (by rw [HS.out]; exact hown5)⟩
    case measure => simp [intOf]; omega
   ·have HS : Hid (endsTo U (k + 1) = endsTo U k) := lh (by simp only [endsTo]; rw [if_neg p])
    go_wp2_with fail
    go_roundw
    case rel => exact ⟨k + 1, by omega, by go_num, hB.alloc hbs _, lh (by rw [HS.out]; exact HR.out.alloc _)⟩
    case measure => simp [intOf]; omega
  ·obtain rfl : k = U.length := by omega
   have hr := HR.out;rw [HEL.out] at hr;obtain ⟨ea, ec, rfl, _, _, _, _⟩ := num_of_row hr;obtain ⟨g, rfl, hg1, hg2⟩ := row_addr hr hEpos;have HRE := lh hr;clear hr HR hlt hk
   go_wp2_with (first
    | (go_at_call 50; (with_reducible refine (sort_own HRE.out (by omega)).mono ?_); rintro e w2 ⟨rfl, hs2, hgr2⟩; have hr2 : w2.ownsRow w.heap.size 3 1 (.slice (some ⟨g, 0, none⟩) (sortI E).length ec) (sortI E).length (nflat (sortI E)) := (by rw [sortI_len]; exact hs2); have hB2 := hB.grown hgr2 hbs (fun k e => by cases e; exact hg1); have HR2 := lh hr2; clear hs2 hgr2 hr2)
    | (go_at_call 51; (with_reducible refine (compact_n HR2.out (sortI_len E).symm (by rw [sortI_len]; omega)).mono ?_); rintro e w3 ⟨rfl, hs3, hgr3⟩; rw [HTE.out] at hs3; rw [HTE.out]; have hB3 := hB2.grown hgr3 hB2.size (fun k e => by cases e; exact hg1); have HR3 := lh hs3; clear hs3 hgr3))
   have HNT := lh (nums_of_row HR3.out rfl);have hbs3 := hB3.size;clear HRE HR2 hB2 hB hbs
   go_loopw [6, 37] (fun v i wr => ∃ k : Nat, k ≤ T.length ∧ i = .int .i64 k ∧ Below w3.heap.size w3 wr ∧ Hid (wr.ownsRow w3.heap.size 41 2 v (stepsK U k).length (oflat (stepsK U k)))) (fun _ i _ => T.length - (intOf i).toNat)
   case atStart => exact ⟨0, Nat.zero_le _, rfl, br, lh (World.ownsRow_nil _ _ _ _)⟩
   case round =>
    obtain ⟨k, hk, rfl, hC, HR⟩ := hrel;have hcs := hC.size;have hsl := HSL.out k hk
    by_cases hlt : k < T.length
    ·obtain ⟨tb, tf, e, htb, htc⟩ := HNT.out hpos
     cases e
     have t0 := (hC.cell (p := ⟨g, 0 + k, none⟩) htb).trans (htc k hlt);rw [Nat.zero_add] at t0;have HSU1 := lh (HSU.out k hlt);generalize ig T k = t at *;clear htc
     go_wp2_with fail
     obtain ⟨wo, rfl⟩ : ∃ wo : World, wo = wr := ⟨_, rfl⟩;have HST0 : Hid (sumTo U t 0 = 0) := lh rfl
     go_loopw [9, 43] (fun s i wr => ∃ j : Nat, j ≤ U.length ∧ i = .int .i64 j ∧ s = .int .i64 (sumTo U t j) ∧ Below wo.heap.size wo wr) (fun _ i _ => U.length - (intOf i).toNat)
     case atStart => exact ⟨0, Nat.zero_le _, rfl, rfl, br⟩
     case round =>
      obtain ⟨j, hj, rfl, rfl, hD⟩ := hrel;obtain ⟨b1, b2⟩ := HSB.out t j hj;have hds := hD.size;have hE : Below w.heap.size w wr := hB3.trans ((hC.trans (hD.mono hcs)).mono hbs3)
      by_cases hlt2 : j < U.length
      ·obtain ⟨b, off, rfl, hb, hc⟩ := HU.out (by omega)
       obtain ⟨c0, c1, c2⟩ := hc j hlt2;have d0 := (hE.cell (p := ⟨b, off + j * 3, none⟩) hb).trans c0;have d1 := (hE.cell (p := ⟨b, off + j * 3 + 1, none⟩) hb).trans c1;have d2 := (hE.cell (p := ⟨b, off + j * 3 + 2, none⟩) hb).trans c2;obtain ⟨b3, b4⟩ := HBB.out j hlt2;clear hc c0 c1 c2
       by_cases p1 : (ug U j).1 ≤ t
       ·by_cases p2 : t < (ug U j).2.1
        ·have HS : Hid (sumTo U t (j + 1) = sumTo U t j + (ug U j).2.2) := lh (by simp only [sumTo]; rw [if_pos ⟨p1, p2⟩])
         go_wp2_with fail
         go_roundw
         case rel => exact ⟨j + 1, by omega, by go_num, by rw [HS.out], hD.alloc hds _⟩
         case measure => simp [intOf]; omega
        ·have HS : Hid (sumTo U t (j + 1) = sumTo U t j) := lh (by simp only [sumTo]; rw [if_neg (fun h => p2 h.2)]; omega)
         go_wp2_with fail
         go_roundw
         case rel => exact ⟨j + 1, by omega, by go_num, by rw [HS.out], hD.alloc hds _⟩
         case measure => simp [intOf]; omega
       ·have HS : Hid (sumTo U t (j + 1) = sumTo U t j) := lh (by simp only [sumTo]; rw [if_neg (fun h => p1 h.1)]; omega)
        go_wp2_with fail
        go_roundw
        case rel => exact ⟨j + 1, by omega, by go_num, by rw [HS.out], hD.alloc hds _⟩
        case measure => simp [intOf]; omega
      ·obtain rfl : j = U.length := by omega
       have hC2 : Below w3.heap.size w3 wr := hC.trans (hD.mono hcs);have HR2 := lh (ownsRow_below HR.out hD);have hc2s := hC2.size;have HSA : Hid (sumTo U t U.length = sumAt U t) := lh rfl;obtain ⟨s, hs⟩ := nm (sumTo U t U.length);rw [hs] at HSA;obtain ⟨out, ho⟩ := nm (stepsK U k);rw [ho] at HR2 HSU1 hsl;rw [hs];clear ho hs b1 b2 HR
       by_cases h0 : out.length = 0
       ·have HS : Hid (stepsK U (k + 1) = out ++ [(t, s)]) := lh (by rw [HSU1.out, HSA.out]; exact addS_first h0)
        obtain ⟨sa, sc, rfl, _, _, _, _⟩ := load_of_row HR2.out;have g0 : ((out.length : Int) == 0) = true := beq_iff_eq.2 (by omega);clear h0
        go_wp2_with (at_builtin; refine load_append rfl _ _ rfl w3.heap.size _ out rfl (HR2.out.alloc _) _ (t, s) rfl (by simp) (by omega) (by first | omega | (simp; omega)) ?_; intro v5 w5 hown5 hg5; have hBn : Below w3.heap.size w3 w5 := grown_own (HR2.out.alloc (.cells #[.int .i64 t, .int .i64 s] 41)) hg5 (hC2.alloc hc2s _) (by first | omega | (simp; omega)) (Nat.le_refl _))
        go_roundw
        case rel => exact ⟨k + 1, by omega, by go_num, hBn, lh (by rw [HS.out]; exact hown5)⟩
        case measure => simp [intOf]; omega
       ·obtain ⟨sa, sc, rfl, _, _, _, _⟩ := load_of_row HR2.out
        obtain ⟨g6, rfl, hg61, hg62⟩ := row_addr HR2.out (by omega);have g0 : ((out.length : Int) == 0) = false := beq_eq_false_iff_ne.2 (by omega);have o1 : wr.cell? ⟨g6, (out.length - 1) * 2 + 1, none⟩ = some (.int .i64 (og out (out.length - 1)).2) := by rw [HR2.out.cellAt _ (by omega)]; exact (oflat_at out _ (by omega)).2
        by_cases q : (og out (out.length - 1)).2 = s
        ·have HS : Hid (stepsK U (k + 1) = out) := lh (by rw [HSU1.out]; exact addS_same (by omega) (by rw [← HSA.out]; exact q))
         rw [q] at o1;have q1 : (s != s) = false := bne_self_eq_false _;clear q
         go_wp2_with fail
         go_roundw
         case rel => exact ⟨k + 1, by omega, by go_num, hC2, lh (by rw [HS.out]; exact HR2.out)⟩
         case measure => simp [intOf]; omega
        ·have HS : Hid (stepsK U (k + 1) = out ++ [(t, s)]) := lh (by rw [HSU1.out, HSA.out]; exact addS_more (by rw [← HSA.out]; exact q))
         have q1 : ((og out (out.length - 1)).2 != s) = true := bne_iff_ne.2 q;clear q
         go_wp2_with (at_builtin; refine load_append rfl _ _ rfl w3.heap.size _ out rfl (HR2.out.alloc _) _ (t, s) rfl (by simp) (by omega) (by first | omega | (simp; omega)) ?_; intro v5 w5 hown5 hg5; have hBn : Below w3.heap.size w3 w5 := grown_own (HR2.out.alloc (.cells #[.int .i64 t, .int .i64 s] 41)) hg5 (hC2.alloc hc2s _) (by first | omega | (simp; omega)) (Nat.le_refl _))
         go_roundw
         case rel => exact ⟨k + 1, by omega, by go_num, hBn, lh (by rw [HS.out]; exact hown5)⟩
         case measure => simp [intOf]; omega
    ·obtain rfl : k = T.length := by omega
     go_wp2_with fail
     go_ret;exact lh ⟨_, rfl, ownsRow_base (by rw [← HALL.out]; exact HR.out) hbs3, hB3.trans (hC.mono hbs3)⟩
def taskBad (r : TaskR) : Bool := decide (r.length < 1) || decide (10000 < r.length) || decide (min r.crew r.power < 0) || decide (100 < max r.crew r.power)
theorem asks_taskBad (n₀ : Nat) (w : World) : AsksTasks 48 #[] n₀ w taskBad := by
 intro W r hB;show Calls _ _ #[taskV r] _ _;unfold taskV;have key : ∀ b1 b2 b3 b4 : Bool, decide (r.length < 1) = b1 → decide (10000 < r.length) = b2 → decide (min r.crew r.power < 0) = b3 → decide (100 < max r.crew r.power) = b4 → Hid (taskBad r = (b1 || b2 || b3 || b4)) := fun b1 b2 b3 b4 h1 h2 h3 h4 => lh (by unfold taskBad; rw [h1, h2, h3, h4])
 by_cases a1 : r.length < 1
 ·have H := key _ _ _ _ (decide_eq_true a1) rfl rfl rfl
  clear key
  go_enter Tryz.func48, Tryz.ntmps48
  go_wp2
  go_ret;exact ⟨ret_bool (by rw [H.out]; simp), (br).alloc (Nat.le_refl _) _⟩
 ·by_cases a2 : 10000 < r.length
  ·have H := key _ _ _ _ (decide_eq_false a1) (decide_eq_true a2) rfl rfl
   clear key
   go_enter Tryz.func48, Tryz.ntmps48
   go_wp2
   go_ret;exact ⟨ret_bool (by rw [H.out]; simp), (br).alloc (Nat.le_refl _) _⟩
  ·by_cases a3 : min r.crew r.power < 0
   ·have H := key _ _ _ _ (decide_eq_false a1) (decide_eq_false a2) (decide_eq_true a3) rfl
    clear key;have m1 := decide_eq_true a3
    go_enter Tryz.func48, Tryz.ntmps48
    go_wp2
    go_ret;exact ⟨ret_bool (by rw [H.out]; simp), (br).alloc (Nat.le_refl _) _⟩
   ·by_cases a4 : 100 < max r.crew r.power
    ·have H := key _ _ _ _ (decide_eq_false a1) (decide_eq_false a2) (decide_eq_false a3) (decide_eq_true a4)
     clear key;have m1 := decide_eq_false a3;have m2 := decide_eq_true a4
     go_enter Tryz.func48, Tryz.ntmps48
     go_wp2
     go_ret;exact ⟨ret_bool (by rw [H.out]; simp), (br).alloc (Nat.le_refl _) _⟩
    ·have H := key _ _ _ _ (decide_eq_false a1) (decide_eq_false a2) (decide_eq_false a3) (decide_eq_false a4)
     clear key;have m1 := decide_eq_false a3;have m2 := decide_eq_false a4
     go_enter Tryz.func48, Tryz.ntmps48
     go_wp2
     go_ret;exact ⟨ret_bool (by rw [H.out]; simp), (br).alloc (Nat.le_refl _) _⟩
theorem ent_taskBad (args : Array Value) (w : World) : (callFunc 48 args).run Tryz.prog w = .ok (.enter 48 args) w := enters_of Tryz.func48 (by kernel_rfl) rfl args w
def tasksB (L : List TaskR) : Bool := decide (L.length ≤ 60) && !task_any L taskBad
theorem tasks_any (a : Option Addr) (L : List TaskR) (cap : Nat) (w : World) (hl : L.length ≤ 1000) (hL : Tasks w.heap.size w a L) :
  Calls Tryz.prog 28 #[.slice a L.length cap] w fun e w' => e = .returned (.bool (tasksB L)) ∧ Below w.heap.size w w' := by
 have HL := lh hL; clear hL
 by_cases p : L.length ≤ 60
 ·have H : Hid (tasksB L = !task_any L taskBad) := lh (by unfold tasksB; rw [decide_eq_true p]; rfl)
  go_enter Tryz.func28, Tryz.ntmps28
  go_wp2_with (go_at_call 47; (with_reducible refine (task_containsFunc _ L _ _ _ _ taskBad _ ent_taskBad (by omega) (Nat.le_refl _) HL.out (asks_taskBad _ _)).mono ?_); rintro e w2 ⟨rfl, hb2⟩)
  go_ret;exact ⟨ret_bool H.out.symm, hb2⟩
 ·have H : Hid (tasksB L = false) := lh (by unfold tasksB; rw [decide_eq_false p]; rfl)
  go_enter Tryz.func28, Tryz.ntmps28
  go_wp2
  go_ret;exact ⟨ret_bool H.out.symm, br⟩
theorem tasks_ok {L : List TaskR} (h : tasksB L = true) : L.length ≤ 60 ∧ ∀ k, k < L.length → (1 ≤ (tkg L k).length ∧ (tkg L k).length ≤ 10000) ∧ (0 ≤ (tkg L k).crew ∧ (tkg L k).crew ≤ 100) ∧ 0 ≤ (tkg L k).power ∧ (tkg L k).power ≤ 100 := by
 unfold tasksB at h;rw [Bool.and_eq_true, decide_eq_true_eq, task_any_eq] at h;refine ⟨h.1, fun k hk => ?_⟩;have h2 : L.any taskBad = false := by simpa using h.2
 have h3 := List.any_eq_false.1 h2 (tkg L k) (by rw [tkg_eq L k hk]; exact List.getElem_mem hk);unfold taskBad at h3;simp only [Bool.or_eq_true, decide_eq_true_eq, not_or] at h3;omega
def workTo (f : TaskR → Int) (L : List TaskR) : Nat → Int
 | 0 => 0
 | k + 1 => workTo f L k + f (tkg L k) * (tkg L k).length
theorem workTo_b {f : TaskR → Int} {L : List TaskR} (h : ∀ k, k < L.length → (1 ≤ (tkg L k).length ∧ (tkg L k).length ≤ 10000) ∧ 0 ≤ f (tkg L k) ∧ f (tkg L k) ≤ 100) : ∀ k, k ≤ L.length → 0 ≤ workTo f L k ∧ workTo f L k ≤ 1000000 * (k : Int) := by
 intro k
 induction k with
 | zero => intro _; exact ⟨Int.le_refl _, Int.le_refl _⟩
 | succ k ih =>
  intro hk;have h1 := ih (by omega);obtain ⟨h2, h3, h4⟩ := h k (by omega);have h5 : 0 ≤ f (tkg L k) * (tkg L k).length := Int.mul_nonneg h3 (by omega);have h6 : f (tkg L k) * (tkg L k).length ≤ 100 * 10000 := Int.mul_le_mul h4 h2.2 (by omega) (by omega);simp only [workTo];omega
theorem energy_any (a : Option Addr) (L : List TaskR) (cap : Nat) (w : World) (hl : L.length ≤ 1000) (hL : Tasks w.heap.size w a L) :
  Calls Tryz.prog 17 #[.slice a L.length cap] w fun e w' => Hid (e = .returned (if tasksB L then .tuple #[.int .i64 (workTo TaskR.crew L L.length), .int .i64 (workTo TaskR.power L L.length), .int .i64 0] else .tuple #[.int .i64 0, .int .i64 0, .int .i64 1]) ∧ Below w.heap.size w w') := by
 have HL := lh hL; clear hL
 cases ht : tasksB L
 ·have HT := lh ht; clear ht
  go_enter Tryz.func17, Tryz.ntmps17
  go_wp2_with (go_at_call 28; (with_reducible refine (tasks_any _ L _ _ (by omega) HL.out).mono ?_); rintro e w1 ⟨rfl, hb1⟩; rw [HT.out])
  go_ret3
  exact lh ⟨by simp, hb1⟩
 ·obtain ⟨h60, hok⟩ := tasks_ok ht
  have HOK := lh hok;have HW1 : Hid (∀ k, k ≤ L.length → 0 ≤ workTo TaskR.crew L k ∧ workTo TaskR.crew L k ≤ 1000000 * (k : Int)) := lh (workTo_b fun k hk => ⟨(hok k hk).1, (hok k hk).2.1⟩);have HW2 : Hid (∀ k, k ≤ L.length → 0 ≤ workTo TaskR.power L k ∧ workTo TaskR.power L k ≤ 1000000 * (k : Int)) := lh (workTo_b fun k hk => ⟨(hok k hk).1, (hok k hk).2.2⟩);have HT := lh ht; clear ht hok
  go_enter Tryz.func17, Tryz.ntmps17
  go_wp2_with (go_at_call 28; (with_reducible refine (tasks_any _ L _ _ (by omega) HL.out).mono ?_); rintro e w1 ⟨rfl, hb1⟩; rw [HT.out])
  go_loopw [5, 6, 14] (fun c p i wr => ∃ k : Nat, k ≤ L.length ∧ i = .int .i64 k ∧ c = .int .i64 (workTo TaskR.crew L k) ∧ p = .int .i64 (workTo TaskR.power L k) ∧ Below w.heap.size w wr) (fun _ _ i _ => L.length - (intOf i).toNat)
  case atStart => exact ⟨0, Nat.zero_le _, rfl, rfl, rfl, hb1⟩
  case round =>
   clear hb1;obtain ⟨k, hk, rfl, rfl, rfl, hB⟩ := hrel;have hbs := hB.size
   by_cases hlt : k < L.length
   ·obtain ⟨b, off, rfl, hb, hc⟩ := HL.out (by omega)
    obtain ⟨c0, c1, c2, c3, c4⟩ := hc k hlt;have d0 := (hB.cell (p := ⟨b, off + k * 5, none⟩) hb).trans c0;have d1 := (hB.cell (p := ⟨b, off + k * 5 + 1, none⟩) hb).trans c1;have d2 := (hB.cell (p := ⟨b, off + k * 5 + 2, none⟩) hb).trans c2;have d3 := (hB.cell (p := ⟨b, off + k * 5 + 3, none⟩) hb).trans c3;have d4 := (hB.cell (p := ⟨b, off + k * 5 + 4, none⟩) hb).trans c4;have W1 := lh (HW1.out (k + 1) (by omega));have W2 := lh (HW2.out (k + 1) (by omega));have HS1 : Hid (workTo TaskR.crew L (k + 1) = workTo TaskR.crew L k + (tkg L k).crew * (tkg L k).length) := lh rfl;have HS2 : Hid (workTo TaskR.power L (k + 1) = workTo TaskR.power L k + (tkg L k).power * (tkg L k).length) := lh rfl;obtain ⟨⟨l1, l2⟩, ⟨l3, l4⟩, l5, l6⟩ := HOK.out k hlt;have m1 : 0 ≤ (tkg L k).crew * (tkg L k).length ∧ (tkg L k).crew * (tkg L k).length ≤ 1000000 := ⟨Int.mul_nonneg l3 (by omega), by have := Int.mul_le_mul l4 l2 (by omega) (by omega); omega⟩;have m2 : 0 ≤ (tkg L k).power * (tkg L k).length ∧ (tkg L k).power * (tkg L k).length ≤ 1000000 := ⟨Int.mul_nonneg l5 (by omega), by have := Int.mul_le_mul l6 l2 (by omega) (by omega); omega⟩;obtain ⟨b1, b2⟩ := HW1.out k hk;obtain ⟨b3, b4⟩ := HW2.out k hk;obtain ⟨m3, m4⟩ := m1;obtain ⟨m5, m6⟩ := m2;clear hc c0 c1 c2 c3 c4;generalize hx : (tkg L k).crew * (tkg L k).length = x at *;generalize hy : (tkg L k).power * (tkg L k).length = y at *;have n1 : IntKind.i64.wrap ((tkg L k).crew * (tkg L k).length) = x := by rw [hx]; exact IntWalk.i64_in _ (by omega)
    have n2 : IntKind.i64.wrap ((tkg L k).power * (tkg L k).length) = y := by rw [hy]; exact IntWalk.i64_in _ (by omega)
    go_wp2_with fail
    go_roundw
    case rel => exact ⟨k + 1, by omega, by go_num, by rw [HS1.out], by rw [HS2.out], hB.alloc hbs _⟩
    case measure => simp [intOf]; omega
   ·obtain rfl : k = L.length := by omega
    go_wp2_with fail
    go_ret3
    exact lh ⟨by simp, hB⟩
def Apart (v u : Value) : Prop := v.ownBlock = none ∨ u.ownBlock = none ∨ v.ownBlock ≠ u.ownBlock
theorem Apart.symm {v u : Value} (h : Apart v u) : Apart u v := by
 rcases h with h | h | h
 ·exact .inr (.inl h)
 ·exact .inl h
 ·exact .inr (.inr fun e => h e.symm)
theorem Apart.kept {v u : Value} (h : Apart v u) : u.ownBlock = none ∨ u.ownBlock ≠ v.ownBlock := by
 rcases h with h | h | h
 ·cases hu : u.ownBlock with
  | none => exact .inl rfl
  | some k => exact .inr (by rw [h]; simp)
 ·exact .inl h
 ·exact .inr fun e => h e.symm
theorem Apart.next {v v' u : Value} {w : World} {base size n : Nat} {e : TypeId} {xs : List Value} (h : Apart v u) (hu : w.ownsRow base e size u n xs) (h' : v'.ownBlock = v.ownBlock ∨ v'.ownBlock = some w.heap.size) : Apart v' u := by
 rcases h' with h' | h'
 ·unfold Apart; rw [h']; exact h
 ·cases hk : u.ownBlock with
  | none => exact .inr (.inl hk)
  | some k => exact .inr (.inr (by rw [h', hk]; intro e; cases e; exact absurd (hu.lt _ hk).2 (Nat.lt_irrefl _)))
def startBad (n : Int) : Bool := decide (n < 0) || decide (1000000 < n)
theorem asks_startBad (n₀ : Nat) (w : World) : AsksN 30 #[] n₀ w startBad := by
 intro W r hB;show Calls _ _ #[numV r] _ _;unfold numV;have key : ∀ b1 b2 : Bool, decide (r < 0) = b1 → decide (1000000 < r) = b2 → Hid (startBad r = (b1 || b2)) := fun b1 b2 h1 h2 => lh (by unfold startBad; rw [h1, h2])
 by_cases a1 : r < 0
 ·have H := key _ _ (decide_eq_true a1) rfl
  clear key
  go_enter Tryz.func30, Tryz.ntmps30
  go_wp2
  go_ret;exact ⟨ret_bool (by rw [H.out]; simp), br⟩
 ·have H := key _ _ (decide_eq_false a1) rfl
  clear key
  go_enter Tryz.func30, Tryz.ntmps30
  go_wp2
  go_ret;exact ⟨ret_bool (by rw [H.out]; simp), br⟩
theorem ent_startBad (args : Array Value) (w : World) : (callFunc 30 args).run Tryz.prog w = .ok (.enter 30 args) w := enters_of Tryz.func30 (by kernel_rfl) rfl args w
def usesTo (f : TaskR → Int) (L : List TaskR) (S : List Int) (k : Nat) : UseL := (List.range k).map fun j => (ig S j, ig S j + (tkg L j).length, f (tkg L j))
theorem usesTo_len (f : TaskR → Int) (L : List TaskR) (S : List Int) (k : Nat) : (usesTo f L S k).length = k := by simp [usesTo]
theorem usesTo_succ (f : TaskR → Int) (L : List TaskR) (S : List Int) (k : Nat) : usesTo f L S (k + 1) = usesTo f L S k ++ [(ig S k, ig S k + (tkg L k).length, f (tkg L k))] := by
 unfold usesTo; rw [List.range_succ, List.map_append]; rfl
theorem usesTo_at (f : TaskR → Int) (L : List TaskR) (S : List Int) (k j : Nat) (h : j < k) : ug (usesTo f L S k) j = (ig S j, ig S j + (tkg L j).length, f (tkg L j)) := by
 unfold ug usesTo;rw [List.getElem?_map, List.getElem?_range h]
 rfl
def profE (L : List TaskR) (S : List Int) : Int := if tasksB L then (if S.length = L.length then (if S.any startBad then 2 else 0) else 3) else 1
def profL (f : TaskR → Int) (L : List TaskR) (S : List Int) : List (Int × Int) := if profE L S = 0 then stepsP (usesTo f L S L.length) else []
theorem starts_ok {S : List Int} (h : S.any startBad = false) (k : Nat) (hk : k < S.length) : 0 ≤ ig S k ∧ ig S k ≤ 1000000 := by
 have h3 := List.any_eq_false.1 h (ig S k) (by rw [ig_eq S k hk]; exact List.getElem_mem hk);unfold startBad at h3;simp only [Bool.or_eq_true, decide_eq_true_eq, not_or] at h3;omega
theorem cell_three_new (w : World) (a b c : Value) (t : TypeId) : ∀ j u, [a, b, c][j]? = some u → (w.alloc (.cells #[a, b, c] t)).cell? ((⟨w.heap.size, 0, none⟩ : Addr).add j) = some u := by
 intro j u hj;rw [Go.WideShapes.add_plain, Nat.zero_add]
 match j, hj with
 | 0, hj => simp at hj; subst hj; simp
 | 1, hj => simp at hj; subst hj; simp
 | 2, hj => simp at hj; subst hj; simp
theorem cell_three_drew (w : World) (a b c : Value) (t : TypeId) : ∀ j u, [a, b, c][j]? = some u → (w.alloc (.cells #[a, b, c] t)).drew.cell? ((⟨w.heap.size, 0, none⟩ : Addr).add j) = some u := fun j u h => cell_three_new w a b c t j u h
theorem prof_step {base B : Nat} {W w5 : World} {vc vp : Value} {Uc Up : UseL} {g cap : Nat} {q r y : Int}
  (_hc : W.ownsRow base 83 3 vc Uc.length (ugflat Uc)) (hp : W.ownsRow base 83 3 vp Up.length (ugflat Up)) (ha : Apart vc vp)
  (h5 : w5.ownsRow base 83 3 (.slice (some ⟨g, 0, none⟩) (Uc.length + 1) cap) (Uc.length + 1) (ugflat Uc ++ [.int .i64 q, .int .i64 r, .int .i64 y])) (hg : W.grownBy w5 vc.ownBlock) (hin : vc.ownBlock = some g ∨ g = W.heap.size) (hB : some B ≠ vc.ownBlock) :
  (w5.ownsRow base 83 3 (.slice (some ⟨g, 0, none⟩) (Uc.length + 1) cap) (Uc ++ [(q, r, y)]).length (ugflat (Uc ++ [(q, r, y)])) ∧ w5.ownsRow base 83 3 vp Up.length (ugflat Up) ∧ Apart (.slice (some ⟨g, 0, none⟩) (Uc.length + 1) cap) vp) ∧
  ∀ (a : Addr) (v : Value), a.block = B → W.cell? a = some v → w5.cell? a = some v := by
 refine ⟨⟨?_, hp.kept hg ha.kept, ?_⟩, fun a v e h => hg.cell h (by rw [e]; exact hB)⟩
 ·rw [ugflat_snoc, List.length_append]; exact h5
 ·refine Apart.next ha hp ?_
  rcases hin with e | e
  ·exact .inl e.symm
  ·exact .inr (by rw [e]; rfl)
theorem own_ne {w : World} {base size n : Nat} {e : TypeId} {v : Value} {xs : List Value} (h : w.ownsRow base e size v n xs) : some w.heap.size ≠ v.ownBlock := fun e => absurd (h.lt _ e.symm).2 (Nat.lt_irrefl _)
theorem profile_any (a sa : Option Addr) (L : List TaskR) (S : List Int) (cap sc : Nat) (w : World) (hl : L.length ≤ 1000) (hls : S.length ≤ 1000) (hL : Tasks w.heap.size w a L) (hS : Nums w.heap.size w sa S) :
  Calls Tryz.prog 15 #[.slice a L.length cap, .slice sa S.length sc] w fun e w' => Hid (∃ v u, e = .returned (.tuple #[v, u, .int .i64 (profE L S)]) ∧ w'.ownsRow w.heap.size 41 2 v (profL TaskR.crew L S).length (oflat (profL TaskR.crew L S)) ∧ w'.ownsRow w.heap.size 41 2 u (profL TaskR.power L S).length (oflat (profL TaskR.power L S)) ∧ Below w.heap.size w w') := by
 have HL := lh hL;have HS := lh hS;clear hL hS;obtain ⟨i0, hi, hz0, hz1, hz2⟩ := info_parts use_info;have bad : ∀ c, profE L S = c → c ≠ 0 → Hid (profL TaskR.crew L S = [] ∧ profL TaskR.power L S = []) := fun c h1 h2 => lh (by unfold profL; rw [h1]; exact ⟨if_neg h2, if_neg h2⟩);have HTK : Hid (∀ (w : World), Tasks w.heap.size w a L → Calls Tryz.prog 28 #[.slice a L.length cap] w fun e w' => e = .returned (.bool (tasksB L)) ∧ Below w.heap.size w w') := lh fun w h => tasks_any a L cap w hl h
 cases ht : tasksB L
 ·have HT := lh ht
  have HE : Hid (profE L S = 1) := lh (by unfold profE; rw [ht]; rfl);have HP := bad _ HE.out (by decide);clear ht bad
  go_enter Tryz.func15, Tryz.ntmps15
  go_wp2_with (go_at_call 28; (with_reducible refine (HTK.out _ HL.out).mono ?_); rintro e w1 ⟨rfl, hb1⟩; rw [HT.out])
  go_ret3
  rw [HE.out, HP.out.1, HP.out.2];exact lh ⟨_, _, rfl, World.ownsRow_nil _ _ _ _, World.ownsRow_nil _ _ _ _, hb1⟩
 ·obtain ⟨h60, hok⟩ := tasks_ok ht
  have HT := lh ht
  by_cases hn : S.length = L.length
  ·have q1 : ((S.length : Int) != (L.length : Int)) = false := by rw [bne_eq_false_iff_eq]; omega
   cases hs : S.any startBad
   ·have HE : Hid (profE L S = 0) := lh (by unfold profE; rw [ht, if_pos rfl, if_pos hn, hs]; rfl)
    have HP1 : Hid (profL TaskR.crew L S = stepsP (usesTo TaskR.crew L S L.length)) := lh (by unfold profL; rw [if_pos HE.out]);have HP2 : Hid (profL TaskR.power L S = stepsP (usesTo TaskR.power L S L.length)) := lh (by unfold profL; rw [if_pos HE.out]);have HAN : Hid (num_any S startBad = false) := lh (by rw [num_any_eq]; exact hs);have HSO := lh (starts_ok hs);have HOK := lh hok;have HSL := lh hn
    have HU1 : Hid (UseB (usesTo TaskR.crew L S L.length)) := lh fun k hk => by
     rw [usesTo_len] at hk;rw [usesTo_at _ _ _ _ _ hk];have := hok k hk;show _ ≤ (tkg L k).crew ∧ (tkg L k).crew ≤ _;omega
    have HU2 : Hid (UseB (usesTo TaskR.power L S L.length)) := lh fun k hk => by
     rw [usesTo_len] at hk;rw [usesTo_at _ _ _ _ _ hk];have := hok k hk;show _ ≤ (tkg L k).power ∧ (tkg L k).power ≤ _;omega
    have HLC : Hid ((∀ k, k ≤ L.length → (usesTo TaskR.crew L S k).length ≤ 1000000) ∧ ∀ k, k ≤ L.length → (usesTo TaskR.power L S k).length ≤ 1000000) := lh ⟨fun k hk => by rw [usesTo_len]; omega, fun k hk => by rw [usesTo_len]; omega⟩;clear ht bad hs hok hn
    go_enter Tryz.func15, Tryz.ntmps15
    go_wp2_with (first
     | (go_at_call 28; (with_reducible refine (HTK.out _ HL.out).mono ?_); rintro e w1 ⟨rfl, hb1⟩; rw [HT.out])
     | (go_at_call 29; (with_reducible refine (num_containsFunc _ S _ _ _ _ startBad _ ent_startBad (by omega) (Nat.le_refl _) (HS.out.grow hb1) (asks_startBad _ _)).mono ?_); rintro e w2 ⟨rfl, hb2⟩; rw [HAN.out]; have hB2 := hb1.trans (hb2.mono hb1.size); clear hb2 hb1))
    have hbs2 := hB2.size
    go_loopw [7, 8, 26] (fun v u i wr => ∃ k : Nat, k ≤ L.length ∧ i = .int .i64 k ∧ Below w2.heap.size w2 wr ∧ Hid (wr.ownsRow w2.heap.size 83 3 v (usesTo TaskR.crew L S k).length (ugflat (usesTo TaskR.crew L S k)) ∧ wr.ownsRow w2.heap.size 83 3 u (usesTo TaskR.power L S k).length (ugflat (usesTo TaskR.power L S k)) ∧ Apart v u)) (fun _ _ i _ => L.length - (intOf i).toNat)
    case atStart => exact ⟨0, Nat.zero_le _, rfl, br, lh ⟨World.ownsRow_nil _ _ _ _, World.ownsRow_nil _ _ _ _, .inl rfl⟩⟩
    case round =>
     obtain ⟨k, hk, rfl, hC, HR⟩ := hrel;have hcs := hC.size;have hE : Below w.heap.size w wr := hB2.trans (hC.mono hbs2);have hes := hE.size
     by_cases hlt : k < L.length
     ·have hls2 : k < S.length := by have := HSL.out; omega
      obtain ⟨b, off, rfl, hb, hc⟩ := HL.out (by omega);obtain ⟨sb, so, rfl, hsb, hsc⟩ := HS.out (by omega);have hbw : b < wr.heap.size := by omega
      have hsw : sb < wr.heap.size := by omega
      have K0 := (hE.cell (p := ⟨sb, so + k, none⟩) hsb).trans (hsc k hls2);obtain ⟨c0, c1, c2, c3, c4⟩ := hc k hlt;have d0 := (hE.cell (p := ⟨b, off + k * 5, none⟩) hb).trans c0;have d1 := (hE.cell (p := ⟨b, off + k * 5 + 1, none⟩) hb).trans c1;have d2 := (hE.cell (p := ⟨b, off + k * 5 + 2, none⟩) hb).trans c2;have d3 := (hE.cell (p := ⟨b, off + k * 5 + 3, none⟩) hb).trans c3;have d4 := (hE.cell (p := ⟨b, off + k * 5 + 4, none⟩) hb).trans c4;obtain ⟨⟨l1, l2⟩, ⟨l3, l4⟩, l5, l6⟩ := HOK.out k hlt;obtain ⟨e1, e2⟩ := HSO.out k hls2;have s1 : IntKind.i64.wrap (ig S k + (tkg L k).length) = ig S k + (tkg L k).length := IntWalk.i64_in _ (by omega);have HN1 := lh (usesTo_succ TaskR.crew L S k);have HN2 := lh (usesTo_succ TaskR.power L S k);have hl1 := HLC.out.1 k hk;have hl2 := HLC.out.2 k hk;have HL1 := lh hl1;have HL2 := lh hl2;have hsc2 := hsc;clear hc hsc c0 c1 c2 c3 c4 hl1 hl2;obtain ⟨Uc, hUc⟩ := nm (usesTo TaskR.crew L S k);obtain ⟨Up, hUp⟩ := nm (usesTo TaskR.power L S k);rw [hUc, hUp] at HR;rw [hUc] at HL1 HN1;rw [hUp] at HL2 HN2;have hl1 := HL1.out;have hl2 := HL2.out;clear hUc hUp;obtain ⟨vc, rfl⟩ : ∃ x : Value, x = u7 := ⟨_, rfl⟩;obtain ⟨vp, rfl⟩ : ∃ x : Value, x = u8 := ⟨_, rfl⟩;obtain ⟨hr7, hr8, hap⟩ := HR.out;have hW1 : Below w2.heap.size w2 (wr.alloc (.cells #[.string (tkg L k).name, .int .i64 (tkg L k).length, .int .i64 (tkg L k).crew, .int .i64 (tkg L k).power, .slice (tkg L k).ba (tkg L k).bl (tkg L k).bc] 54)) := hC.alloc hcs _;have HR7 := lh (hr7.alloc (.cells #[.string (tkg L k).name, .int .i64 (tkg L k).length, .int .i64 (tkg L k).crew, .int .i64 (tkg L k).power, .slice (tkg L k).ba (tkg L k).bl (tkg L k).bc] 54));have HR8 := lh (hr8.alloc (.cells #[.string (tkg L k).name, .int .i64 (tkg L k).length, .int .i64 (tkg L k).crew, .int .i64 (tkg L k).power, .slice (tkg L k).ba (tkg L k).bl (tkg L k).bc] 54));have HAP := lh hap;have HNE7 := lh (own_ne hr7);have HNE8 := lh (own_ne hr8);have x1 : (wr.alloc (.cells #[.string (tkg L k).name, .int .i64 (tkg L k).length, .int .i64 (tkg L k).crew, .int .i64 (tkg L k).power, .slice (tkg L k).ba (tkg L k).bl (tkg L k).bc] 54)).cell? ⟨wr.heap.size, 1, none⟩ = some (.int .i64 (tkg L k).length) := by simp
      have x2 : (wr.alloc (.cells #[.string (tkg L k).name, .int .i64 (tkg L k).length, .int .i64 (tkg L k).crew, .int .i64 (tkg L k).power, .slice (tkg L k).ba (tkg L k).bl (tkg L k).bc] 54)).cell? ⟨wr.heap.size, 2, none⟩ = some (.int .i64 (tkg L k).crew) := by simp
      have x3 : (wr.alloc (.cells #[.string (tkg L k).name, .int .i64 (tkg L k).length, .int .i64 (tkg L k).crew, .int .i64 (tkg L k).power, .slice (tkg L k).ba (tkg L k).bl (tkg L k).bc] 54)).cell? ⟨wr.heap.size, 3, none⟩ = some (.int .i64 (tkg L k).power) := by simp
      have K1 : ∀ wx, Below w2.heap.size w2 wx → wx.cell? ⟨sb, so + k, none⟩ = some (.int .i64 (ig S k)) := fun wx h => ((hB2.trans (h.mono hbs2)).cell (p := ⟨sb, so + k, none⟩) hsb).trans (hsc2 k hls2)
      go_upto_region 11 with (fail)
      have hws : wr.heap.size < (wr.alloc (.cells #[.string (tkg L k).name, .int .i64 (tkg L k).length, .int .i64 (tkg L k).crew, .int .i64 (tkg L k).power, .slice (tkg L k).ba (tkg L k).bl (tkg L k).bc] 54)).heap.size := by simp
      clear hr7 hr8 hap HR d0 d1 d2 d3 d4 K0 hE hes;have hs1 := hW1.size;clear hsc2;generalize wr.alloc (.cells #[.string (tkg L k).name, .int .i64 (tkg L k).length, .int .i64 (tkg L k).crew, .int .i64 (tkg L k).power, .slice (tkg L k).ba (tkg L k).bl (tkg L k).bc] 54) = W1 at *;generalize wr.heap.size = Bx at *;generalize (tkg L k).length = x at *;generalize (tkg L k).crew = y at *;generalize (tkg L k).power = z at *;generalize ig S k = q at *
      go_cut [7] (fun v wx => Hid (wx.ownsRow w2.heap.size 83 3 v (Uc ++ [(q, q + x, y)]).length (ugflat (Uc ++ [(q, q + x, y)])) ∧ wx.ownsRow w2.heap.size 83 3 vp Up.length (ugflat Up) ∧ Apart v vp) ∧ Below w2.heap.size w2 wx ∧ wx.cell? ⟨Bx, 1, none⟩ = some (.int .i64 x) ∧ wx.cell? ⟨Bx, 3, none⟩ = some (.int .i64 z))
      case first =>
       go_region_law (refine step_append_lies _ rfl (.tmp 31) (.tmp 46) 81 rfl w2.heap.size 83 i0 (.agg #[.int .i64 0, .int .i64 0, .int .i64 0]) 3 24 Tryz.underlying81 hi hz0 hz1 hz2 rfl (by decide) vc Uc.length (ugflat Uc) ?_ ?_ ⟨W1.heap.size, 0, none⟩ 1 1 [.int .i64 q, .int .i64 (q + x), .int .i64 y] ?_ rfl ?_ ?_ ?_ ?_ ?_ ?_ _ rfl ?_; (next => simp [Act.eval]); (next => exact (HR7.out.alloc _).drew); (next => simp [Act.eval]); (next => first | exact cell_three_drew _ _ _ _ _ | (rw [s1]; exact cell_three_drew _ _ _ _ _)); (next => simp [Value.oneCell']); (next => omega); (next => unfold maxLen; omega); (next => omega); (next => simp; omega); intro g5 cap5 w5 hown5 hgrow5 hin5 hg5)
       all_goals
        obtain ⟨hps, hcl⟩ := prof_step ((HR7.out.alloc _).drew) ((HR8.out.alloc _).drew) HAP.out hown5 hgrow5 hin5 HNE7.out;have hB5 : Below w2.heap.size w2 w5 := (hW1.alloc hs1 _).drew.grown hgrow5 (by simp; omega) (fun k e => (HR7.out.lt k e).1);have y1 := hcl ⟨Bx, 1, none⟩ _ rfl (by simpa using (World.cell?_alloc_lt _ _ _ hws).trans x1);have y3 := hcl ⟨Bx, 3, none⟩ _ rfl (by simpa using (World.cell?_alloc_lt _ _ _ hws).trans x3)
        go_wp2_with fail
        go_meet
        exact ⟨lh hps, hB5, y1, y3⟩
      case rest =>
       obtain ⟨HRx, hW1, x1, x3⟩ := hcut;obtain ⟨v9, rfl⟩ : ∃ x : Value, x = u7 := ⟨_, rfl⟩;obtain ⟨W3, rfl⟩ : ∃ x : World, x = wc := ⟨_, rfl⟩;obtain ⟨hr7, hr8, hap⟩ := HRx.out;clear HRx x2;have HR7 := lh hr7;have HR8 := lh hr8;have HAP := lh hap.symm;have hws : Bx < W3.heap.size := wl x1;have hs1 := hW1.size;clear hr7 hr8 hap
       go_upto_region 12 with (fail)
       go_region_law (refine step_append_lies _ rfl (.tmp 48) (.tmp 63) 81 rfl w2.heap.size 83 i0 (.agg #[.int .i64 0, .int .i64 0, .int .i64 0]) 3 24 Tryz.underlying81 hi hz0 hz1 hz2 rfl (by decide) vp Up.length (ugflat Up) ?_ ?_ ⟨W3.heap.size, 0, none⟩ 1 1 [.int .i64 q, .int .i64 (q + x), .int .i64 z] ?_ rfl ?_ ?_ ?_ ?_ ?_ ?_ _ rfl ?_; (next => simp [Act.eval]); (next => exact (HR8.out.alloc _).drew); (next => simp [Act.eval]); (next => first | exact cell_three_drew _ _ _ _ _ | (rw [s1]; exact cell_three_drew _ _ _ _ _)); (next => simp [Value.oneCell']); (next => omega); (next => unfold maxLen; omega); (next => omega); (next => simp; omega); intro g5 cap5 w5 hown5 hgrow5 hin5 hg5)
       all_goals
        obtain ⟨hps, hcl⟩ := prof_step ((HR8.out.alloc _).drew) ((HR7.out.alloc _).drew) HAP.out hown5 hgrow5 hin5 HNE8.out;have hB5 : Below w2.heap.size w2 w5 := (hW1.alloc hs1 _).drew.grown hgrow5 (by simp; omega) (fun k e => (HR8.out.lt k e).1);have HPS := lh hps;clear hps hcl hown5 hin5 hg5 hgrow5
        go_wp2_with fail
        go_roundw
        case rel => exact ⟨k + 1, by omega, by go_num, hB5, lh ⟨by rw [HN1.out]; exact HPS.out.2.1, by rw [HN2.out]; exact HPS.out.1, HPS.out.2.2.symm⟩⟩
        case measure => simp [intOf]; omega
     ·obtain rfl : k = L.length := by omega
      have hl1 : (usesTo TaskR.crew L S L.length).length ≤ 1000 := by rw [usesTo_len]; omega
      have hl2 : (usesTo TaskR.power L S L.length).length ≤ 1000 := by rw [usesTo_len]; omega
      generalize usesTo TaskR.crew L S L.length = Uc at *;generalize usesTo TaskR.power L S L.length = Up at *;obtain ⟨hr7, hr8, _⟩ := HR.out;obtain ⟨a7, c7, rfl, _, _, _, hf7⟩ := use_of_row hr7;obtain ⟨a8, c8, rfl, _, _, _, hf8⟩ := use_of_row hr8;have HF7 := lh hf7;have HF8 := lh hf8;clear hr7 hr8 hf7 hf8 HR
      go_wp2_with (first
       | (go_at_call 31; (with_reducible refine (steps_any a7 Uc c7 _ (by omega) HU1.out HF7.out).mono ?_); rintro e w5 hx; obtain ⟨v5, rfl, hr5, hb5⟩ := hx.out; have HR5 := lh hr5; have HF9 := lh (HF8.out.grow hb5); have hb5s := hb5.size; clear hx hr5)
       | (go_at_call 31; (with_reducible refine (steps_any a8 Up c8 _ (by omega) HU2.out HF9.out).mono ?_); rintro e w6 hx; obtain ⟨v6, rfl, hr6, hb6⟩ := hx.out; have HR6 := lh hr6; have HR56 := lh (ownsRow_below HR5.out hb6); clear hx hr6))
      go_ret3
      rw [HE.out, HP1.out, HP2.out];exact lh ⟨_, _, rfl, ownsRow_base HR56.out hes, ownsRow_base HR6.out (by omega), hE.trans ((hb5.trans (hb6.mono hb5s)).mono hes)⟩
   ·have HE : Hid (profE L S = 2) := lh (by unfold profE; rw [ht, if_pos rfl, if_pos hn, hs]; rfl)
    have HP := bad _ HE.out (by decide);have HAN : Hid (num_any S startBad = true) := lh (by rw [num_any_eq]; exact hs);clear ht bad hs hok hn
    go_enter Tryz.func15, Tryz.ntmps15
    go_wp2_with (first
     | (go_at_call 28; (with_reducible refine (HTK.out _ HL.out).mono ?_); rintro e w1 ⟨rfl, hb1⟩; rw [HT.out])
     | (go_at_call 29; (with_reducible refine (num_containsFunc _ S _ _ _ _ startBad _ ent_startBad (by omega) (Nat.le_refl _) (HS.out.grow hb1) (asks_startBad _ _)).mono ?_); rintro e w2 ⟨rfl, hb2⟩; rw [HAN.out]; have hB2 := hb1.trans (hb2.mono hb1.size)))
    go_ret3
    rw [HE.out, HP.out.1, HP.out.2];exact lh ⟨_, _, rfl, World.ownsRow_nil _ _ _ _, World.ownsRow_nil _ _ _ _, hB2⟩
  ·have q1 : ((S.length : Int) != (L.length : Int)) = true := bne_iff_ne.2 (by omega)
   have HE : Hid (profE L S = 3) := lh (by unfold profE; rw [ht, if_pos rfl, if_neg hn]);have HP := bad _ HE.out (by decide);clear ht bad hok hn
   go_enter Tryz.func15, Tryz.ntmps15
   go_wp2_with (go_at_call 28; (with_reducible refine (HTK.out _ HL.out).mono ?_); rintro e w1 ⟨rfl, hb1⟩; rw [HT.out])
   go_ret3
   rw [HE.out, HP.out.1, HP.out.2];exact lh ⟨_, _, rfl, World.ownsRow_nil _ _ _ _, World.ownsRow_nil _ _ _ _, hb1⟩
def stepB (L : List (Int × Int)) (k : Nat) : Bool := decide ((og L k).1 ≤ 1099511627776) && (decide (k = 0) || decide ((og L (k - 1)).1 < (og L k).1)) && decide (0 ≤ (og L k).2) && decide ((og L k).2 ≤ 1099511627776)
def okS (L : List (Int × Int)) : Nat → Bool
 | 0 => true
 | k + 1 => okS L k && stepB L k
def validB (L : List (Int × Int)) : Bool := decide (1 ≤ L.length) && decide (L.length ≤ 10000) && decide ((og L 0).1 = 0) && okS L L.length
theorem okS_false (L : List (Int × Int)) (k n : Nat) (hk : k < n) (h : stepB L k = false) : okS L n = false := by
 induction n with
 | zero => omega
 | succ n ih =>
  simp only [okS];rcases Nat.lt_or_ge k n with l | l
  ·rw [ih l]; rfl
  ·obtain rfl : k = n := by omega
   rw [h, Bool.and_false]
theorem okS_at (L : List (Int × Int)) (n : Nat) (h : okS L n = true) (k : Nat) (hk : k < n) : stepB L k = true := by
 cases e : stepB L k
 ·rw [okS_false L k n hk e] at h; cases h
 ·rfl
theorem okS_of (L : List (Int × Int)) (n : Nat) (h : ∀ k, k < n → stepB L k = true) : okS L n = true := by
 induction n with
 | zero => rfl
 | succ n ih => simp only [okS]; rw [ih fun k hk => h k (by omega), h n (by omega)]; rfl
theorem valid_step {L : List (Int × Int)} (h : validB L = true) : 1 ≤ L.length ∧ L.length ≤ 10000 ∧ (og L 0).1 = 0 ∧ ∀ k, k < L.length → (og L k).1 ≤ 1099511627776 ∧ (0 < k → (og L (k - 1)).1 < (og L k).1) ∧ 0 ≤ (og L k).2 ∧ (og L k).2 ≤ 1099511627776 := by
 unfold validB at h;simp only [Bool.and_eq_true, decide_eq_true_eq] at h;obtain ⟨⟨⟨h1, h2⟩, h3⟩, h4⟩ := h;refine ⟨h1, h2, h3, fun k hk => ?_⟩;have := okS_at L _ h4 k hk;unfold stepB at this;simp only [Bool.and_eq_true, Bool.or_eq_true, decide_eq_true_eq] at this;omega
theorem valid_of {L : List (Int × Int)} (h1 : 1 ≤ L.length) (h2 : L.length ≤ 10000) (h3 : (og L 0).1 = 0) (h : ∀ k, k < L.length → (og L k).1 ≤ 1099511627776 ∧ (0 < k → (og L (k - 1)).1 < (og L k).1) ∧ 0 ≤ (og L k).2 ∧ (og L k).2 ≤ 1099511627776) : validB L = true := by
 unfold validB;rw [decide_eq_true h1, decide_eq_true h2, decide_eq_true h3, okS_of L _ fun k hk => ?_]
 ·rfl
 ·obtain ⟨a, b, c, d⟩ := h k hk
  unfold stepB;simp only [Bool.and_eq_true, Bool.or_eq_true, decide_eq_true_eq];refine ⟨⟨⟨a, ?_⟩, c⟩, d⟩;rcases Nat.eq_zero_or_pos k with e | e
  ·exact .inl e
  ·exact .inr (b e)

theorem valid42_any (a : Option Addr) (L : List (Int × Int)) (cap : Nat) (w : World) (hl : L.length ≤ 1000000) (hL : Loads w.heap.size w a L) :
  Calls Tryz.prog 32 #[.slice a L.length cap] w fun e w' => e = .returned (.bool (validB L)) ∧ Below w.heap.size w w' := by
 have HL := lh hL; clear hL
 by_cases h1 : 1 ≤ L.length
 ·by_cases h2 : L.length ≤ 10000
  ·obtain ⟨b0, off0, e0, hb0, hc0⟩ := HL.out (by omega)
   have g0 := (hc0 0 (by omega)).1;have HE0 := lh e0;rw [Nat.zero_mul, Nat.add_zero] at g0;clear hc0 e0
   by_cases h3 : (og L 0).1 = 0
   ·rw [h3] at g0
    have HV : Hid (validB L = okS L L.length) := lh (by unfold validB; rw [decide_eq_true h1, decide_eq_true h2, decide_eq_true h3]; rfl);clear h3;obtain rfl := HE0.out;clear HE0
    go_enter Tryz.func32, Tryz.ntmps32
    go_wp2_with fail
    clear g0
    go_loopw [22] (fun i wr => ∃ k : Nat, k ≤ L.length ∧ i = .int .i64 k ∧ Below w.heap.size w wr ∧ Hid (okS L k = true)) (fun i _ => L.length - (intOf i).toNat)
    case atStart => exact ⟨0, Nat.zero_le _, rfl, br, lh rfl⟩
    case round =>
     obtain ⟨k, hk, rfl, hB, HO⟩ := hrel;have hbs := hB.size
     by_cases hlt : k < L.length
     ·obtain ⟨_, _, e, hb, hc⟩ := HL.out (by omega)
      cases e
      have D0 : ∀ j, j < L.length → wr.cell? ⟨b0, off0 + j * 2, none⟩ = some (.int .i64 (og L j).1) := fun j hj => (hB.cell (p := ⟨b0, off0 + j * 2, none⟩) hb).trans (hc j hj).1;have D1 : ∀ j, j < L.length → wr.cell? ⟨b0, off0 + j * 2 + 1, none⟩ = some (.int .i64 (og L j).2) := fun j hj => (hB.cell (p := ⟨b0, off0 + j * 2 + 1, none⟩) hb).trans (hc j hj).2;have hbw : b0 < wr.heap.size := Nat.lt_of_lt_of_le hb hbs;have d0 := D0 k hlt;have d1 := D1 k hlt;have d2 := D0 (k - 1) (by omega);clear hc D0 D1
      by_cases hA : 1099511627776 < (og L k).1
      ·have HF : Hid (validB L = false) := lh (by unfold validB; rw [okS_false L k _ hlt (by unfold stepB; rw [dF (show ¬ (og L k).1 ≤ 1099511627776 by omega)]; simp), Bool.and_false])
       have z0 : decide (1099511627776 < (og L k).1) = true := decide_eq_true hA
       go_wp2_with fail
       go_quiet (fail)
       clear z0
       go_wp2_with fail
       go_ret;exact ⟨ret_bool HF.out.symm, below_drewN (hB.alloc hbs _) _⟩
      ·by_cases hk0 : 0 < k
       ·by_cases hQ : (og L k).1 ≤ (og L (k - 1)).1
        ·have HF : Hid (validB L = false) := lh (by unfold validB; rw [okS_false L k _ hlt (by unfold stepB; rw [dF (show ¬ k = 0 by omega), dF (show ¬ (og L (k - 1)).1 < (og L k).1 by omega)]; simp), Bool.and_false])
         have z0 : decide (1099511627776 < (og L k).1) = false := decide_eq_false hA;have z1 : decide ((og L k).1 ≤ (og L (k - 1)).1) = true := decide_eq_true hQ;have y0 : decide ((0 : Int) < (k : Int)) = true := dT (by omega);have y1 : decide (0 < k) = true := dT (by omega);have y2 : IntKind.i64.wrap ((k : Int) - 1) = (k : Int) - 1 := IntWalk.i64_in _ (by omega);have y3 : ((k : Int) - 1).toNat = k - 1 := by omega
         have y4 : (0 : Int) ≤ (k : Int) - 1 := by omega
         have y5 : k - 1 < L.length := by omega
         have y6 : (1 : Int) ≤ (k : Int) := by omega
         have y7 : (k : Int) - 1 < (L.length : Int) := by omega
         go_wp2_with fail
         go_quiet (fail)
         clear z0 z1 y0 y1 y2 y3 y4 y5 y6 y7
         go_wp2_with fail
         go_ret;exact ⟨ret_bool HF.out.symm, below_drewN (hB.alloc hbs _) _⟩
        ·by_cases hN : (og L k).2 < 0
         ·have HF : Hid (validB L = false) := lh (by unfold validB; rw [okS_false L k _ hlt (by unfold stepB; rw [dF (show ¬ 0 ≤ (og L k).2 by omega)]; simp), Bool.and_false])
          have z0 : decide (1099511627776 < (og L k).1) = false := decide_eq_false hA;have z1 : decide ((og L k).1 ≤ (og L (k - 1)).1) = false := decide_eq_false hQ;have z2 : decide ((og L k).2 < 0) = true := decide_eq_true hN;have y0 : decide ((0 : Int) < (k : Int)) = true := dT (by omega);have y1 : decide (0 < k) = true := dT (by omega);have y2 : IntKind.i64.wrap ((k : Int) - 1) = (k : Int) - 1 := IntWalk.i64_in _ (by omega);have y3 : ((k : Int) - 1).toNat = k - 1 := by omega
          have y4 : (0 : Int) ≤ (k : Int) - 1 := by omega
          have y5 : k - 1 < L.length := by omega
          have y6 : (1 : Int) ≤ (k : Int) := by omega
          have y7 : (k : Int) - 1 < (L.length : Int) := by omega
          go_wp2_with fail
          go_quiet (fail)
          clear z0 z1 z2 y0 y1 y2 y3 y4 y5 y6 y7
          go_wp2_with fail
          go_ret;exact ⟨ret_bool HF.out.symm, below_drewN (hB.alloc hbs _) _⟩
         ·by_cases hW : 1099511627776 < (og L k).2
          ·have HF : Hid (validB L = false) := lh (by unfold validB; rw [okS_false L k _ hlt (by unfold stepB; rw [dF (show ¬ (og L k).2 ≤ 1099511627776 by omega), Bool.and_false]), Bool.and_false])
           have z0 : decide (1099511627776 < (og L k).1) = false := decide_eq_false hA;have z1 : decide ((og L k).1 ≤ (og L (k - 1)).1) = false := decide_eq_false hQ;have z2 : decide ((og L k).2 < 0) = false := decide_eq_false hN;have z3 : decide (1099511627776 < (og L k).2) = true := decide_eq_true hW;have y0 : decide ((0 : Int) < (k : Int)) = true := dT (by omega);have y1 : decide (0 < k) = true := dT (by omega);have y2 : IntKind.i64.wrap ((k : Int) - 1) = (k : Int) - 1 := IntWalk.i64_in _ (by omega);have y3 : ((k : Int) - 1).toNat = k - 1 := by omega
           have y4 : (0 : Int) ≤ (k : Int) - 1 := by omega
           have y5 : k - 1 < L.length := by omega
           have y6 : (1 : Int) ≤ (k : Int) := by omega
           have y7 : (k : Int) - 1 < (L.length : Int) := by omega
           go_wp2_with fail
           go_quiet (fail)
           clear z0 z1 z2 z3 y0 y1 y2 y3 y4 y5 y6 y7
           go_wp2_with fail
           go_ret;exact ⟨ret_bool HF.out.symm, below_drewN (hB.alloc hbs _) _⟩
          ·have HS : Hid (okS L (k + 1) = true) := lh (by simp only [okS]; rw [HO.out, Bool.true_and]; unfold stepB; simp only [Bool.and_eq_true, Bool.or_eq_true, decide_eq_true_eq]; omega)
           have z0 : decide (1099511627776 < (og L k).1) = false := decide_eq_false hA;have z1 : decide ((og L k).1 ≤ (og L (k - 1)).1) = false := decide_eq_false hQ;have z2 : decide ((og L k).2 < 0) = false := decide_eq_false hN;have z3 : decide (1099511627776 < (og L k).2) = false := decide_eq_false hW;have y0 : decide ((0 : Int) < (k : Int)) = true := dT (by omega);have y1 : decide (0 < k) = true := dT (by omega);have y2 : IntKind.i64.wrap ((k : Int) - 1) = (k : Int) - 1 := IntWalk.i64_in _ (by omega);have y3 : ((k : Int) - 1).toNat = k - 1 := by omega
           have y4 : (0 : Int) ≤ (k : Int) - 1 := by omega
           have y5 : k - 1 < L.length := by omega
           have y6 : (1 : Int) ≤ (k : Int) := by omega
           have y7 : (k : Int) - 1 < (L.length : Int) := by omega
           go_wp2_with fail
           go_quiet (fail)
           clear z0 z1 z2 z3 y0 y1 y2 y3 y4 y5 y6 y7
           go_wp2_with fail
           go_roundw
           case rel => exact ⟨k + 1, by omega, by go_num, below_drewN (hB.alloc hbs _) _, HS⟩
           case measure => simp [intOf]; omega
       ·by_cases hN : (og L k).2 < 0
        ·have HF : Hid (validB L = false) := lh (by unfold validB; rw [okS_false L k _ hlt (by unfold stepB; rw [dF (show ¬ 0 ≤ (og L k).2 by omega)]; simp), Bool.and_false])
         have z0 : decide (1099511627776 < (og L k).1) = false := decide_eq_false hA;have z1 : decide ((og L k).2 < 0) = true := decide_eq_true hN;have y0 : decide ((0 : Int) < (k : Int)) = false := dF (by omega);have y1 : decide (0 < k) = false := dF (by omega)
         go_wp2_with fail
         go_quiet (fail)
         clear z0 z1 y0 y1
         go_wp2_with fail
         go_ret;exact ⟨ret_bool HF.out.symm, below_drewN (hB.alloc hbs _) _⟩
        ·by_cases hW : 1099511627776 < (og L k).2
         ·have HF : Hid (validB L = false) := lh (by unfold validB; rw [okS_false L k _ hlt (by unfold stepB; rw [dF (show ¬ (og L k).2 ≤ 1099511627776 by omega), Bool.and_false]), Bool.and_false])
          have z0 : decide (1099511627776 < (og L k).1) = false := decide_eq_false hA;have z1 : decide ((og L k).2 < 0) = false := decide_eq_false hN;have z2 : decide (1099511627776 < (og L k).2) = true := decide_eq_true hW;have y0 : decide ((0 : Int) < (k : Int)) = false := dF (by omega);have y1 : decide (0 < k) = false := dF (by omega)
          go_wp2_with fail
          go_quiet (fail)
          clear z0 z1 z2 y0 y1
          go_wp2_with fail
          go_ret;exact ⟨ret_bool HF.out.symm, below_drewN (hB.alloc hbs _) _⟩
         ·have HS : Hid (okS L (k + 1) = true) := lh (by simp only [okS]; rw [HO.out, Bool.true_and]; unfold stepB; simp only [Bool.and_eq_true, Bool.or_eq_true, decide_eq_true_eq]; omega)
          have z0 : decide (1099511627776 < (og L k).1) = false := decide_eq_false hA;have z1 : decide ((og L k).2 < 0) = false := decide_eq_false hN;have z2 : decide (1099511627776 < (og L k).2) = false := decide_eq_false hW;have y0 : decide ((0 : Int) < (k : Int)) = false := dF (by omega);have y1 : decide (0 < k) = false := dF (by omega)
          go_wp2_with fail
          go_quiet (fail)
          clear z0 z1 z2 y0 y1
          go_wp2_with fail
          go_roundw
          case rel => exact ⟨k + 1, by omega, by go_num, below_drewN (hB.alloc hbs _) _, HS⟩
          case measure => simp [intOf]; omega
     ·obtain rfl : k = L.length := by omega
      go_wp2_with fail
      go_ret;exact ⟨ret_bool (by rw [HV.out, HO.out]), hB⟩
   ·have HV : Hid (validB L = false) := lh (by unfold validB; rw [decide_eq_false h3]; simp)
    have z0 : ((og L 0).1 != 0) = true := bne_iff_ne.2 h3;clear h3;obtain rfl := HE0.out
    go_enter Tryz.func32, Tryz.ntmps32
    go_wp2_with fail
    go_ret;exact ⟨ret_bool HV.out.symm, br⟩
  ·have HV : Hid (validB L = false) := lh (by unfold validB; rw [decide_eq_false h2]; simp)
   go_enter Tryz.func32, Tryz.ntmps32
   go_wp2_with fail
   go_ret;exact ⟨ret_bool HV.out.symm, br⟩
 ·have HV : Hid (validB L = false) := lh (by unfold validB; rw [decide_eq_false h1]; simp)
  go_enter Tryz.func32, Tryz.ntmps32
  go_wp2_with fail
  go_ret;exact ⟨ret_bool HV.out.symm, br⟩
def peakI (L : List (Int × Int)) : Nat → Nat
 | 0 => 0
 | k + 1 => if (og L (peakI L k)).2 < (og L k).2 then k else peakI L k
theorem peakI_lt (L : List (Int × Int)) (k : Nat) (h : 0 < L.length) (hk : k ≤ L.length) : peakI L k < L.length := by
 induction k with
 | zero => exact h
 | succ k ih =>
  simp only [peakI]
  split
  ·omega
  ·exact ih (by omega)
def peakP (L : List (Int × Int)) : Int × Int × Int := if validB L then ((og L (peakI L L.length)).2, (og L (peakI L L.length)).1, 0) else (0, 0, 1)

theorem peak_any (a : Option Addr) (L : List (Int × Int)) (cap : Nat) (w : World) (hl : L.length ≤ 1000000) (hL : Loads w.heap.size w a L) :
  Calls Tryz.prog 16 #[.slice a L.length cap] w fun e w' => e = .returned (.tuple #[.int .i64 (peakP L).1, .int .i64 (peakP L).2.1, .int .i64 (peakP L).2.2]) ∧ Below w.heap.size w w' := by
 have HL := lh hL; clear hL
 cases hv : validB L
 ·have HV := lh hv
  have HW : Hid (peakP L = (0, 0, 1)) := lh (by unfold peakP; rw [hv]; rfl);clear hv;rw [HW.out]
  go_enter Tryz.func16, Tryz.ntmps16
  go_wp2_with (go_at_call 32; (with_reducible refine (valid42_any _ L _ _ (by omega) HL.out).mono ?_); rintro e w1 ⟨rfl, hb1⟩; rw [HV.out])
  go_ret3
  exact ⟨rfl, hb1⟩
 ·have HV := lh hv
  have h0 := (valid_step hv).1;have HW : Hid (peakP L = ((og L (peakI L L.length)).2, (og L (peakI L L.length)).1, 0)) := lh (by unfold peakP; rw [hv]; rfl);clear hv;obtain ⟨b, off, rfl, hb, hc⟩ := HL.out (by omega);have HC := lh hc;have HZ : Hid (∀ wr, Below w.heap.size w wr → wr.cell? ⟨b, off, none⟩ = some (.int .i64 (og L 0).1) ∧ wr.cell? ⟨b, off + 1, none⟩ = some (.int .i64 (og L 0).2)) := lh fun wr h => ⟨(h.cell (p := ⟨b, off, none⟩) hb).trans (by have := (hc 0 (by omega)).1; simpa using this), (h.cell (p := ⟨b, off + 1, none⟩) hb).trans (by have := (hc 0 (by omega)).2; simpa using this)⟩;clear hc
  go_enter Tryz.func16, Tryz.ntmps16
  go_wp2_with (go_at_call 32; (with_reducible refine (valid42_any _ L _ _ (by omega) HL.out).mono ?_); rintro e w1 ⟨rfl, hb1⟩; rw [HV.out]; have hbs1 := hb1.size; obtain ⟨z0, z1⟩ := HZ.out _ hb1)
  have hb2 : Below w.heap.size w (w1.alloc (.cells #[.int .i64 (og L 0).1, .int .i64 (og L 0).2] 41)) := hb1.alloc hbs1 _;have b0 : (w1.alloc (.cells #[.int .i64 (og L 0).1, .int .i64 (og L 0).2] 41)).cell? ⟨w1.heap.size, 0, none⟩ = some (.int .i64 (og L 0).1) := by simp
  have b1 : (w1.alloc (.cells #[.int .i64 (og L 0).1, .int .i64 (og L 0).2] 41)).cell? ⟨w1.heap.size, 1, none⟩ = some (.int .i64 (og L 0).2) := by simp
  have f0 : (w1.alloc (.cells #[.int .i64 (og L 0).1, .int .i64 (og L 0).2] 41)).frozen? ⟨w1.heap.size, 0, none⟩ = false := by simp
  have f1 : (w1.alloc (.cells #[.int .i64 (og L 0).1, .int .i64 (og L 0).2] 41)).frozen? ⟨w1.heap.size, 1, none⟩ = false := by simp
  generalize w1.alloc (.cells #[.int .i64 (og L 0).1, .int .i64 (og L 0).2] 41) = w2 at *
  go_loopw [16] (fun i wr => ∃ k : Nat, k ≤ L.length ∧ i = .int .i64 k ∧ Below w.heap.size w wr ∧ wr.cell? ⟨w1.heap.size, 0, none⟩ = some (.int .i64 (og L (peakI L k)).1) ∧ wr.cell? ⟨w1.heap.size, 1, none⟩ = some (.int .i64 (og L (peakI L k)).2) ∧ wr.frozen? ⟨w1.heap.size, 0, none⟩ = false ∧ wr.frozen? ⟨w1.heap.size, 1, none⟩ = false) (fun i _ => L.length - (intOf i).toNat)
  case atStart => exact ⟨0, Nat.zero_le _, rfl, hb2, b0, b1, f0, f1⟩
  case round =>
   clear hb2 b0 b1 f0 f1 z0 z1;obtain ⟨k, hk, rfl, hB, b0, b1, f0, f1⟩ := hrel;have hbs := hB.size;have hpl := peakI_lt L k (by omega) hk;have hwz : w1.heap.size < wr.heap.size := wl b0
   by_cases hlt : k < L.length
   ·have c0 := (hB.cell (p := ⟨b, off + k * 2, none⟩) hb).trans (HC.out k hlt).1
    have c1 := (hB.cell (p := ⟨b, off + k * 2 + 1, none⟩) hb).trans (HC.out k hlt).2;have HS : Hid (peakI L (k + 1) = if (og L (peakI L k)).2 < (og L k).2 then k else peakI L k) := lh rfl;generalize peakI L k = p at *
    by_cases q : (og L p).2 < (og L k).2
    ·have HS2 : Hid (peakI L (k + 1) = k) := lh (by rw [HS.out, if_pos q])
     go_wp2_with fail
     go_roundw
     case rel =>
      have s0 := World.cell?_setCell_same wr ⟨w1.heap.size, 0, none⟩ (.int .i64 (og L k).1) b0;have s1 : (wr.setCell ⟨w1.heap.size, 0, none⟩ (.int .i64 (og L k).1)).cell? ⟨w1.heap.size, 1, none⟩ = some (.int .i64 (og L p).2) := (World.cell?_setCell_other _ _ _ _ (fun x => absurd (congrArg Addr.off x) (by simp))).trans b1;have s2 : ((wr.setCell ⟨w1.heap.size, 0, none⟩ (.int .i64 (og L k).1)).setCell ⟨w1.heap.size, 1, none⟩ (.int .i64 (og L k).2)).cell? ⟨w1.heap.size, 0, none⟩ = some (.int .i64 (og L k).1) := (World.cell?_setCell_other _ _ _ _ (fun x => absurd (congrArg Addr.off x) (by simp))).trans s0;have s3 := World.cell?_setCell_same _ ⟨w1.heap.size, 1, none⟩ (.int .i64 (og L k).2) s1;have hws : w1.heap.size < ((wr.setCell ⟨w1.heap.size, 0, none⟩ (.int .i64 (og L k).1)).setCell ⟨w1.heap.size, 1, none⟩ (.int .i64 (og L k).2)).heap.size := by simp; omega
      exact ⟨k + 1, by omega, by go_num, ((hB.setCell (p := ⟨w1.heap.size, 0, none⟩) hbs1 _).setCell (p := ⟨w1.heap.size, 1, none⟩) hbs1 _).alloc (by simp; omega) _, by rw [HS2.out]; exact (World.cell?_alloc_lt _ _ _ hws).trans s2, by rw [HS2.out]; exact (World.cell?_alloc_lt _ _ _ hws).trans s3, ((below_new _ _).frozen (p := ⟨w1.heap.size, 0, none⟩) hws).trans (by simpa using f0), ((below_new _ _).frozen (p := ⟨w1.heap.size, 1, none⟩) hws).trans (by simpa using f1)⟩
     case measure => simp [intOf]; omega
    ·have HS2 : Hid (peakI L (k + 1) = p) := lh (by rw [HS.out, if_neg q])
     go_wp2_with fail
     go_roundw
     case rel => exact ⟨k + 1, by omega, by go_num, hB.alloc hbs _, by rw [HS2.out]; exact (World.cell?_alloc_lt _ _ _ hwz).trans b0, by rw [HS2.out]; exact (World.cell?_alloc_lt _ _ _ hwz).trans b1, ((below_new _ _).frozen (p := ⟨w1.heap.size, 0, none⟩) hwz).trans f0, ((below_new _ _).frozen (p := ⟨w1.heap.size, 1, none⟩) hwz).trans f1⟩
     case measure => simp [intOf]; omega
   ·obtain rfl : k = L.length := by omega
    go_wp2_with fail
    go_quiet (fail)
    go_wp2_with fail
    go_ret3
    rw [HW.out];exact ⟨rfl, below_drewN hB _⟩
end
end Go.Proofs.YtlnodjcmdnmnlaaGreat
