/-
  THE WALK of the law LinksAfter.
-/
import Derived.Test.YtapjhjpibefooaaLawOrder
import Derived.Test.YtapjhjpibefooaaAfterP
import Derived.Test.YtapjhjpibefooaaAfterC
namespace Go.Proofs.Ytapjhjpibefooaa
open Go.RowKit Go.Shelf

def negL (n k : Nat) : List Int := (List.range n).map fun x => if x < k then -1 else 0
theorem negL_len (n k : Nat) : (negL n k).length = n := by simp [negL]
theorem negL_at (n k x : Nat) (h : x < n) : ig (negL n k) x = if x < k then -1 else 0 := by
  unfold ig negL
  rw [List.getElem?_map, List.getElem?_range h]
  rfl
theorem negL_set (n k : Nat) (hk : k < n) : negL n (k + 1) = (negL n k).set k (-1) := by
  refine ig_ext _ _ (by simp [negL]) fun j hj => ?_
  rw [negL_len] at hj
  rw [ig_set _ _ _ _ (by rw [negL_len]; exact hk), negL_at _ _ _ hj, negL_at _ _ _ hj]
  by_cases h : k = j
  · subst h; rw [if_pos (by omega), if_pos rfl]
  · rw [if_neg h]
    by_cases l : j < k
    · rw [if_pos l, if_pos (by omega)]
    · rw [if_neg l, if_neg (by omega)]
theorem posL_zero (n : Nat) (O : List Int) : posL n O 0 = negL n n := by
  refine ig_ext _ _ (by simp [posL, negL]) fun j hj => ?_
  rw [posL_len] at hj
  rw [posL_at _ _ _ _ hj, negL_at _ _ _ hj, if_pos hj]
  rfl
theorem made_neg (n : Nat) : (madeCells (Value.int .i64 0).cells (n * 1)).toList = nflat (negL n 0) := by
  have e : ∀ l : List Int, nflat l = l.map (Value.int .i64) := fun l => by
    induction l with
    | nil => rfl
    | cons x r ih => rw [List.map_cons, ← ih]; rfl
  rw [e, Nat.mul_one]
  unfold negL
  rw [List.map_map]
  apply List.ext_getElem?
  intro j
  by_cases hj : j < n
  · simp [madeCells, Value.cells, hj, Nat.mod_one]
  · simp [madeCells, Value.cells, hj]

set_option maxRecDepth 100000 in
set_option maxHeartbeats 16000000 in
theorem after_full (ca pa : Option Addr) (L : List CueR) (A : List (ByteArray × ByteArray)) (cc pc : Nat) (w : World) (hI : Cues w.heap.size w ca L) (hP : Pairs w.heap.size w pa A) (hlb : largeB L A = false) (hlk : linkedB L A = true) (ho : ¬ (ordP (hangs L)).length < L.length) :
    Calls Try.prog 8 #[.agg #[.slice ca L.length cc, .slice pa A.length pc]] w fun e w' => e = .returned (.bool true) ∧ Below w.heap.size w w' := by
  have hb0 : Below w.heap.size w (w.alloc (.cells #[.slice ca L.length cc, .slice pa A.length pc] 25)) := below_new w _
  have HI := Lib.hid (hI.grow hb0)
  have HP := Lib.hid (hP.grow hb0)
  have HX : Hid (∀ wr, Below (w.alloc (.cells #[.slice ca L.length cc, .slice pa A.length pc] 25)).heap.size (w.alloc (.cells #[.slice ca L.length cc, .slice pa A.length pc] 25)) wr → Below w.heap.size w wr ∧ wr.cell? ⟨w.heap.size, 0, none⟩ = some (.slice ca L.length cc) ∧ wr.cell? ⟨w.heap.size, 1, none⟩ = some (.slice pa A.length pc)) := Lib.hid fun wr h => ⟨mono_in _ h, box2 h⟩
  clear hb0 hI hP
  obtain ⟨i0, hi, hy1, hy2, hy3⟩ := info_parts num_info
  have HLB := Lib.hid hlb
  obtain ⟨hl1, hl2, hl3⟩ := large_len hlb
  have HLK := Lib.hid hlk
  have hole := ord_le L
  have hne := no_loop_of_full (hang_ok L) (by rw [hangs_len]; exact ho)
  have HLP : Hid (loopP L A = ([], 12)) := Lib.hid (by unfold loopP; rw [hlk, hne]; rfl)
  have HBF : Hid (∀ i, i < L.length → (cg L i).link ≠ 1 → ∃ f : Nat, f < L.length ∧ findI L (cg L i).after = f ∧ posTo (ordP (hangs L)) L.length f < posTo (ordP (hangs L)) L.length i) := Lib.hid fun i hi h1 => pos_before hlk ho i hi h1
  have HORD : Hid (∀ k, k < (ordP (hangs L)).length → ∃ m : Nat, m < L.length ∧ ig (ordP (hangs L)) k = m) := Lib.hid fun k hk => ord_in L k hk
  have HNEG : Hid (∀ (k m : Nat), k < (ordP (hangs L)).length → ig (ordP (hangs L)) k = m → posTo (ordP (hangs L)) k m = -1) := Lib.hid fun k m hk e => posTo_none fun s hs e2 => nodup_at (ord_at (hangs L)).1.nd hs hk (by rw [e2, e])
  obtain ⟨O, hO⟩ : ∃ O, ordP (hangs L) = O := ⟨_, rfl⟩
  have HOP : Hid (orderP L A = (O, 0)) := Lib.hid (by unfold orderP; rw [hlk, if_pos rfl, if_neg ho, hO])
  rw [hO] at HBF HORD HNEG hole ho
  have HOL : Hid (O.length = L.length) := Lib.hid (by omega)
  have m9 : ((O.length : Int) != (L.length : Int)) = false := by rw [bne_eq_false_iff_eq]; omega
  have hol : O.length ≤ 1000 := by omega
  clear hlb hlk hne hO ho
  go_enter Try.func8, Try.ntmps8
  go_wp2_with (first
    | (go_at_call 10; (with_reducible refine (awake_any _).mono ?_); rintro e w1 ⟨rfl, hb1⟩; obtain ⟨_, z10, z11⟩ := HX.out _ hb1)
    | (go_at_call 11; (with_reducible refine (large_any _ _ L A _ _ _ (HI.out.grow hb1) (HP.out.grow hb1)).mono ?_); rintro e w2 ⟨rfl, hb2⟩; rw [HLB.out]; have hB2 := hb1.trans (hb2.mono hb1.size); obtain ⟨_, z20, z21⟩ := HX.out _ hB2)
    | (go_at_call 36; (with_reducible refine (orderE_any _ _ L A _ _ _ (by omega) (HI.out.grow hB2) (HP.out.grow hB2)).mono ?_); rintro e w3 hx; obtain ⟨v3, rfl, hr3, hb3⟩ := hx.out; rw [HOP.out] at hr3; rw [HOP.out]; have hB3 := hB2.trans (hb3.mono hB2.size); obtain ⟨a3, c3, rfl, _, _, _, hf3⟩ := num_of_row hr3; have HF3 := Lib.hid hf3; obtain ⟨_, z30, z31⟩ := HX.out _ hB3; clear hx hr3 hf3)
    | (go_at_call 37; (with_reducible refine (loop_any _ _ L A _ _ _ (by omega) (HI.out.grow hB3) (HP.out.grow hB3)).mono ?_); rintro e w4 hx; obtain ⟨v4, rfl, hr4, hb4⟩ := hx.out; rw [HLP.out] at hr4; rw [HLP.out]; have hB4 := hB3.trans (hb4.mono hB3.size); obtain ⟨a4, c4, rfl, _, _, _, hf4⟩ := str_of_row hr4; have HF4 := Lib.hid hf4; obtain ⟨_, z40, z41⟩ := HX.out _ hB4; clear hx hr4 hf4)
    | (at_make; refine wpList_make_full _ rfl _ _ 26 rfl w4.heap.size 3 i0 (.int .i64 0) 1 Try.underlying26 hi hy1 hy2 _ _ _ _ L.length rfl rfl rfl rfl (by rw [hy3]; omega) (by unfold maxLen; omega) (Nat.le_refl _) ?_; intro w5 hown5 hg5; have HD5 := Lib.hid (show w5.ownsRow w4.heap.size 3 1 (.slice (some ⟨w4.heap.size, 0, none⟩) L.length L.length) L.length (nflat (negL L.length 0)) by rw [← made_neg L.length]; exact hown5); have f0 := hg5.cell z40 (by simp); have f1 := hg5.cell z41 (by simp); clear hown5))
  have hB45 : Below w4.heap.size w4 w5 := (Below.refl _ _).grown hg5 (Nat.le_refl _) (fun k e => by cases e)
  have hs4 := hB4.size
  have hw45 : w4.heap.size < w5.heap.size := (HD5.out.lt _ rfl).2
  have HI5 := Lib.hid ((HI.out.grow hB4).below hB45)
  have HO5 := Lib.hid ((HF3.out.grow hb4).below hB45)
  have hw4 : w.heap.size < w4.heap.size := World.block_lt_of_cell? _ _ z40
  have HI6 : Hid (∀ wr, Below w4.heap.size w5 wr → Cues wr.heap.size wr ca L) := Lib.hid fun wr h => (HI.out.grow hB4).grow (hB45.trans h)
  have HZ0 := Lib.hid f0
  have HZ1 := Lib.hid f1
  have HFIN : Hid (∀ wr, Below w4.heap.size w5 wr → Below w.heap.size w wr) := Lib.hid fun wr h => (HX.out _ (hB4.trans ((hB45.trans h).mono hs4))).1
  clear hb1 hb2 hb3 hb4 hB2 hB3 hB4 z10 z11 z20 z21 z30 z31 z40 z41 hg5 HF3 HF4 HI HP f0 f1 hB45
  generalize w4.heap.size = g at *
  go_loopw [73] (fun i wr => ∃ k : Nat, k ≤ L.length ∧ i = .int .i64 k ∧ Below g w5 wr ∧ Hid (wr.ownsRow g 3 1 (.slice (some ⟨g, 0, none⟩) L.length L.length) L.length (nflat (negL L.length k))) ∧ w5.heap.size ≤ wr.heap.size) (fun i _ => L.length - (intOf i).toNat)
  case atStart => exact ⟨0, Nat.zero_le _, rfl, Below.refl _ _, HD5, Nat.le_refl _⟩
  case round =>
    clear HD5
    obtain ⟨k, hk, rfl, hB, HR, hws⟩ := hrel
    by_cases hlt : k < L.length
    · have o2 : wr.cell? ⟨g, k, none⟩ = some (.int .i64 (ig (negL L.length k) k)) := by rw [HR.out.cellAt k (by omega), nflat_at _ _ (by rw [negL_len]; exact hlt)]
      have o3 := HR.out.frozenAt k
      have HST := Lib.hid (show (wr.setCell ⟨g, k, none⟩ (.int .i64 (-1))).ownsRow g 3 1 (.slice (some ⟨g, 0, none⟩) L.length L.length) L.length (nflat (negL L.length (k + 1))) by rw [negL_set _ _ hlt, ← nflat_set]; exact (HR.out.stored k _).1)
      go_wp2_with fail
      go_roundw
      case rel => exact ⟨k + 1, by omega, by go_num, hB.setCell (show g ≤ (⟨g, k, none⟩ : Addr).block from Nat.le_refl _) _, HST, by first | omega | (simp; omega)⟩
      case measure => first | (simp [intOf]; done) | (simp [intOf]; omega)
    · obtain rfl : k = L.length := by omega
      clear hlt hk
      go_wp2_with fail
      have HR0 : Hid (wr.ownsRow g 3 1 (.slice (some ⟨g, 0, none⟩) L.length L.length) L.length (nflat (posL L.length O 0))) := Lib.hid (by rw [posL_zero]; exact HR.out)
      go_loopw [82] (fun i wr => ∃ k : Nat, k ≤ O.length ∧ i = .int .i64 k ∧ Below g w5 wr ∧ Hid (wr.ownsRow g 3 1 (.slice (some ⟨g, 0, none⟩) L.length L.length) L.length (nflat (posL L.length O k))) ∧ w5.heap.size ≤ wr.heap.size) (fun i _ => O.length - (intOf i).toNat)
      case atStart => exact ⟨0, Nat.zero_le _, rfl, hB, HR0, hws⟩
      case round =>
        clear HR0 HR hB hws
        obtain ⟨k, hk, rfl, hB, HR, hws⟩ := hrel
        by_cases hlt : k < O.length
        · obtain ⟨ob, oo, rfl, hol2, hoc⟩ := HO5.out (by omega)
          obtain ⟨m, hm, hmo⟩ := HORD.out k hlt
          have o0 := (hB.cell (p := ⟨ob, oo + k, none⟩) hol2).trans (hoc k hlt)
          rw [hmo] at o0
          have o2 : wr.cell? ⟨g, m, none⟩ = some (.int .i64 (-1)) := by rw [HR.out.cellAt m (by omega), nflat_at _ _ (by rw [posL_len]; exact hm), posL_at _ _ _ _ hm, HNEG.out k m hlt hmo]
          have o3 := HR.out.frozenAt m
          have HST := Lib.hid (show (wr.setCell ⟨g, m, none⟩ (.int .i64 k)).ownsRow g 3 1 (.slice (some ⟨g, 0, none⟩) L.length L.length) L.length (nflat (posL L.length O (k + 1))) by rw [posL_set _ _ _ _ hm hmo, ← nflat_set]; exact (HR.out.stored m _).1)
          clear hmo hoc
          go_wp2_with fail
          go_roundw
          case rel => exact ⟨k + 1, by omega, by go_num, hB.setCell (show g ≤ (⟨g, m, none⟩ : Addr).block from Nat.le_refl _) _, HST, by first | omega | (simp; omega)⟩
          case measure => first | (simp [intOf]; done) | (simp [intOf]; omega)
        · obtain rfl : k = O.length := by omega
          have z0 := (hB.cell (p := ⟨w.heap.size, 0, none⟩) hw4).trans HZ0.out
          have z1 := (hB.cell (p := ⟨w.heap.size, 1, none⟩) hw4).trans HZ1.out
          have hws2 : g < wr.heap.size := Nat.lt_of_lt_of_le hw45 hws
          have HAT : Hid (∀ x, x < L.length → wr.cell? ⟨g, x, none⟩ = some (.int .i64 (posTo O L.length x))) := Lib.hid fun x hx => by
            rw [HR.out.cellAt x (by omega), nflat_at _ _ (by rw [posL_len]; exact hx), posL_at _ _ _ _ hx, HOL.out]
          have HIW := Lib.hid (HI6.out _ hB)
          clear hlt hk HR
          generalize wr = W9 at *
          go_wp2_with fail
          go_loopw [110] (fun i wr => ∃ k : Nat, k ≤ L.length ∧ i = .int .i64 k ∧ Below W9.heap.size W9 wr) (fun i _ => L.length - (intOf i).toNat)
          case atStart => exact ⟨0, Nat.zero_le _, rfl, Below.refl _ _⟩
          case round =>
            obtain ⟨k, hk, rfl, hC⟩ := hrel
            by_cases hlt : k < L.length
            · obtain ⟨b, off, rfl, hb, hc⟩ := HIW.out (by omega)
              obtain ⟨c0, c1, c2, c3, c4, c5, c6⟩ := hc k hlt
              have d0 := (hC.cell (p := ⟨b, off + k * 7, none⟩) (show b < W9.heap.size by omega)).trans c0
              have d1 := (hC.cell (p := ⟨b, off + k * 7 + 1, none⟩) (show b < W9.heap.size by omega)).trans c1
              have d2 := (hC.cell (p := ⟨b, off + k * 7 + 2, none⟩) (show b < W9.heap.size by omega)).trans c2
              have d3 := (hC.cell (p := ⟨b, off + k * 7 + 3, none⟩) (show b < W9.heap.size by omega)).trans c3
              have d4 := (hC.cell (p := ⟨b, off + k * 7 + 4, none⟩) (show b < W9.heap.size by omega)).trans c4
              have d5 := (hC.cell (p := ⟨b, off + k * 7 + 5, none⟩) (show b < W9.heap.size by omega)).trans c5
              have d6 := (hC.cell (p := ⟨b, off + k * 7 + 6, none⟩) (show b < W9.heap.size by omega)).trans c6
              clear c0 c1 c2 c3 c4 c5 c6 hc
              have hgr : g < wr.heap.size := Nat.lt_of_lt_of_le hws2 hC.size
              have y0 := (hC.cell (p := ⟨w.heap.size, 0, none⟩) (show w.heap.size < W9.heap.size by omega)).trans z0
              have y1 := (hC.cell (p := ⟨w.heap.size, 1, none⟩) (show w.heap.size < W9.heap.size by omega)).trans z1
              have hwr : w.heap.size < wr.heap.size := by omega
              have HIN : Hid (∀ o, Cues (wr.alloc o).heap.size (wr.alloc o) (some ⟨b, off, none⟩) L) := Lib.hid fun o => (HIW.out.grow hC).grow (below_new wr o)
              have HFI : Hid (cue_first L (fun r => decide (r.name = (cg L k).after)) = findI L (cg L k).after) := Lib.hid rfl
              by_cases hl : (cg L k).link = 1
              · have g1 : ((cg L k).link != 1) = false := by rw [hl]; rfl
                clear hl
                go_wp2_with (first
                  | (go_at_call 24; (with_reducible refine (cue_indexFunc (some ⟨b, off, none⟩) L _ _ _ _ (fun r => decide (r.name = (cg L k).after)) _ ent_after1 (by omega) (Nat.le_refl _) (HIN.out _) (asks_after1 wr.heap.size (cg L k).after _ _ (by simp) (by simp))).mono ?_); rintro e w6 ⟨rfl, hb6⟩; rw [HFI.out]; have y2 : w6.cell? ⟨wr.heap.size, 2, none⟩ = some (.int .i64 (cg L k).link) := (hb6.cell (p := ⟨wr.heap.size, 2, none⟩) (by simp)).trans (by simp); have hbr := mono_in _ hb6; have hW := hC.trans (hbr.mono hC.size); have hu0 := (hbr.cell (p := ⟨w.heap.size, 0, none⟩) hwr).trans y0; have hu1 := (hbr.cell (p := ⟨w.heap.size, 1, none⟩) hwr).trans y1; clear hb6)
                  | go_quiet (fail))
                go_roundw
                case rel => exact ⟨k + 1, by omega, by go_num, below_drewN hW _⟩
                case measure => first | (simp [intOf]; done) | (simp [intOf]; omega)
              · obtain ⟨f, hf, hfa, hpp⟩ := HBF.out k hlt hl
                have g1 : ((cg L k).link != 1) = true := bne_iff_ne.2 hl
                clear hl
                have HFA := Lib.hid hfa
                clear hfa
                have a0 := (hC.cell (p := ⟨g, f, none⟩) (show g < W9.heap.size by omega)).trans (HAT.out f hf)
                have a1 := (hC.cell (p := ⟨g, k, none⟩) (show g < W9.heap.size by omega)).trans (HAT.out k hlt)
                generalize posTo O L.length f = pf at *
                generalize posTo O L.length k = pk at *
                go_wp2_with (first
                  | (go_at_call 24; (with_reducible refine (cue_indexFunc (some ⟨b, off, none⟩) L _ _ _ _ (fun r => decide (r.name = (cg L k).after)) _ ent_after1 (by omega) (Nat.le_refl _) (HIN.out _) (asks_after1 wr.heap.size (cg L k).after _ _ (by simp) (by simp))).mono ?_); rintro e w6 ⟨rfl, hb6⟩; rw [HFI.out, HFA.out]; have y2 : w6.cell? ⟨wr.heap.size, 2, none⟩ = some (.int .i64 (cg L k).link) := (hb6.cell (p := ⟨wr.heap.size, 2, none⟩) (by simp)).trans (by simp); have hbr := mono_in _ hb6; have hW := hC.trans (hbr.mono hC.size); have hu0 := (hbr.cell (p := ⟨w.heap.size, 0, none⟩) hwr).trans y0; have hu1 := (hbr.cell (p := ⟨w.heap.size, 1, none⟩) hwr).trans y1; have b0 := (hbr.cell (p := ⟨g, f, none⟩) hgr).trans a0; have b1 := (hbr.cell (p := ⟨g, k, none⟩) hgr).trans a1; clear hb6)
                  | go_quiet (fail))
                go_roundw
                case rel => exact ⟨k + 1, by omega, by go_num, below_drewN hW _⟩
                case measure => first | (simp [intOf]; done) | (simp [intOf]; omega)
            · obtain rfl : k = L.length := by omega
              go_wp2_with fail
              go_ret
              exact ⟨rfl, HFIN.out _ (hB.trans (hC.mono (by omega)))⟩
end Go.Proofs.Ytapjhjpibefooaa
