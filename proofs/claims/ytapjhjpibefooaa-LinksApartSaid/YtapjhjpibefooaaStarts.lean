/-
  THE WALK of Starts (package links).
-/
import Derived.Test.YtapjhjpibefooaaStartsP
import Derived.IntWalk
import Derived.RegionTactic
namespace Go.Proofs.Ytapjhjpibefooaa
open Go.RowKit Go.Shelf

theorem made_zero (L : List CueR) (G : List Int) (n : Nat) (h : n = L.length) : (madeCells (Value.int .i64 0).cells (n * 1)).toList = nflat (pass1 L G 0) := by
  rw [pass1_zero, Nat.mul_one, ← h]
  apply List.ext_getElem?
  intro j
  by_cases hj : j < n
  · simp [madeCells, Value.cells, hj, Nat.mod_one]
  · simp [madeCells, Value.cells, hj]

set_option maxRecDepth 100000 in
set_option maxHeartbeats 16000000 in
theorem starts_any (ca pa na ga : Option Addr) (L : List CueR) (A : List (ByteArray × ByteArray)) (N G : List Int) (cc pc nc gc : Nat) (w : World) (hlen : L.length ≤ 1000) (hlN : N.length ≤ 1000) (hlG : G.length ≤ 1000) (hI : Cues w.heap.size w ca L) (hP : Pairs w.heap.size w pa A) (hN : Nums w.heap.size w na N) (hG : Nums w.heap.size w ga G) :
    Calls Try.prog 12 #[.agg #[.slice ca L.length cc, .slice pa A.length pc], .slice na N.length nc, .slice ga G.length gc] w fun e w' => Hid (∃ v, e = .returned (.tuple #[v, .int .i64 (startsP L A N G).2]) ∧ w'.ownsRow w.heap.size 3 1 v (startsP L A N G).1.length (nflat (startsP L A N G).1) ∧ Below w.heap.size w w') := by
  have hb0 : Below w.heap.size w (w.alloc (.cells #[.slice ca L.length cc, .slice pa A.length pc] 25)) := below_new w _
  have HI := Lib.hid (hI.grow hb0)
  have HP := Lib.hid (hP.grow hb0)
  have HN := Lib.hid (hN.grow hb0)
  have HG := Lib.hid (hG.grow hb0)
  have HX : Hid (∀ wr, Below (w.alloc (.cells #[.slice ca L.length cc, .slice pa A.length pc] 25)).heap.size (w.alloc (.cells #[.slice ca L.length cc, .slice pa A.length pc] 25)) wr → Below w.heap.size w wr ∧ wr.cell? ⟨w.heap.size, 0, none⟩ = some (.slice ca L.length cc) ∧ wr.cell? ⟨w.heap.size, 1, none⟩ = some (.slice pa A.length pc)) := Lib.hid fun wr h => ⟨mono_in _ h, box2 h⟩
  have hz0 : w.heap.size ≤ (w.alloc (.cells #[.slice ca L.length cc, .slice pa A.length pc] 25)).heap.size := hb0.size
  clear hb0 hI hP hN hG
  obtain ⟨i0, hi, hy1, hy2, hy3⟩ := info_parts num_info
  cases hlk : linkedB L A
  · have HLK := Lib.hid hlk
    have HP0 : Hid (startsP L A N G = ([], 1)) := Lib.hid (by unfold startsP; rw [hlk]; rfl)
    clear hlk
    go_enter Try.func12, Try.ntmps12
    go_wp2_with (go_at_call 48; (with_reducible refine (linked_any _ _ L A _ _ _ (by omega) HI.out HP.out).mono ?_); rintro e w1 ⟨rfl, hb1⟩; rw [HLK.out]; obtain ⟨hB1, z0, z1⟩ := HX.out _ hb1)
    go_ret2
    rw [HP0.out]
    exact Lib.hid ⟨_, rfl, World.ownsRow_nil _ _ _ _, hB1⟩
  · have HLK := Lib.hid hlk
    obtain ⟨hl60, hlA⟩ := linked_len hlk
    have HC1 : Hid (startsP L A N G = if N.length = L.length ∧ G.length = manTo L L.length then (if N.any wrongT || G.any wrongT then ([], 2) else if (ordP (hangs L)).length < L.length then ([], 23) else (startsV L N G, 0)) else ([], 3)) := Lib.hid (by unfold startsP; rw [hlk, if_pos rfl])
    clear hlk
    go_enter Try.func12, Try.ntmps12
    go_wp2_with (go_at_call 48; (with_reducible refine (linked_any _ _ L A _ _ _ (by omega) HI.out HP.out).mono ?_); rintro e w1 ⟨rfl, hb1⟩; rw [HLK.out]; obtain ⟨hB1, z0, z1⟩ := HX.out _ hb1)
    generalize (w.alloc (.cells #[.slice ca L.length cc, .slice pa A.length pc] 25)) = W0 at *
    go_loopw [8, 27] (fun m i wr => ∃ k : Nat, k ≤ L.length ∧ i = .int .i64 k ∧ m = .int .i64 (manTo L k : Nat) ∧ Below W0.heap.size W0 wr) (fun _ i _ => L.length - (intOf i).toNat)
    case atStart => exact ⟨0, Nat.zero_le _, rfl, rfl, hb1⟩
    case round =>
      clear hb1 hB1 z0 z1
      obtain ⟨k, hk, rfl, rfl, hB⟩ := hrel
      obtain ⟨hBw, z0, z1⟩ := HX.out _ hB
      have hbz : w.heap.size < wr.heap.size := World.block_lt_of_cell? _ _ z0
      have hbs := hB.size
      have hmle := manTo_le L k
      by_cases hlt : k < L.length
      · obtain ⟨b, off, rfl, hbl, hc⟩ := HI.out (by omega)
        obtain ⟨c0, c1, c2, c3, c4, c5, c6⟩ := hc k hlt
        have d0 := (hB.cell (p := ⟨b, off + k * 7, none⟩) hbl).trans c0
        have d1 := (hB.cell (p := ⟨b, off + k * 7 + 1, none⟩) hbl).trans c1
        have d2 := (hB.cell (p := ⟨b, off + k * 7 + 2, none⟩) hbl).trans c2
        have d3 := (hB.cell (p := ⟨b, off + k * 7 + 3, none⟩) hbl).trans c3
        have d4 := (hB.cell (p := ⟨b, off + k * 7 + 4, none⟩) hbl).trans c4
        have d5 := (hB.cell (p := ⟨b, off + k * 7 + 5, none⟩) hbl).trans c5
        have d6 := (hB.cell (p := ⟨b, off + k * 7 + 6, none⟩) hbl).trans c6
        clear hc c0 c1 c2 c3 c4 c5 c6
        by_cases l1 : (cg L k).link = 1
        · have m1 : ((cg L k).link == 1) = true := beq_iff_eq.2 l1
          have HM : Hid (manTo L (k + 1) = manTo L k + 1) := Lib.hid (by simp only [manTo]; rw [if_pos l1])
          clear l1
          go_wp2_with fail
          go_roundw
          case rel => exact ⟨k + 1, by omega, by go_num, by rw [HM.out]; go_num, hB.alloc hbs _⟩
          case measure => simp [intOf]; omega
        · have m1 : ((cg L k).link == 1) = false := beq_eq_false_iff_ne.2 l1
          have HM : Hid (manTo L (k + 1) = manTo L k) := Lib.hid (by simp only [manTo]; rw [if_neg l1]; rfl)
          clear l1
          go_wp2_with fail
          go_roundw
          case rel => exact ⟨k + 1, by omega, by go_num, by rw [HM.out], hB.alloc hbs _⟩
          case measure => simp [intOf]; omega
      · obtain rfl : k = L.length := by omega
        clear hlt hk
        by_cases hn1 : N.length = L.length
        · have m1 : ((N.length : Int) != (L.length : Int)) = false := by rw [bne_eq_false_iff_eq]; omega
          by_cases hg1 : G.length = manTo L L.length
          · have m2 : ((G.length : Int) != ((manTo L L.length : Nat) : Int)) = false := by rw [bne_eq_false_iff_eq]; omega
            have HC2 := Lib.hid HC1.out
            rw [if_pos ⟨hn1, hg1⟩] at HC2
            have HNL := Lib.hid hn1
            have HGL := Lib.hid hg1
            clear hn1 hg1
            cases hwn : N.any wrongT
            · have HWN := any_num N wrongT _ hwn
              have HWN' := Lib.hid hwn
              cases hwg : G.any wrongT
              · have HWG := any_num G wrongT _ hwg
                have HWG' := Lib.hid hwg
                have HC3 := Lib.hid HC2.out
                rw [hwn, hwg, Bool.or_self, if_neg (by decide)] at HC3
                have hole := ord_le L
                have HORD : Hid (∀ k, k < (ordP (hangs L)).length → ∃ m : Nat, m < L.length ∧ ig (ordP (hangs L)) k = m) := Lib.hid fun k hk => ord_in L k hk
                have HSM1 : Hid (∀ k, Small (pass1 L G k) 4294967296) := Lib.hid fun k => pass1_small HLK.out HWG'.out HGL.out k
                have HSM2 : Hid (∀ k, k ≤ (ordP (hangs L)).length → Small (pass2 L N G k) (4294967296 * (k + 1))) := Lib.hid fun k hk => pass2_small HLK.out HWG'.out HGL.out HWN'.out HNL.out k hk
                have HP2S : Hid (∀ k, k < (ordP (hangs L)).length → pass2 L N G (k + 1) = stepS L N (pass2 L N G k) (ig (ordP (hangs L)) k)) := Lib.hid fun k hk => pass2_succ L N G k hk
                have HSV : Hid (startsV L N G = pass2 L N G (ordP (hangs L)).length) := Lib.hid rfl
                obtain ⟨O, HO⟩ : ∃ O, Hid (ordP (hangs L) = O) := ⟨_, Lib.hid rfl⟩
                rw [HO.out] at HC3 hole HORD HSM2 HP2S HSV
                clear hwn hwg
                by_cases ho : O.length < L.length
                · have HP0 : Hid (startsP L A N G = ([], 23)) := Lib.hid (by rw [HC3.out, if_pos ho])
                  go_wp2_with (first
                    | (go_at_call 51; (with_reducible refine (num_containsFunc na N _ _ _ _ wrongT _ ent_wrongT (by omega) (Nat.le_refl _) (HN.out.grow hB) (asks_wrongT _ _)).mono ?_); rintro e w2 ⟨rfl, hb2⟩; rw [HWN.out]; have hB2 := hB.trans (hb2.mono hB.size); obtain ⟨hB2', y0, y1⟩ := HX.out _ hB2)
                    | (go_at_call 51; (with_reducible refine (num_containsFunc ga G _ _ _ _ wrongT _ ent_wrongT (by omega) (Nat.le_refl _) (HG.out.grow hB2) (asks_wrongT _ _)).mono ?_); rintro e w3 ⟨rfl, hb3⟩; rw [HWG.out]; have hB3 := hB2.trans (hb3.mono hB2.size); obtain ⟨hB3', x0, x1⟩ := HX.out _ hB3)
                    | (go_at_call 52; (with_reducible refine (order_any _ _ L A _ _ _ (by omega) (HI.out.grow hB3)).mono ?_); rintro e w4 hx; obtain ⟨v4, rfl, hr4, hb4⟩ := hx.out; rw [HO.out] at hr4; have hB4 := hB3.trans (hb4.mono hB3.size); obtain ⟨hB4', t0, t1⟩ := HX.out _ hB4; obtain ⟨oa, oc, rfl, _, _, _, hno⟩ := num_of_row hr4; have HNO := Lib.hid hno; clear hx hr4 hno))
                  go_ret2
                  rw [HP0.out]
                  exact Lib.hid ⟨_, rfl, World.ownsRow_nil _ _ _ _, hB4'⟩
                · have HC4 : Hid (startsP L A N G = (startsV L N G, 0)) := Lib.hid (by rw [HC3.out, if_neg ho])
                  by_cases h0 : O.length = 0
                  · have g0 : ((O.length : Int) == 0) = true := beq_iff_eq.2 (by omega)
                    have HP0 : Hid (startsP L A N G = ([], 0)) := Lib.hid (by rw [HC4.out, HSV.out, List.eq_nil_of_length_eq_zero (show (pass2 L N G O.length).length = 0 by rw [pass2_len]; omega)])
                    clear h0
                    go_wp2_with (first
                      | (go_at_call 51; (with_reducible refine (num_containsFunc na N _ _ _ _ wrongT _ ent_wrongT (by omega) (Nat.le_refl _) (HN.out.grow hB) (asks_wrongT _ _)).mono ?_); rintro e w2 ⟨rfl, hb2⟩; rw [HWN.out]; have hB2 := hB.trans (hb2.mono hB.size); obtain ⟨hB2', y0, y1⟩ := HX.out _ hB2)
                      | (go_at_call 51; (with_reducible refine (num_containsFunc ga G _ _ _ _ wrongT _ ent_wrongT (by omega) (Nat.le_refl _) (HG.out.grow hB2) (asks_wrongT _ _)).mono ?_); rintro e w3 ⟨rfl, hb3⟩; rw [HWG.out]; have hB3 := hB2.trans (hb3.mono hB2.size); obtain ⟨hB3', x0, x1⟩ := HX.out _ hB3)
                      | (go_at_call 52; (with_reducible refine (order_any _ _ L A _ _ _ (by omega) (HI.out.grow hB3)).mono ?_); rintro e w4 hx; obtain ⟨v4, rfl, hr4, hb4⟩ := hx.out; rw [HO.out] at hr4; have hB4 := hB3.trans (hb4.mono hB3.size); obtain ⟨hB4', t0, t1⟩ := HX.out _ hB4; obtain ⟨oa, oc, rfl, _, _, _, hno⟩ := num_of_row hr4; have HNO := Lib.hid hno; clear hx hr4 hno))
                    go_ret2
                    rw [HP0.out]
                    exact Lib.hid ⟨_, rfl, World.ownsRow_nil _ _ _ _, hB4'⟩
                  · have g0 : ((O.length : Int) == 0) = false := beq_eq_false_iff_ne.2 (by omega)
                    have HOL : Hid (O.length = L.length) := Lib.hid (by omega)
                    have hpos : 0 < O.length := by omega
                    clear h0
                    go_wp2_with (first
                      | (go_at_call 51; (with_reducible refine (num_containsFunc na N _ _ _ _ wrongT _ ent_wrongT (by omega) (Nat.le_refl _) (HN.out.grow hB) (asks_wrongT _ _)).mono ?_); rintro e w2 ⟨rfl, hb2⟩; rw [HWN.out]; have hB2 := hB.trans (hb2.mono hB.size); obtain ⟨hB2', y0, y1⟩ := HX.out _ hB2)
                      | (go_at_call 51; (with_reducible refine (num_containsFunc ga G _ _ _ _ wrongT _ ent_wrongT (by omega) (Nat.le_refl _) (HG.out.grow hB2) (asks_wrongT _ _)).mono ?_); rintro e w3 ⟨rfl, hb3⟩; rw [HWG.out]; have hB3 := hB2.trans (hb3.mono hB2.size); obtain ⟨hB3', x0, x1⟩ := HX.out _ hB3)
                      | (go_at_call 52; (with_reducible refine (order_any _ _ L A _ _ _ (by omega) (HI.out.grow hB3)).mono ?_); rintro e w4 hx; obtain ⟨v4, rfl, hr4, hb4⟩ := hx.out; rw [HO.out] at hr4; have hB4 := hB3.trans (hb4.mono hB3.size); obtain ⟨hB4', t0, t1⟩ := HX.out _ hB4; obtain ⟨oa, oc, rfl, _, _, _, hno⟩ := num_of_row hr4; have HNO := Lib.hid hno; clear hx hr4 hno)
                      | (at_make; refine wpList_make_full _ rfl _ _ 26 rfl w4.heap.size 3 i0 (.int .i64 0) 1 Try.underlying26 hi hy1 hy2 _ _ _ _ O.length rfl rfl rfl rfl (by rw [hy3]; omega) (by unfold maxLen; omega) (Nat.le_refl _) ?_; intro w5 hown5 hg5; have HD5 := Lib.hid (show w5.ownsRow w4.heap.size 3 1 (.slice (some ⟨w4.heap.size, 0, none⟩) O.length O.length) O.length (nflat (pass1 L G 0)) by rw [← made_zero L G O.length HOL.out]; exact hown5); have f0 := hg5.cell t0 (by simp); have f1 := hg5.cell t1 (by simp); clear hown5))
                    have hB45 : Below w4.heap.size w4 w5 := (Below.refl _ _).grown hg5 (Nat.le_refl _) (fun k e => by cases e)
                    have hs4 := hB4.size
                    have hw45 : w4.heap.size < w5.heap.size := (HD5.out.lt _ rfl).2
                    have HI5 := Lib.hid ((HI.out.grow hB4).below hB45)
                    have HG5 := Lib.hid ((HG.out.grow hB4).below hB45)
                    have HN5 := Lib.hid ((HN.out.grow hB4).below hB45)
                    have HO5 := Lib.hid (HNO.out.below hB45)
                    have hw4 : w.heap.size < w4.heap.size := World.block_lt_of_cell? _ _ t0
                    have HZ0 := Lib.hid ((hB45.cell (p := ⟨w.heap.size, 0, none⟩) hw4).trans t0)
                    have HZ1 := Lib.hid ((hB45.cell (p := ⟨w.heap.size, 1, none⟩) hw4).trans t1)
                    have HFIN : Hid (∀ wr, Below w4.heap.size w5 wr → Below w.heap.size w wr) := Lib.hid fun wr h => (HX.out _ (hB4.trans ((hB45.trans h).mono hs4))).1
                    clear hB hB2 hB3 hb2 hb3 hb4 hB2' hB3' hB4' y0 y1 x0 x1 t0 t1 f0 f1 hg5 HNO HI HG HN z0 z1 hBw
                    go_loopw [14, 76] (fun nx i wr => ∃ k : Nat, k ≤ L.length ∧ i = .int .i64 k ∧ nx = .int .i64 (manTo L k : Nat) ∧ Below w4.heap.size w5 wr ∧ Hid (wr.ownsRow w4.heap.size 3 1 (.slice (some ⟨w4.heap.size, 0, none⟩) O.length O.length) O.length (nflat (pass1 L G k))) ∧ w5.heap.size ≤ wr.heap.size) (fun _ i _ => L.length - (intOf i).toNat)
                    case atStart => exact ⟨0, Nat.zero_le _, rfl, rfl, Below.refl _ _, HD5, Nat.le_refl _⟩
                    case round =>
                      clear HD5 hbz hbs hmle
                      obtain ⟨k, hk, rfl, rfl, hB, HR, hws⟩ := hrel
                      have z0 := (hB.cell (p := ⟨w.heap.size, 0, none⟩) hw4).trans HZ0.out
                      have z1 := (hB.cell (p := ⟨w.heap.size, 1, none⟩) hw4).trans HZ1.out
                      have hbz : w.heap.size < wr.heap.size := by omega
                      have hmle := manTo_le L k
                      by_cases hlt : k < L.length
                      · obtain ⟨b, off, rfl, hbl, hc⟩ := HI5.out (by omega)
                        obtain ⟨c0, c1, c2, c3, c4, c5, c6⟩ := hc k hlt
                        have d0 := (hB.cell (p := ⟨b, off + k * 7, none⟩) hbl).trans c0
                        have d1 := (hB.cell (p := ⟨b, off + k * 7 + 1, none⟩) hbl).trans c1
                        have d2 := (hB.cell (p := ⟨b, off + k * 7 + 2, none⟩) hbl).trans c2
                        have d3 := (hB.cell (p := ⟨b, off + k * 7 + 3, none⟩) hbl).trans c3
                        have d4 := (hB.cell (p := ⟨b, off + k * 7 + 4, none⟩) hbl).trans c4
                        have d5 := (hB.cell (p := ⟨b, off + k * 7 + 5, none⟩) hbl).trans c5
                        have d6 := (hB.cell (p := ⟨b, off + k * 7 + 6, none⟩) hbl).trans c6
                        clear hc c0 c1 c2 c3 c4 c5 c6
                        have hkO : k < O.length := by have := HOL.out; omega
                        by_cases l1 : (cg L k).link = 1
                        · have m1 : ((cg L k).link == 1) = true := beq_iff_eq.2 l1
                          have HM : Hid (manTo L (k + 1) = manTo L k + 1) := Lib.hid (by simp only [manTo]; rw [if_pos l1])
                          have hmg : manTo L k < G.length := by rw [HGL.out]; exact manTo_lt L k _ hlt l1
                          obtain ⟨gb, go, rfl, hgl, hgc⟩ := HG5.out (by omega)
                          have g1 := (hB.cell (p := ⟨gb, go + manTo L k, none⟩) hgl).trans (hgc _ hmg)
                          obtain ⟨q1, q2⟩ := wrongT_no HWG'.out _ hmg
                          obtain ⟨q3, q4⟩ := (linked_cue HLK.out k hlt).2.2.1
                          have HPP := Lib.hid (pass1_put L G k hlt l1)
                          have hgw : gb < wr.heap.size := by omega
                          have how : w4.heap.size < wr.heap.size := by omega
                          have o1 : wr.cell? ⟨w4.heap.size, k, none⟩ = some (.int .i64 (ig (pass1 L G k) k)) := by rw [HR.out.cellAt k (by omega), nflat_at _ _ (by rw [pass1_len]; exact hlt)]
                          have o2 := HR.out.frozenAt k
                          clear hgc l1
                          go_wp2_with fail
                          have s1 : IntKind.i64.wrap (ig G (manTo L k) + (cg L k).delay) = ig G (manTo L k) + (cg L k).delay := IntWalk.i64_in _ (by omega)
                          go_region
                          go_wp2_with fail
                          have HST := Lib.hid (show (wr.setCell ⟨w4.heap.size, k, none⟩ (.int .i64 (ig G (manTo L k) + (cg L k).delay))).ownsRow w4.heap.size 3 1 (.slice (some ⟨w4.heap.size, 0, none⟩) O.length O.length) O.length (nflat (pass1 L G (k + 1))) by rw [HPP.out, ← nflat_set]; exact (HR.out.stored k _).1)
                          go_roundw
                          case rel => exact ⟨k + 1, by omega, by go_num, by rw [HM.out]; go_num, ((hB.setCell (show w4.heap.size ≤ (⟨w4.heap.size, k, none⟩ : Addr).block from Nat.le_refl _) _).alloc (by simp; omega) _).drew, Lib.hid (HST.out.alloc _).drew, by simp; omega⟩
                          case measure => simp [intOf]; omega
                        · have m1 : ((cg L k).link == 1) = false := beq_eq_false_iff_ne.2 l1
                          have HM : Hid (manTo L (k + 1) = manTo L k) := Lib.hid (by simp only [manTo]; rw [if_neg l1]; rfl)
                          have HPP := Lib.hid (pass1_skip L G k l1)
                          clear l1
                          go_wp2_with fail
                          go_roundw
                          case rel => exact ⟨k + 1, by omega, by go_num, by rw [HM.out], hB.alloc (by omega) _, Lib.hid (by rw [HPP.out]; exact HR.out.alloc _), by simp; omega⟩
                          case measure => simp [intOf]; omega
                      · obtain rfl : k = L.length := by omega
                        clear hlt hk hmle
                        go_wp2_with fail
                        have HR0 : Hid (wr.ownsRow w4.heap.size 3 1 (.slice (some ⟨w4.heap.size, 0, none⟩) O.length O.length) O.length (nflat (pass2 L N G 0))) := Lib.hid HR.out
                        go_loopw [99] (fun i wr => ∃ k : Nat, k ≤ O.length ∧ i = .int .i64 k ∧ Below w4.heap.size w5 wr ∧ Hid (wr.ownsRow w4.heap.size 3 1 (.slice (some ⟨w4.heap.size, 0, none⟩) O.length O.length) O.length (nflat (pass2 L N G k))) ∧ w5.heap.size ≤ wr.heap.size) (fun i _ => O.length - (intOf i).toNat)
                        case atStart => exact ⟨0, Nat.zero_le _, rfl, hB, HR0, hws⟩
                        case round =>
                          clear HR0 HR hB hws z0 z1 hbz
                          obtain ⟨k, hk, rfl, hB, HR, hws⟩ := hrel
                          have z0 := (hB.cell (p := ⟨w.heap.size, 0, none⟩) hw4).trans HZ0.out
                          have z1 := (hB.cell (p := ⟨w.heap.size, 1, none⟩) hw4).trans HZ1.out
                          have hbz : w.heap.size < wr.heap.size := by omega
                          by_cases hlt : k < O.length
                          · obtain ⟨ob, oo, rfl, hol, hoc⟩ := HO5.out (by omega)
                            obtain ⟨m, hm, hmo⟩ := HORD.out k hlt
                            have o0 := (hB.cell (p := ⟨ob, oo + k, none⟩) hol).trans (hoc k hlt)
                            rw [hmo] at o0
                            have HPS := Lib.hid (HP2S.out k hlt)
                            rw [hmo] at HPS
                            obtain ⟨b, off, rfl, hbl, hc⟩ := HI5.out (by omega)
                            obtain ⟨c0, c1, c2, c3, c4, c5, c6⟩ := hc m hm
                            have d0 := (hB.cell (p := ⟨b, off + m * 7, none⟩) hbl).trans c0
                            have d1 := (hB.cell (p := ⟨b, off + m * 7 + 1, none⟩) hbl).trans c1
                            have d2 := (hB.cell (p := ⟨b, off + m * 7 + 2, none⟩) hbl).trans c2
                            have d3 := (hB.cell (p := ⟨b, off + m * 7 + 3, none⟩) hbl).trans c3
                            have d4 := (hB.cell (p := ⟨b, off + m * 7 + 4, none⟩) hbl).trans c4
                            have d5 := (hB.cell (p := ⟨b, off + m * 7 + 5, none⟩) hbl).trans c5
                            have d6 := (hB.cell (p := ⟨b, off + m * 7 + 6, none⟩) hbl).trans c6
                            have hmO : m < O.length := by rw [HOL.out]; exact hm
                            have HSM := Lib.hid (HSM2.out k (by omega))
                            have how : w4.heap.size < wr.heap.size := by omega
                            clear hc c0 c1 c2 c3 c4 c5 c6 hoc hmo
                            rcases (linked_cue HLK.out m hm).2.2.2 with ⟨l1, _⟩ | ⟨l23, l1, f, hf, hfa, hfm⟩
                            · have m1 : ((cg L m).link == 1) = true := beq_iff_eq.2 l1
                              have HSS : Hid (pass2 L N G (k + 1) = pass2 L N G k) := Lib.hid (by rw [HPS.out]; unfold stepS; rw [Int.toNat_natCast, if_pos l1])
                              clear l1
                              go_wp2_with fail
                              go_roundw
                              case rel => exact ⟨k + 1, by omega, by go_num, hB.alloc (by omega) _, Lib.hid (by rw [HSS.out]; exact HR.out.alloc _), by simp; omega⟩
                              case measure => simp [intOf]; omega
                            · have m1 : ((cg L m).link == 1) = false := beq_eq_false_iff_ne.2 l1
                              have HFA := Lib.hid hfa
                              have hfO : f < O.length := by rw [HOL.out]; exact hf
                              have hfN : f < N.length := by rw [HNL.out]; exact hf
                              obtain ⟨q1, q2⟩ := (linked_cue HLK.out m hm).2.2.1
                              obtain ⟨q3, q4⟩ := HSM.out f (by rw [pass2_len]; exact hf)
                              obtain ⟨q5, q6⟩ := wrongT_no HWN'.out f hfN
                              obtain ⟨nb, no, rfl, hnl, hnc⟩ := HN5.out (by omega)
                              have hn5 := hnc f hfN
                              have HWA := Lib.hid (below_new wr (.cells #[.string (cg L m).name, .string (cg L m).after, .int .i64 (cg L m).link, .int .i64 (cg L m).delay, .slice (cg L m).ma (cg L m).ml (cg L m).mc, .int .i64 (cg L m).crew, .int .i64 (cg L m).power] 56))
                              have HSTEP : Hid (pass2 L N G (k + 1) = (pass2 L N G k).set m (ig (pass2 L N G k) f + (cg L m).delay + if (cg L m).link = 2 then ig N f else 0)) := Lib.hid (by rw [HPS.out]; unfold stepS; rw [Int.toNat_natCast, if_neg l1, hfa, Int.toNat_natCast])
                              have HHN := Lib.hid hn5
                              have HFM := Lib.hid hfm
                              clear hnc hn5 hfa hfm
                              have hl6 : (pass2 L N G k).length = O.length := by rw [pass2_len, HOL.out]
                              have HL6 := Lib.hid hl6
                              clear hl6
                              generalize pass2 L N G k = s at *
                              rcases l23 with l2 | l3
                              · have m2 : ((cg L m).link == 2) = true := beq_iff_eq.2 l2
                                rw [if_pos l2] at HSTEP
                                clear l1 l2
                                go_wp2_with (go_at_call 53; (with_reducible refine (find_any _ L _ _ (cg L m).after _ (by omega) ((HI5.out.below hB).mono (by omega) |>.grow HWA.out)).mono ?_); rintro e w6 ⟨rfl, hb6⟩; rw [HFA.out]; have hB6 := HWA.out.trans (hb6.mono HWA.out.size); have x2 := (hb6.cell (p := ⟨wr.heap.size, 2, none⟩) (by simp)).trans (show _ = some (.int .i64 (cg L m).link) by simp); have x3 := (hb6.cell (p := ⟨wr.heap.size, 3, none⟩) (by simp)).trans (show _ = some (.int .i64 (cg L m).delay) by simp))
                                have hs6 := hB6.size
                                have hs6' : wr.heap.size < w6.heap.size := World.block_lt_of_cell? _ _ x2
                                have HR6 := Lib.hid (ownsRow_below HR.out hB6)
                                have s1 : IntKind.i64.wrap (ig s f + (cg L m).delay) = ig s f + (cg L m).delay := IntWalk.i64_in _ (by omega)
                                have o1 : w6.cell? ⟨w4.heap.size, f, none⟩ = some (.int .i64 (ig s f)) := by rw [HR6.out.cellAt f (by omega), nflat_at _ _ (by rw [HL6.out]; exact hfO)]
                                have o2 : w6.cell? ⟨w4.heap.size, m, none⟩ = some (.int .i64 (ig s m)) := by rw [HR6.out.cellAt m (by omega), nflat_at _ _ (by rw [HL6.out]; exact hmO)]
                                have o3 := HR6.out.frozenAt m
                                have how6 : w4.heap.size < w6.heap.size := by omega
                                go_region
                                have HR7 := Lib.hid (show ((w6.setCell ⟨w4.heap.size, m, none⟩ (.int .i64 (ig s f + (cg L m).delay))).drew).ownsRow w4.heap.size 3 1 (.slice (some ⟨w4.heap.size, 0, none⟩) O.length O.length) O.length (nflat (s.set m (ig s f + (cg L m).delay))) by rw [← nflat_set]; exact (HR6.out.stored m _).1.drew)
                                have hB7 : Below w4.heap.size w5 (w6.setCell ⟨w4.heap.size, m, none⟩ (.int .i64 (ig s f + (cg L m).delay))).drew := ((hB.trans (hB6.mono (by omega))).setCell (show w4.heap.size ≤ (⟨w4.heap.size, m, none⟩ : Addr).block from Nat.le_refl _) _).drew
                                have hws7 : w5.heap.size ≤ (w6.setCell ⟨w4.heap.size, m, none⟩ (.int .i64 (ig s f + (cg L m).delay))).drew.heap.size := by simp; omega
                                have x27 : (w6.setCell ⟨w4.heap.size, m, none⟩ (.int .i64 (ig s f + (cg L m).delay))).drew.cell? ⟨wr.heap.size, 2, none⟩ = some (.int .i64 (cg L m).link) := (World.cell?_setCell_other _ _ _ _ (by first | (simp; done) | (simp; omega))).trans x2
                                clear o1 o2 o3 x2 x3 s1
                                generalize (w6.setCell ⟨w4.heap.size, m, none⟩ (.int .i64 (ig s f + (cg L m).delay))).drew = w7 at *
                                go_wp2_with fail
                                have s2 : IntKind.i64.wrap (ig s f + (cg L m).delay + ig N f) = ig s f + (cg L m).delay + ig N f := IntWalk.i64_in _ (by omega)
                                have n7 := (hB7.cell (p := ⟨nb, no + f, none⟩) hnl).trans HHN.out
                                have n8 : w7.cell? ⟨w4.heap.size, m, none⟩ = some (.int .i64 (ig s f + (cg L m).delay)) := by rw [HR7.out.cellAt m (by omega), nflat_at _ _ (by rw [List.length_set, HL6.out]; exact hmO), ig_set _ _ _ _ (by rw [HL6.out]; exact hmO), if_pos rfl]
                                have n9 := HR7.out.frozenAt m
                                go_region
                                go_wp2_with fail
                                have HST := Lib.hid (show (w7.setCell ⟨w4.heap.size, m, none⟩ (.int .i64 (ig s f + (cg L m).delay + ig N f))).ownsRow w4.heap.size 3 1 (.slice (some ⟨w4.heap.size, 0, none⟩) O.length O.length) O.length (nflat (pass2 L N G (k + 1))) by rw [HSTEP.out, ← List.set_set (a := ig s f + (cg L m).delay), ← nflat_set]; exact (HR7.out.stored m _).1)
                                go_roundw
                                case rel => exact ⟨k + 1, by omega, by go_num, (hB7.setCell (show w4.heap.size ≤ (⟨w4.heap.size, m, none⟩ : Addr).block from Nat.le_refl _) _).drew, Lib.hid HST.out.drew, by simp; omega⟩
                                case measure => simp [intOf]; omega
                              · have m2 : ((cg L m).link == 2) = false := beq_eq_false_iff_ne.2 (by omega)
                                rw [if_neg (by omega), Int.add_zero] at HSTEP
                                clear l1 l3
                                go_wp2_with (go_at_call 53; (with_reducible refine (find_any _ L _ _ (cg L m).after _ (by omega) ((HI5.out.below hB).mono (by omega) |>.grow HWA.out)).mono ?_); rintro e w6 ⟨rfl, hb6⟩; rw [HFA.out]; have hB6 := HWA.out.trans (hb6.mono HWA.out.size); have x2 := (hb6.cell (p := ⟨wr.heap.size, 2, none⟩) (by simp)).trans (show _ = some (.int .i64 (cg L m).link) by simp); have x3 := (hb6.cell (p := ⟨wr.heap.size, 3, none⟩) (by simp)).trans (show _ = some (.int .i64 (cg L m).delay) by simp))
                                have hs6 := hB6.size
                                have hs6' : wr.heap.size < w6.heap.size := World.block_lt_of_cell? _ _ x2
                                have HR6 := Lib.hid (ownsRow_below HR.out hB6)
                                have s1 : IntKind.i64.wrap (ig s f + (cg L m).delay) = ig s f + (cg L m).delay := IntWalk.i64_in _ (by omega)
                                have o1 : w6.cell? ⟨w4.heap.size, f, none⟩ = some (.int .i64 (ig s f)) := by rw [HR6.out.cellAt f (by omega), nflat_at _ _ (by rw [HL6.out]; exact hfO)]
                                have o2 : w6.cell? ⟨w4.heap.size, m, none⟩ = some (.int .i64 (ig s m)) := by rw [HR6.out.cellAt m (by omega), nflat_at _ _ (by rw [HL6.out]; exact hmO)]
                                have o3 := HR6.out.frozenAt m
                                have how6 : w4.heap.size < w6.heap.size := by omega
                                go_region
                                have HR7 := Lib.hid (show ((w6.setCell ⟨w4.heap.size, m, none⟩ (.int .i64 (ig s f + (cg L m).delay))).drew).ownsRow w4.heap.size 3 1 (.slice (some ⟨w4.heap.size, 0, none⟩) O.length O.length) O.length (nflat (s.set m (ig s f + (cg L m).delay))) by rw [← nflat_set]; exact (HR6.out.stored m _).1.drew)
                                have hB7 : Below w4.heap.size w5 (w6.setCell ⟨w4.heap.size, m, none⟩ (.int .i64 (ig s f + (cg L m).delay))).drew := ((hB.trans (hB6.mono (by omega))).setCell (show w4.heap.size ≤ (⟨w4.heap.size, m, none⟩ : Addr).block from Nat.le_refl _) _).drew
                                have hws7 : w5.heap.size ≤ (w6.setCell ⟨w4.heap.size, m, none⟩ (.int .i64 (ig s f + (cg L m).delay))).drew.heap.size := by simp; omega
                                have x27 : (w6.setCell ⟨w4.heap.size, m, none⟩ (.int .i64 (ig s f + (cg L m).delay))).drew.cell? ⟨wr.heap.size, 2, none⟩ = some (.int .i64 (cg L m).link) := (World.cell?_setCell_other _ _ _ _ (by first | (simp; done) | (simp; omega))).trans x2
                                clear o1 o2 o3 x2 x3 s1
                                generalize (w6.setCell ⟨w4.heap.size, m, none⟩ (.int .i64 (ig s f + (cg L m).delay))).drew = w7 at *
                                go_wp2_with fail
                                go_roundw
                                case rel => exact ⟨k + 1, by omega, by go_num, hB7, Lib.hid (by rw [HSTEP.out]; exact HR7.out), hws7⟩
                                case measure => simp [intOf]; omega
                          · obtain rfl : k = O.length := by omega
                            go_wp2_with fail
                            go_ret2
                            rw [HC4.out, HSV.out]
                            exact Lib.hid ⟨_, rfl, by rw [pass2_len, ← HOL.out]; exact ownsRow_base HR.out (by omega), HFIN.out _ hB⟩
              · have HWG := any_num G wrongT _ hwg
                have HP0 : Hid (startsP L A N G = ([], 2)) := Lib.hid (by rw [HC2.out, hwn, hwg]; rfl)
                clear hwn hwg
                go_wp2_with (first
                  | (go_at_call 51; (with_reducible refine (num_containsFunc na N _ _ _ _ wrongT _ ent_wrongT (by omega) (Nat.le_refl _) (HN.out.grow hB) (asks_wrongT _ _)).mono ?_); rintro e w2 ⟨rfl, hb2⟩; rw [HWN.out]; have hB2 := hB.trans (hb2.mono hB.size); obtain ⟨hB2', y0, y1⟩ := HX.out _ hB2)
                  | (go_at_call 51; (with_reducible refine (num_containsFunc ga G _ _ _ _ wrongT _ ent_wrongT (by omega) (Nat.le_refl _) (HG.out.grow hB2) (asks_wrongT _ _)).mono ?_); rintro e w3 ⟨rfl, hb3⟩; rw [HWG.out]; have hB3 := hB2.trans (hb3.mono hB2.size); obtain ⟨hB3', x0, x1⟩ := HX.out _ hB3))
                go_ret2
                rw [HP0.out]
                exact Lib.hid ⟨_, rfl, World.ownsRow_nil _ _ _ _, hB3'⟩
            · have HWN := any_num N wrongT _ hwn
              have HP0 : Hid (startsP L A N G = ([], 2)) := Lib.hid (by rw [HC2.out, hwn]; rfl)
              clear hwn
              go_wp2_with (first
                | (go_at_call 51; (with_reducible refine (num_containsFunc na N _ _ _ _ wrongT _ ent_wrongT (by omega) (Nat.le_refl _) (HN.out.grow hB) (asks_wrongT _ _)).mono ?_); rintro e w2 ⟨rfl, hb2⟩; rw [HWN.out]; have hB2 := hB.trans (hb2.mono hB.size); obtain ⟨hB2', y0, y1⟩ := HX.out _ hB2))
              go_ret2
              rw [HP0.out]
              exact Lib.hid ⟨_, rfl, World.ownsRow_nil _ _ _ _, hB2'⟩
          · have m2 : ((G.length : Int) != ((manTo L L.length : Nat) : Int)) = true := bne_iff_ne.2 (by omega)
            have HP0 : Hid (startsP L A N G = ([], 3)) := Lib.hid (by rw [HC1.out, if_neg (fun h => hg1 h.2)])
            clear hn1 hg1
            go_wp2_with fail
            go_ret2
            rw [HP0.out]
            exact Lib.hid ⟨_, rfl, World.ownsRow_nil _ _ _ _, hBw⟩
        · have m1 : ((N.length : Int) != (L.length : Int)) = true := bne_iff_ne.2 (by omega)
          have HP0 : Hid (startsP L A N G = ([], 3)) := Lib.hid (by rw [HC1.out, if_neg (fun h => hn1 h.1)])
          clear hn1
          go_wp2_with fail
          go_ret2
          rw [HP0.out]
          exact Lib.hid ⟨_, rfl, World.ownsRow_nil _ _ _ _, hBw⟩
end Go.Proofs.Ytapjhjpibefooaa
