/-
  THE WALK of the law LinksLater.
-/
import Derived.Test.YtapjhjpibefooaaLawStarts
import Derived.Test.YtapjhjpibefooaaLaterP
import Derived.IntWalk
import Derived.RegionTactic
import Derived.BigQuiet
import Derived.Deep.QuietTactic
import Derived.Outline
namespace Go.Proofs.Ytapjhjpibefooaa
open Go.RowKit Go.Shelf

def partBy (b : Int) (G : List Int) (j : Nat) : List Int := (List.range G.length).map fun x => if x < j then ig G x + b else ig G x
theorem partBy_len (b : Int) (G : List Int) (j : Nat) : (partBy b G j).length = G.length := by simp [partBy]
theorem partBy_at (b : Int) (G : List Int) (j x : Nat) (h : x < G.length) : ig (partBy b G j) x = if x < j then ig G x + b else ig G x := by
  unfold ig partBy
  rw [List.getElem?_map, List.getElem?_range h]
  rfl
theorem partBy_zero (b : Int) (G : List Int) : partBy b G 0 = G := ig_ext _ _ (partBy_len _ _ _) fun j hj => by
  rw [partBy_len] at hj
  rw [partBy_at _ _ _ _ hj, if_neg (Nat.not_lt_zero _)]
theorem partBy_all (b : Int) (G : List Int) : partBy b G G.length = allBy b G := ig_ext _ _ (by rw [partBy_len, allBy_len]) fun j hj => by
  rw [partBy_len] at hj
  rw [partBy_at _ _ _ _ hj, if_pos hj, allBy_at _ _ _ hj]
theorem partBy_set (b : Int) (G : List Int) (k : Nat) (hk : k < G.length) : partBy b G (k + 1) = (partBy b G k).set k (ig G k + b) := by
  refine ig_ext _ _ (by simp [partBy]) fun j hj => ?_
  rw [partBy_len] at hj
  rw [ig_set _ _ _ _ (by rw [partBy_len]; exact hk), partBy_at _ _ _ _ hj, partBy_at _ _ _ _ hj]
  by_cases h : k = j
  · subst h; rw [if_pos (by omega), if_pos rfl]
  · rw [if_neg h]
    by_cases l : j < k
    · rw [if_pos l, if_pos (by omega)]
    · rw [if_neg l, if_neg (by omega)]
theorem row_addr {w : World} {base n cap size : Nat} {e : TypeId} {a : Option Addr} {xs : List Value} (h : w.ownsRow base e size (.slice a n cap) n xs) (hn : 0 < n) : ∃ g, a = some ⟨g, 0, none⟩ ∧ base ≤ g ∧ g < w.heap.size := by
  rcases h.2 with ⟨e, h0⟩ | ⟨g, cap', cur, e, hb, hg, _⟩
  · omega
  · cases e; exact ⟨g, rfl, hb, (Array.getElem?_eq_some_iff.1 hg).1⟩
theorem nums_of_row {w : World} {base n cap : Nat} {a : Option Addr} {X : List Int} (h : w.ownsRow base 3 1 (.slice a n cap) n (nflat X)) (hl : X.length = n) : Nums w.heap.size w a X := by
  subst hl
  obtain ⟨a', c', e, _, _, _, hf⟩ := num_of_row h
  cases e
  exact hf
theorem row_set {w : World} {base g n cap : Nat} {X : List Int} (h : w.ownsRow base 3 1 (.slice (some ⟨g, 0, none⟩) n cap) n (nflat X)) (hl : X.length = n) (p : Nat) (hp : p < n) (v : Int) :
    w.cell? ⟨g, p, none⟩ = some (.int .i64 (ig X p)) ∧ w.frozen? ⟨g, p, none⟩ = false ∧ Nums (w.setCell ⟨g, p, none⟩ (.int .i64 v)).heap.size (w.setCell ⟨g, p, none⟩ (.int .i64 v)) (some ⟨g, 0, none⟩) (X.set p v) := by
  refine ⟨?_, h.frozenAt p, nums_of_row (cap := cap) (n := n) (base := base) ?_ (by simpa using hl)⟩
  · rw [h.cellAt p (by omega), nflat_at _ _ (by omega)]
  · have := (h.stored p (.int .i64 v)).1
    rw [nflat_set] at this
    exact this
theorem cues_delay {n : Nat} {w : World} {g m : Nat} {L : List CueR} {d : Int} (h : Cues n w (some ⟨g, 0, none⟩) L) (hm : m < L.length) : Cues n (w.setCell ⟨g, m * 7 + 3, none⟩ (.int .i64 d)) (some ⟨g, 0, none⟩) (setDelay L m d) := fun _ => by
  obtain ⟨b, off, e, hb, hc⟩ := h (by omega)
  cases e
  refine ⟨g, 0, rfl, hb, fun i hi => ?_⟩
  have hi' : i < L.length := by simpa [setDelay] using hi
  obtain ⟨c0, c1, c2, c3, c4, c5, c6⟩ := hc i hi'
  have e : cg (setDelay L m d) i = if m = i then { cg L m with delay := d } else cg L i := by unfold setDelay; exact cg_set _ _ _ _ hm
  have ne : ∀ o, m * 7 + 3 ≠ o → (w.setCell ⟨g, m * 7 + 3, none⟩ (.int .i64 d)).cell? ⟨g, o, none⟩ = w.cell? ⟨g, o, none⟩ := fun o h => World.cell?_setCell_other _ _ _ _ (fun x => h (congrArg Addr.off x))
  rw [e]
  by_cases he : m = i
  · subst he
    rw [if_pos rfl]
    exact ⟨(ne _ (by omega)).trans c0, (ne _ (by omega)).trans c1, (ne _ (by omega)).trans c2, by rw [Nat.zero_add] at c3 ⊢; exact World.cell?_setCell_same _ _ _ c3, (ne _ (by omega)).trans c4, (ne _ (by omega)).trans c5, (ne _ (by omega)).trans c6⟩
  · rw [if_neg he]
    exact ⟨(ne _ (by omega)).trans c0, (ne _ (by omega)).trans c1, (ne _ (by omega)).trans c2, (ne _ (by omega)).trans c3, (ne _ (by omega)).trans c4, (ne _ (by omega)).trans c5, (ne _ (by omega)).trans c6⟩
theorem new_free (w : World) (v u : Value) (t : TypeId) : (w.alloc (.cells #[v, u] t)).frozen? ⟨w.heap.size, 0, none⟩ = false := by simp
theorem starts_n (ca pa na ga : Option Addr) (L : List CueR) (A : List (ByteArray × ByteArray)) (N G : List Int) (ll nn gn cc pc nc gc : Nat) (w : World) (hll : ll = L.length) (hn : nn = N.length) (hg : gn = G.length) (hlen : L.length ≤ 1000) (hlN : N.length ≤ 1000) (hlG : G.length ≤ 1000) (hI : Cues w.heap.size w ca L) (hP : Pairs w.heap.size w pa A) (hN : Nums w.heap.size w na N) (hG : Nums w.heap.size w ga G) :
    Calls Try.prog 12 #[.agg #[.slice ca ll cc, .slice pa A.length pc], .slice na nn nc, .slice ga gn gc] w fun e w' => Hid (∃ v, e = .returned (.tuple #[v, .int .i64 (startsP L A N G).2]) ∧ w'.ownsRow w.heap.size 3 1 v (startsP L A N G).1.length (nflat (startsP L A N G).1) ∧ Below w.heap.size w w') := by
  subst hll hn hg
  exact starts_any ca pa na ga L A N G cc pc nc gc w hlen hlN hlG hI hP hN hG

set_option maxRecDepth 100000 in
set_option maxHeartbeats 16000000 in
theorem later_law (ca pa na ga : Option Addr) (L : List CueR) (A : List (ByteArray × ByteArray)) (N G : List Int) (by' i k : Nat) (cc pc nc gc : Nat) (w : World) (hby : by' ≤ 65535) (hib : i ≤ 255) (hkb : k ≤ 255) (hcn : ca = none → cc = 0) (hnn : na = none → nc = 0) (hgn : ga = none → gc = 0) (hI : Cues w.heap.size w ca L) (hP : Pairs w.heap.size w pa A) (hN : Nums w.heap.size w na N) (hG : Nums w.heap.size w ga G) :
    Calls Try.prog 6 #[.agg #[.slice ca L.length cc, .slice pa A.length pc], .slice na N.length nc, .slice ga G.length gc, .int .u16 (by' : Int), .int .u8 (i : Int), .int .u8 (k : Int)] w fun e w' => e = .returned (.bool true) ∧ Below w.heap.size w w' := by
  have hb0 : Below w.heap.size w (w.alloc (.cells #[.slice ca L.length cc, .slice pa A.length pc] 25)) := below_new w _
  have HI := Lib.hid (hI.grow hb0)
  have HP := Lib.hid (hP.grow hb0)
  have HN := Lib.hid (hN.grow hb0)
  have HG := Lib.hid (hG.grow hb0)
  have HX : Hid (∀ wr, Below (w.alloc (.cells #[.slice ca L.length cc, .slice pa A.length pc] 25)).heap.size (w.alloc (.cells #[.slice ca L.length cc, .slice pa A.length pc] 25)) wr → Below w.heap.size w wr) := Lib.hid fun wr h => mono_in _ h
  have X0 : ∀ wr, Below (w.alloc (.cells #[.slice ca L.length cc, .slice pa A.length pc] 25)).heap.size (w.alloc (.cells #[.slice ca L.length cc, .slice pa A.length pc] 25)) wr → wr.cell? ⟨w.heap.size, 0, none⟩ = some (.slice ca L.length cc) := fun wr h => (box2 h).1
  have X1 : ∀ wr, Below (w.alloc (.cells #[.slice ca L.length cc, .slice pa A.length pc] 25)).heap.size (w.alloc (.cells #[.slice ca L.length cc, .slice pa A.length pc] 25)) wr → wr.cell? ⟨w.heap.size, 1, none⟩ = some (.slice pa A.length pc) := fun wr h => (box2 h).2
  clear hb0 hI hP hN hG
  cases hlb : largeB L A
  · have HLB := Lib.hid hlb
    obtain ⟨hl1, hl2, hl3⟩ := large_len hlb
    clear hlb
    by_cases q1 : (100 : Int) < N.length
    · have g1 := decide_eq_true q1
      go_enter Try.func6, Try.ntmps6
      go_wp2_with fail
      generalize (w.alloc (.cells #[.slice ca L.length cc, .slice pa A.length pc] 25)) = W0 at *
      go_wp2_with (first
        | (go_at_call 10; (with_reducible refine (awake_any _).mono ?_); rintro e w1 ⟨rfl, hB1⟩)
        | (go_at_call 11; (with_reducible refine (large_any _ _ L A _ _ _ (HI.out.grow hB1) (HP.out.grow hB1)).mono ?_); rintro e w2 ⟨rfl, hb2⟩; rw [HLB.out]; have hB2 := hB1.trans (hb2.mono hB1.size); clear hb2))
      go_ret
      exact ⟨rfl, HX.out _ hB2⟩
    · have g1 := decide_eq_false q1
      by_cases q2 : (100 : Int) < G.length
      · have g2 := decide_eq_true q2
        go_enter Try.func6, Try.ntmps6
        go_wp2_with fail
        generalize (w.alloc (.cells #[.slice ca L.length cc, .slice pa A.length pc] 25)) = W0 at *
        go_wp2_with (first
          | (go_at_call 10; (with_reducible refine (awake_any _).mono ?_); rintro e w1 ⟨rfl, hB1⟩)
          | (go_at_call 11; (with_reducible refine (large_any _ _ L A _ _ _ (HI.out.grow hB1) (HP.out.grow hB1)).mono ?_); rintro e w2 ⟨rfl, hb2⟩; rw [HLB.out]; have hB2 := hB1.trans (hb2.mono hB1.size); clear hb2))
        go_ret
        exact ⟨rfl, HX.out _ hB2⟩
      · have g2 := decide_eq_false q2
        have hsl : N.length ≤ 100 := by omega
        have hnl : G.length ≤ 100 := by omega
        clear q1 q2
        obtain ⟨V, ec, hsp⟩ : ∃ V ec, startsP L A N G = (V, ec) := ⟨_, _, rfl⟩
        have HSP := Lib.hid hsp
        by_cases he : ec = 0
        · subst he
          obtain ⟨hlk, hNL, hGM, hNW, hGW, hful, hV⟩ := starts_ok hsp
          have hVL : V.length = L.length := by rw [hV]; exact pass2_len _ _ _ _
          have HVS : Hid (Small V 274877906944) := Lib.hid (by rw [hV]; intro x hx; have hk := ord_le L; have h3 := pass2_small hlk hGW hGM hNW hNL _ (Nat.le_refl _) x hx; exact ⟨h3.1, by have := h3.2; show ig (startsV L N G) x ≤ _; unfold startsV; omega⟩)
          have HGB : Hid (∀ x, x < G.length → 0 ≤ ig G x ∧ ig G x ≤ 2147483648) := Lib.hid fun x hx => wrongT_no hGW x hx
          have HNB : Hid (∀ x, x < N.length → 0 ≤ ig N x ∧ ig N x ≤ 2147483648) := Lib.hid fun x hx => wrongT_no hNW x hx
          have HNL := Lib.hid hNL
          have HDB : Hid (∀ x, x < L.length → 0 ≤ (cg L x).delay ∧ (cg L x).delay ≤ 2147483648) := Lib.hid fun x hx => (linked_cue hlk x hx).2.2.1
          have HGM := Lib.hid hGM
          have hvle : V.length ≤ 63 := by omega
          have HVL := Lib.hid hVL
          clear hlk hNL hGM hNW hGW hful hV hVL hsp
          go_enter Try.func6, Try.ntmps6
          go_wp2_with fail
          generalize (w.alloc (.cells #[.slice ca L.length cc, .slice pa A.length pc] 25)) = W0 at *
          go_wp2_with (first
            | (go_at_call 10; (with_reducible refine (awake_any _).mono ?_); rintro e w1 ⟨rfl, hB1⟩)
            | (go_at_call 11; (with_reducible refine (large_any _ _ L A _ _ _ (HI.out.grow hB1) (HP.out.grow hB1)).mono ?_); rintro e w2 ⟨rfl, hb2⟩; rw [HLB.out]; have hB2 := hB1.trans (hb2.mono hB1.size); clear hb2)
            | (go_at_call 12; (with_reducible refine (starts_any _ _ _ _ L A N G _ _ _ _ _ (by omega) (by omega) (by omega) (HI.out.grow hB2) (HP.out.grow hB2) (HN.out.grow hB2) (HG.out.grow hB2)).mono ?_); rintro e w3 hx; obtain ⟨v3, rfl, hr3, hb3⟩ := hx.out; rw [HSP.out] at hr3; rw [HSP.out]; have hB3 := hB2.trans (hb3.mono hB2.size); obtain ⟨a3, c3, rfl, _, _, _, hf3⟩ := num_of_row hr3; have HF3 := Lib.hid hf3; clear hx hr3 hf3 hb3)
            | (go_at_call 29; (with_reducible refine (num_clone ga G gc _ (by omega) hgn (HG.out.grow hB3)).mono ?_); rintro e w4 hx; obtain ⟨v4, rfl, hr4, hb4⟩ := hx.out; obtain ⟨a4, c4, rfl, _, _, _, _⟩ := num_of_row hr4; have HR4 := Lib.hid hr4; have hB4 := hB3.trans (hb4.mono hB3.size); clear hx hr4))
          clear hB1 hB2
          go_loopw [56] (fun v wr => ∃ j : Nat, j ≤ G.length ∧ v = .int .i64 j ∧ Hid (wr.ownsRow w3.heap.size 3 1 (.slice a4 G.length c4) G.length (nflat (partBy by' G j))) ∧ Below w3.heap.size w3 wr) (fun v _ => G.length - (intOf v).toNat)
          case atStart => exact ⟨0, Nat.zero_le _, rfl, Lib.hid (by rw [partBy_zero]; exact HR4.out), hb4⟩
          case round =>
            clear HR4 hb4 hB4
            obtain ⟨j, hj, rfl, HR, hC⟩ := hrel
            have hB : Below W0.heap.size W0 wr := hB3.trans (hC.mono hB3.size)
            by_cases hlt : j < G.length
            · obtain ⟨g, rfl, hg1, hg2⟩ := row_addr HR.out (by omega)
              have o1 : wr.cell? ⟨g, j, none⟩ = some (.int .i64 (ig G j)) := by rw [HR.out.cellAt j (by omega), nflat_at _ _ (by rw [partBy_len]; exact hlt), partBy_at _ _ _ _ hlt, if_neg (by omega)]
              have o2 := HR.out.frozenAt j
              obtain ⟨s1, s2⟩ := HGB.out j hlt
              have HST : Hid ((wr.setCell ⟨g, j, none⟩ (.int .i64 (ig G j + (by' : Int)))).ownsRow w3.heap.size 3 1 (.slice (some ⟨g, 0, none⟩) G.length c4) G.length (nflat (partBy by' G (j + 1)))) := Lib.hid (by rw [partBy_set _ _ _ hlt, ← nflat_set]; exact (HR.out.stored j _).1)
              go_wp2_with fail
              go_roundw
              case rel => exact ⟨j + 1, by omega, by go_num, HST, hC.setCell hg1 _⟩
              case measure => simp [intOf]; omega
            · obtain rfl : j = G.length := by omega
              have hG5 : Hid (Nums wr.heap.size wr a4 (allBy by' G)) := Lib.hid (nums_of_row (by rw [← partBy_all]; exact HR.out) (allBy_len _ _))
              have HF5 : Hid (Nums wr.heap.size wr a3 V) := Lib.hid (HF3.out.grow hC)
              obtain ⟨V1, e1, hs1⟩ : ∃ V1 e1, startsP L A N (allBy by' G) = (V1, e1) := ⟨_, _, rfl⟩
              have HS1 := Lib.hid hs1
              have hcase := all_later HSP.out hs1
              clear hs1 HR hlt hj
              rcases hcase with ⟨rfl, hl, hv⟩ | ⟨rfl, rfl⟩
              · have HV1 := Lib.hid hv
                have HL1 := Lib.hid hl
                have hv1le : V1.length ≤ 63 := by omega
                clear hl hv
                go_wp2_with (go_at_call 12; (with_reducible refine (starts_n _ _ _ _ L A N (allBy by' G) _ _ _ _ _ _ _ _ rfl rfl (allBy_len _ _).symm (by omega) (by omega) (by rw [allBy_len]; omega) (HI.out.grow hB) (HP.out.grow hB) (HN.out.grow hB) hG5.out).mono ?_); rintro e w6 hx; obtain ⟨v6, rfl, hr6, hb6⟩ := hx.out; rw [HS1.out] at hr6; rw [HS1.out]; have hB6 := hB.trans (hb6.mono hB.size); obtain ⟨a6, c6, rfl, _, _, _, hf6⟩ := num_of_row hr6; have HF6 := Lib.hid hf6; have HF36 := Lib.hid (HF5.out.grow hb6); clear hx hr6 hf6 hb6 HF5 hG5)
                obtain ⟨wo, rfl⟩ : ∃ wo : World, wo = wr := ⟨_, rfl⟩
                go_loopw [79] (fun v wr => ∃ j : Nat, j ≤ V1.length ∧ v = .int .i64 j ∧ Below w6.heap.size w6 wr) (fun v _ => V1.length - (intOf v).toNat)
                case atStart => exact ⟨0, Nat.zero_le _, rfl, Below.refl _ _⟩
                case round =>
                  obtain ⟨j, hj, rfl, hD⟩ := hrel
                  have hBD : Below W0.heap.size W0 wr := hB6.trans (hD.mono hB6.size)
                  by_cases hlt : j < V1.length
                  · have hjv : j < V.length := by have := HL1.out; omega
                    obtain ⟨b6, o6, rfl, hb6', hc6⟩ := HF6.out (by omega)
                    obtain ⟨b3, o3, rfl, hb3', hc3⟩ := HF36.out (by omega)
                    have x1 := (hD.cell (p := ⟨b6, o6 + j, none⟩) hb6').trans (hc6 j hlt)
                    have x2 := (hD.cell (p := ⟨b3, o3 + j, none⟩) hb3').trans (hc3 j hjv)
                    rw [HV1.out j hjv] at x1
                    obtain ⟨u1, u2⟩ := HVS.out j hjv
                    have y1 : decide ((V.length : Int) ≤ (j : Int)) = false := decide_eq_false (by omega)
                    have y2 : decide (V.length ≤ j) = false := decide_eq_false (by omega)
                    have y3 : ((ig V j + (by' : Int)) != (ig V j + (by' : Int))) = false := bne_self_eq_false _
                    have y4 : IntKind.i64.wrap (ig V j + (by' : Int)) = ig V j + (by' : Int) := IntWalk.i64_in _ (by omega)
                    have y5 : IntKind.i64.wrap (by' : Int) = (by' : Int) := IntWalk.i64_in _ (by omega)
                    clear hc6 hc3
                    go_wp2_with (go_quiet (fail))
                    clear y1 y2 y3 y4 y5
                    go_roundw
                    case rel => exact ⟨j + 1, by omega, by go_num, below_drewN hD _⟩
                    case measure => simp [intOf]; omega
                  · obtain rfl : j = V1.length := by omega
                    by_cases hL : L.length = 0
                    · have h0 : ((L.length : Int) == 0) = true := beq_iff_eq.2 (by omega)
                      clear hL
                      go_wp2_with fail
                      go_ret
                      exact ⟨rfl, HX.out _ hBD⟩
                    · have h0 : ((L.length : Int) == 0) = false := beq_eq_false_iff_ne.2 (by omega)
                      have hNpos : 0 < N.length := by have := HNL.out; omega
                      have hLpos : 0 < L.length := by omega
                      have hp : i % N.length < N.length := Nat.mod_lt _ hNpos
                      have hm : k % L.length < L.length := Nat.mod_lt _ hLpos
                      obtain ⟨n1, n2⟩ := HNB.out _ hp
                      have h9 : w.heap.size < W0.heap.size := World.block_lt_of_cell? _ _ (X0 _ (Below.refl _ _))
                      clear hL
                      have hBx : Below W0.heap.size W0 wr := hBD
                      have HFX : Hid (Nums wr.heap.size wr a3 V) := Lib.hid (HF36.out.grow hD)
                      clear hlt hD hBD hB6 hB hC HF36 HF6
                      by_cases hG0 : G.length = 0
                      · have h1 : decide ((0 : Int) < (G.length : Int)) = false := decide_eq_false (by omega)
                        have h2 : decide (0 < G.length) = false := decide_eq_false (by omega)
                        have HLG : Hid (lateBy by' G 0 = G) := Lib.hid (by unfold lateBy; exact List.set_eq_of_length_le (by omega))
                        clear hG0
                        go_wp2_with (go_at_call 29; (with_reducible refine (num_clone na N nc _ (by omega) hnn (HN.out.grow hBx)).mono ?_); rintro e w7 hx; obtain ⟨v7, rfl, hr7, hb7⟩ := hx.out; obtain ⟨a7, c7, rfl, _, _, _, _⟩ := num_of_row hr7; obtain ⟨g7, rfl, hg7, hg7'⟩ := row_addr hr7 hNpos; obtain ⟨o1, o2, hn7⟩ := row_set hr7 rfl (i % N.length) hp (ig N (i % N.length) + (by' : Int)); have hB7 := hBx.trans (hb7.mono hBx.size); have hBs := hB7.setCell (p := ⟨g7, i % N.length, none⟩) (Nat.le_trans hBx.size hg7) (.int .i64 (ig N (i % N.length) + (by' : Int))); have HN7 := Lib.hid hn7; have HF7 := Lib.hid (HFX.out.grow (hb7.setCell (p := ⟨g7, i % N.length, none⟩) hg7 (.int .i64 (ig N (i % N.length) + (by' : Int))))); clear hx hr7 hb7 hn7)
                        go_wp2_with (go_at_call 29; (with_reducible refine (num_clone ga G gc _ (by omega) hgn (HG.out.grow hBs)).mono ?_); rintro e w8 hx; obtain ⟨v8, rfl, hr8, hb8⟩ := hx.out; obtain ⟨a8, c8, rfl, _, _, _, hf8⟩ := num_of_row hr8; clear o1 o2; have hB8 := hBs.trans (hb8.mono hBs.size); have HG8 : Hid (Nums w8.heap.size w8 a8 (lateBy by' G 0)) := Lib.hid (by rw [HLG.out]; exact hf8); have HN8 := Lib.hid (HN7.out.grow hb8); have HF8 := Lib.hid (HF7.out.grow hb8); have h8z : w.heap.size < w8.heap.size := Nat.lt_of_lt_of_le h9 hB8.size; have XA : ∀ o, (w8.alloc o).cell? ⟨w.heap.size, 0, none⟩ = some (.slice ca L.length cc) := fun o => X0 _ (hB8.alloc hB8.size o); clear hx hr8 hb8 hf8)
                        obtain ⟨V2, e2, hs2⟩ : ∃ V2 e2, startsP (setDelay L (k % L.length) ((cg L (k % L.length)).delay + (by' : Int))) A (lateBy by' N (i % N.length)) (lateBy by' G 0) = (V2, e2) := ⟨_, _, rfl⟩
                        have HS2 := Lib.hid hs2
                        have hcase2 := some_later (Int.natCast_nonneg by') (k % L.length) (i % N.length) 0 hm HSP.out hs2
                        clear hs2
                        go_wp2_with (go_loud (go_at_call 30; (with_reducible refine (cue_clone ca L cc _ (by omega) hcn (HI.out.grow (hB8.alloc hB8.size _))).mono ?_); rintro e w10 hx; obtain ⟨v10, rfl, hr10, hb10⟩ := hx.out; obtain ⟨a10, c10, rfl, _, _, _, _⟩ := cue_of_row hr10; obtain ⟨g10, rfl, hg10, hg10'⟩ := row_addr hr10 hLpos; have hg10s : w8.heap.size < g10 := Nat.lt_of_lt_of_le (by simp) hg10; have e0 : w10.cell? ⟨w8.heap.size, 0, none⟩ = some (.slice ca L.length cc) := (by simpa using (box2 hb10).1); have e1 : w10.cell? ⟨w8.heap.size, 1, none⟩ = some (.slice pa A.length pc) := (by simpa using (box2 hb10).2); have f0 : w10.frozen? ⟨w8.heap.size, 0, none⟩ = false := (by have h : w10.frozen? ⟨w8.heap.size, 0, none⟩ = false := (hb10.frozen (p := ⟨w8.heap.size, 0, none⟩) (by simp)).trans (new_free _ _ _ _); simpa using h); have hb8w : Below w8.heap.size w8 w10 := mono_in _ hb10))
                        have hb11 : Below w8.heap.size w8 (w10.setCell ⟨w8.heap.size, 0, none⟩ (.slice (some ⟨g10, 0, none⟩) L.length c10)) := hb8w.setCell (by simp) _
                        have z0 : (w10.setCell ⟨w8.heap.size, 0, none⟩ (.slice (some ⟨g10, 0, none⟩) L.length c10)).cell? ⟨w8.heap.size, 0, none⟩ = some (.slice (some ⟨g10, 0, none⟩) L.length c10) := World.cell?_setCell_same _ _ _ e0
                        have z1 : (w10.setCell ⟨w8.heap.size, 0, none⟩ (.slice (some ⟨g10, 0, none⟩) L.length c10)).cell? ⟨w8.heap.size, 1, none⟩ = some (.slice pa A.length pc) := (World.cell?_setCell_other _ _ _ _ (fun x => absurd (congrArg Addr.off x) (by simp))).trans e1
                        have hr11 := ownsRow_setCell_below hr10 (a := ⟨w8.heap.size, 0, none⟩) (by simp) (.slice (some ⟨g10, 0, none⟩) L.length c10)
                        have z3 : (w10.setCell ⟨w8.heap.size, 0, none⟩ (.slice (some ⟨g10, 0, none⟩) L.length c10)).cell? ⟨g10, k % L.length * 7 + 3, none⟩ = some (.int .i64 (cg L (k % L.length)).delay) := by rw [hr11.cellAt _ (by omega)]; exact (cflat_at L _ hm).2.2.2.1
                        have z4 := hr11.frozenAt (k % L.length * 7 + 3)
                        obtain ⟨a11, c11, e11, _, _, _, hc11⟩ := cue_of_row hr11
                        cases e11
                        have hz8 : w8.heap.size < (w10.setCell ⟨w8.heap.size, 0, none⟩ (.slice (some ⟨g10, 0, none⟩) L.length c10)).heap.size := World.block_lt_of_cell? _ _ z0
                        have hg11 : g10 < (w10.setCell ⟨w8.heap.size, 0, none⟩ (.slice (some ⟨g10, 0, none⟩) L.length c10)).heap.size := World.block_lt_of_cell? _ _ z3
                        clear e0 e1 f0 hb8w hr10 hb10 hr11 hg10 hg10'
                        generalize w10.setCell ⟨w8.heap.size, 0, none⟩ (.slice (some ⟨g10, 0, none⟩) L.length c10) = w11 at *
                        obtain ⟨d1, d2⟩ := HDB.out _ hm
                        have q3 : ((k : Int)).tmod (L.length : Int) = ((k % L.length : Nat) : Int) := by rw [Int.tmod_eq_emod_of_nonneg (by omega)]; simp
                        have q5 : ¬ L = [] := fun e => by rw [e] at hLpos; simp at hLpos
                        have q7 : ¬ (L.length : Int) = 0 := by omega
                        have q8 : IntKind.i64.wrap (((k % L.length : Nat)) : Int) = ((k % L.length : Nat) : Int) := IntWalk.i64_in _ (by omega)
                        have q9 : IntKind.i64.wrap ((cg L (k % L.length)).delay + (by' : Int)) = (cg L (k % L.length)).delay + (by' : Int) := IntWalk.i64_in _ (by omega)
                        have q10 : IntKind.i64.wrap (by' : Int) = (by' : Int) := IntWalk.i64_in _ (by omega)
                        have q11 : IntKind.i64.wrap (k : Int) = (k : Int) := IntWalk.i64_in _ (by omega)
                        go_region
                        clear q3 q5 q7 q8 q9 q10 q11
                        go_wp2_with fail
                        have SDL : (setDelay L (k % L.length) ((cg L (k % L.length)).delay + (by' : Int))).length = L.length := by simp [setDelay]
                        have hb12 : Below w8.heap.size w8 ((w11.setCell ⟨g10, k % L.length * 7 + 3, none⟩ (.int .i64 ((cg L (k % L.length)).delay + (by' : Int)))).drew) := (hb11.setCell (p := ⟨g10, k % L.length * 7 + 3, none⟩) (show w8.heap.size ≤ g10 by first | omega | (simp; omega)) _).drew
                        have HC12 : Hid (Cues ((w11.setCell ⟨g10, k % L.length * 7 + 3, none⟩ (.int .i64 ((cg L (k % L.length)).delay + (by' : Int)))).drew).heap.size ((w11.setCell ⟨g10, k % L.length * 7 + 3, none⟩ (.int .i64 ((cg L (k % L.length)).delay + (by' : Int)))).drew) (some ⟨g10, 0, none⟩) (setDelay L (k % L.length) ((cg L (k % L.length)).delay + (by' : Int)))) := Lib.hid (((cues_delay hc11 hm).below ((Below.refl _ _).drew)).mono (by simp))
                        have hB12 : Below W0.heap.size W0 ((w11.setCell ⟨g10, k % L.length * 7 + 3, none⟩ (.int .i64 ((cg L (k % L.length)).delay + (by' : Int)))).drew) := hB8.trans (hb12.mono hB8.size)
                        have HN12 := Lib.hid (HN8.out.grow hb12)
                        have HG12 := Lib.hid (HG8.out.grow hb12)
                        have HF12 := Lib.hid (HF8.out.grow hb12)
                        have HSDL := Lib.hid SDL
                        clear hb12 hb11 hc11 HN8 HG8 HF8 z0 z1 z3 z4 hB8 XA hz8 hg11 SDL
                        generalize (w11.setCell ⟨g10, k % L.length * 7 + 3, none⟩ (.int .i64 ((cg L (k % L.length)).delay + (by' : Int)))).drew = w12 at *
                        rcases hcase2 with ⟨rfl, hl, hv⟩ | ⟨rfl, rfl⟩ | ⟨rfl, rfl⟩
                        · have HV2 := Lib.hid hv
                          have HL2 := Lib.hid hl
                          have hv2le : V2.length ≤ 63 := by omega
                          have y9 : ((V2.length : Int) == (V.length : Int)) = true := beq_iff_eq.2 (by omega)
                          clear hl hv
                          go_wp2_with (go_at_call 12; (with_reducible refine (starts_n _ _ _ _ (setDelay L (k % L.length) ((cg L (k % L.length)).delay + (by' : Int))) A (lateBy by' N (i % N.length)) (lateBy by' G 0) _ _ _ _ _ _ _ _ HSDL.out.symm (lateBy_len _ _ _).symm (lateBy_len _ _ _).symm (by rw [HSDL.out]; omega) (by rw [lateBy_len]; omega) (by rw [lateBy_len]; omega) HC12.out (HP.out.grow hB12) HN12.out HG12.out).mono ?_); rintro e w13 hx; obtain ⟨v13, rfl, hr13, hb13⟩ := hx.out; rw [HS2.out] at hr13; rw [HS2.out]; have hB13 := hB12.trans (hb13.mono hB12.size); obtain ⟨a13, c13, rfl, _, _, _, hf13⟩ := num_of_row hr13; have HF13 := Lib.hid hf13; have HFV := Lib.hid (HF12.out.grow hb13); clear hx hr13 hf13 hb13)
                          obtain ⟨wo2, rfl⟩ : ∃ x : World, x = w13 := ⟨_, rfl⟩
                          go_loopw [176] (fun v wr => ∃ j : Nat, j ≤ V2.length ∧ v = .int .i64 j ∧ Below wo2.heap.size wo2 wr) (fun v _ => V2.length - (intOf v).toNat)
                          case atStart => exact ⟨0, Nat.zero_le _, rfl, Below.refl _ _⟩
                          case round =>
                            obtain ⟨j, hj, rfl, hD⟩ := hrel
                            by_cases hlt : j < V2.length
                            · have hjv : j < V.length := by have := HL2.out; omega
                              obtain ⟨b6, o6, rfl, hb6', hc6⟩ := HF13.out (by omega)
                              obtain ⟨b3, o3, rfl, hb3', hc3⟩ := HFV.out (by omega)
                              have x1 := (hD.cell (p := ⟨b6, o6 + j, none⟩) hb6').trans (hc6 j hlt)
                              have x2 := (hD.cell (p := ⟨b3, o3 + j, none⟩) hb3').trans (hc3 j hjv)
                              have y1 : decide ((V.length : Int) ≤ (j : Int)) = false := decide_eq_false (by omega)
                              have y2 : decide (V.length ≤ j) = false := decide_eq_false (by omega)
                              have y3 : decide (ig V2 j < ig V j) = false := decide_eq_false (by have := HV2.out j hjv; omega)
                              clear hc6 hc3
                              go_wp2_with (go_quiet (fail))
                              clear y1 y2 y3
                              go_roundw
                              case rel => exact ⟨j + 1, by omega, by go_num, below_drewN hD _⟩
                              case measure => simp [intOf]; omega
                            · obtain rfl : j = V2.length := by omega
                              go_wp2_with fail
                              go_ret
                              exact ⟨rfl, HX.out _ (hB13.trans (hD.mono hB13.size))⟩
                        · go_wp2_with (go_at_call 12; (with_reducible refine (starts_n _ _ _ _ (setDelay L (k % L.length) ((cg L (k % L.length)).delay + (by' : Int))) A (lateBy by' N (i % N.length)) (lateBy by' G 0) _ _ _ _ _ _ _ _ HSDL.out.symm (lateBy_len _ _ _).symm (lateBy_len _ _ _).symm (by rw [HSDL.out]; omega) (by rw [lateBy_len]; omega) (by rw [lateBy_len]; omega) HC12.out (HP.out.grow hB12) HN12.out HG12.out).mono ?_); rintro e w13 hx; obtain ⟨v13, rfl, hr13, hb13⟩ := hx.out; rw [HS2.out] at hr13; rw [HS2.out]; have hB13 := hB12.trans (hb13.mono hB12.size); obtain ⟨a13, c13, rfl, _, _, _, hf13⟩ := num_of_row hr13; have HF13 := Lib.hid hf13; have HFV := Lib.hid (HF12.out.grow hb13); clear hx hr13 hf13 hb13)
                          go_ret
                          exact ⟨rfl, HX.out _ hB13⟩
                        · go_wp2_with (go_at_call 12; (with_reducible refine (starts_n _ _ _ _ (setDelay L (k % L.length) ((cg L (k % L.length)).delay + (by' : Int))) A (lateBy by' N (i % N.length)) (lateBy by' G 0) _ _ _ _ _ _ _ _ HSDL.out.symm (lateBy_len _ _ _).symm (lateBy_len _ _ _).symm (by rw [HSDL.out]; omega) (by rw [lateBy_len]; omega) (by rw [lateBy_len]; omega) HC12.out (HP.out.grow hB12) HN12.out HG12.out).mono ?_); rintro e w13 hx; obtain ⟨v13, rfl, hr13, hb13⟩ := hx.out; rw [HS2.out] at hr13; rw [HS2.out]; have hB13 := hB12.trans (hb13.mono hB12.size); obtain ⟨a13, c13, rfl, _, _, _, hf13⟩ := num_of_row hr13; have HF13 := Lib.hid hf13; have HFV := Lib.hid (HF12.out.grow hb13); clear hx hr13 hf13 hb13)
                          go_ret
                          exact ⟨rfl, HX.out _ hB13⟩
                      · have h1 : decide ((0 : Int) < (G.length : Int)) = true := decide_eq_true (by omega)
                        have h2 : decide (0 < G.length) = true := decide_eq_true (by omega)
                        have hq : k % G.length < G.length := Nat.mod_lt _ (by omega)
                        obtain ⟨k1, k2⟩ := HGB.out _ hq
                        clear hG0
                        go_wp2_with (go_at_call 29; (with_reducible refine (num_clone na N nc _ (by omega) hnn (HN.out.grow hBx)).mono ?_); rintro e w7 hx; obtain ⟨v7, rfl, hr7, hb7⟩ := hx.out; obtain ⟨a7, c7, rfl, _, _, _, _⟩ := num_of_row hr7; obtain ⟨g7, rfl, hg7, hg7'⟩ := row_addr hr7 hNpos; obtain ⟨o1, o2, hn7⟩ := row_set hr7 rfl (i % N.length) hp (ig N (i % N.length) + (by' : Int)); have hB7 := hBx.trans (hb7.mono hBx.size); have hBs := hB7.setCell (p := ⟨g7, i % N.length, none⟩) (Nat.le_trans hBx.size hg7) (.int .i64 (ig N (i % N.length) + (by' : Int))); have HN7 := Lib.hid hn7; have HF7 := Lib.hid (HFX.out.grow (hb7.setCell (p := ⟨g7, i % N.length, none⟩) hg7 (.int .i64 (ig N (i % N.length) + (by' : Int))))); clear hx hr7 hb7 hn7)
                        go_wp2_with (go_at_call 29; (with_reducible refine (num_clone ga G gc _ (by omega) hgn (HG.out.grow hBs)).mono ?_); rintro e w8 hx; obtain ⟨v8, rfl, hr8, hb8⟩ := hx.out; obtain ⟨a8, c8, rfl, _, _, _, hf8⟩ := num_of_row hr8; clear o1 o2; obtain ⟨g8, rfl, hg8, hg8'⟩ := row_addr hr8 (by omega); obtain ⟨p1, p2, hn8⟩ := row_set hr8 rfl (k % G.length) hq (ig G (k % G.length) + (by' : Int)); have hb8s := hb8.setCell (p := ⟨g8, k % G.length, none⟩) hg8 (.int .i64 (ig G (k % G.length) + (by' : Int))); have hB8 := hBs.trans (hb8s.mono hBs.size); have HG8 := Lib.hid hn8; have HN8 := Lib.hid (HN7.out.grow hb8s); have HF8 := Lib.hid (HF7.out.grow hb8s); have h8z : w.heap.size < w8.heap.size := Nat.lt_of_lt_of_le h9 (by have := hB8.size; simpa using this); have XA : ∀ o, ((w8.setCell ⟨g8, k % G.length, none⟩ (.int .i64 (ig G (k % G.length) + (by' : Int)))).alloc o).cell? ⟨w.heap.size, 0, none⟩ = some (.slice ca L.length cc) := fun o => X0 _ (hB8.alloc hB8.size o); clear hx hr8 hb8 hf8 hn8 hb8s)
                        obtain ⟨V2, e2, hs2⟩ : ∃ V2 e2, startsP (setDelay L (k % L.length) ((cg L (k % L.length)).delay + (by' : Int))) A (lateBy by' N (i % N.length)) (lateBy by' G (k % G.length)) = (V2, e2) := ⟨_, _, rfl⟩
                        have HS2 := Lib.hid hs2
                        have hcase2 := some_later (Int.natCast_nonneg by') (k % L.length) (i % N.length) (k % G.length) hm HSP.out hs2
                        clear hs2
                        go_wp2_with (go_loud (go_at_call 30; (with_reducible refine (cue_clone ca L cc _ (by omega) hcn (HI.out.grow (hB8.alloc hB8.size _))).mono ?_); rintro e w10 hx; obtain ⟨v10, rfl, hr10, hb10⟩ := hx.out; obtain ⟨a10, c10, rfl, _, _, _, _⟩ := cue_of_row hr10; obtain ⟨g10, rfl, hg10, hg10'⟩ := row_addr hr10 hLpos; have hg10s : w8.heap.size < g10 := Nat.lt_of_lt_of_le (by simp) hg10; have e0 : w10.cell? ⟨w8.heap.size, 0, none⟩ = some (.slice ca L.length cc) := (by simpa using (box2 hb10).1); have e1 : w10.cell? ⟨w8.heap.size, 1, none⟩ = some (.slice pa A.length pc) := (by simpa using (box2 hb10).2); have f0 : w10.frozen? ⟨w8.heap.size, 0, none⟩ = false := (by have h : w10.frozen? ⟨(w8.setCell ⟨g8, k % G.length, none⟩ (.int .i64 (ig G (k % G.length) + (by' : Int)))).heap.size, 0, none⟩ = false := (hb10.frozen (p := ⟨(w8.setCell ⟨g8, k % G.length, none⟩ (.int .i64 (ig G (k % G.length) + (by' : Int)))).heap.size, 0, none⟩) (by simp)).trans (new_free _ _ _ _); simpa using h); have hb8w : Below (w8.setCell ⟨g8, k % G.length, none⟩ (.int .i64 (ig G (k % G.length) + (by' : Int)))).heap.size (w8.setCell ⟨g8, k % G.length, none⟩ (.int .i64 (ig G (k % G.length) + (by' : Int)))) w10 := mono_in _ hb10))
                        have hb11 : Below (w8.setCell ⟨g8, k % G.length, none⟩ (.int .i64 (ig G (k % G.length) + (by' : Int)))).heap.size (w8.setCell ⟨g8, k % G.length, none⟩ (.int .i64 (ig G (k % G.length) + (by' : Int)))) (w10.setCell ⟨w8.heap.size, 0, none⟩ (.slice (some ⟨g10, 0, none⟩) L.length c10)) := hb8w.setCell (by simp) _
                        have z0 : (w10.setCell ⟨w8.heap.size, 0, none⟩ (.slice (some ⟨g10, 0, none⟩) L.length c10)).cell? ⟨w8.heap.size, 0, none⟩ = some (.slice (some ⟨g10, 0, none⟩) L.length c10) := World.cell?_setCell_same _ _ _ e0
                        have z1 : (w10.setCell ⟨w8.heap.size, 0, none⟩ (.slice (some ⟨g10, 0, none⟩) L.length c10)).cell? ⟨w8.heap.size, 1, none⟩ = some (.slice pa A.length pc) := (World.cell?_setCell_other _ _ _ _ (fun x => absurd (congrArg Addr.off x) (by simp))).trans e1
                        have hr11 := ownsRow_setCell_below hr10 (a := ⟨w8.heap.size, 0, none⟩) (by simp) (.slice (some ⟨g10, 0, none⟩) L.length c10)
                        have z3 : (w10.setCell ⟨w8.heap.size, 0, none⟩ (.slice (some ⟨g10, 0, none⟩) L.length c10)).cell? ⟨g10, k % L.length * 7 + 3, none⟩ = some (.int .i64 (cg L (k % L.length)).delay) := by rw [hr11.cellAt _ (by omega)]; exact (cflat_at L _ hm).2.2.2.1
                        have z4 := hr11.frozenAt (k % L.length * 7 + 3)
                        obtain ⟨a11, c11, e11, _, _, _, hc11⟩ := cue_of_row hr11
                        cases e11
                        have hz8 : w8.heap.size < (w10.setCell ⟨w8.heap.size, 0, none⟩ (.slice (some ⟨g10, 0, none⟩) L.length c10)).heap.size := World.block_lt_of_cell? _ _ z0
                        have hg11 : g10 < (w10.setCell ⟨w8.heap.size, 0, none⟩ (.slice (some ⟨g10, 0, none⟩) L.length c10)).heap.size := World.block_lt_of_cell? _ _ z3
                        clear e0 e1 f0 hb8w hr10 hb10 hr11 hg10 hg10'
                        generalize w10.setCell ⟨w8.heap.size, 0, none⟩ (.slice (some ⟨g10, 0, none⟩) L.length c10) = w11 at *
                        obtain ⟨d1, d2⟩ := HDB.out _ hm
                        have q3 : ((k : Int)).tmod (L.length : Int) = ((k % L.length : Nat) : Int) := by rw [Int.tmod_eq_emod_of_nonneg (by omega)]; simp
                        have q5 : ¬ L = [] := fun e => by rw [e] at hLpos; simp at hLpos
                        have q7 : ¬ (L.length : Int) = 0 := by omega
                        have q8 : IntKind.i64.wrap (((k % L.length : Nat)) : Int) = ((k % L.length : Nat) : Int) := IntWalk.i64_in _ (by omega)
                        have q9 : IntKind.i64.wrap ((cg L (k % L.length)).delay + (by' : Int)) = (cg L (k % L.length)).delay + (by' : Int) := IntWalk.i64_in _ (by omega)
                        have q10 : IntKind.i64.wrap (by' : Int) = (by' : Int) := IntWalk.i64_in _ (by omega)
                        have q11 : IntKind.i64.wrap (k : Int) = (k : Int) := IntWalk.i64_in _ (by omega)
                        go_region
                        clear q3 q5 q7 q8 q9 q10 q11
                        go_wp2_with fail
                        have SDL : (setDelay L (k % L.length) ((cg L (k % L.length)).delay + (by' : Int))).length = L.length := by simp [setDelay]
                        have hb12 : Below (w8.setCell ⟨g8, k % G.length, none⟩ (.int .i64 (ig G (k % G.length) + (by' : Int)))).heap.size (w8.setCell ⟨g8, k % G.length, none⟩ (.int .i64 (ig G (k % G.length) + (by' : Int)))) ((w11.setCell ⟨g10, k % L.length * 7 + 3, none⟩ (.int .i64 ((cg L (k % L.length)).delay + (by' : Int)))).drew) := (hb11.setCell (p := ⟨g10, k % L.length * 7 + 3, none⟩) (show (w8.setCell ⟨g8, k % G.length, none⟩ (.int .i64 (ig G (k % G.length) + (by' : Int)))).heap.size ≤ g10 by first | omega | (simp; omega)) _).drew
                        have HC12 : Hid (Cues ((w11.setCell ⟨g10, k % L.length * 7 + 3, none⟩ (.int .i64 ((cg L (k % L.length)).delay + (by' : Int)))).drew).heap.size ((w11.setCell ⟨g10, k % L.length * 7 + 3, none⟩ (.int .i64 ((cg L (k % L.length)).delay + (by' : Int)))).drew) (some ⟨g10, 0, none⟩) (setDelay L (k % L.length) ((cg L (k % L.length)).delay + (by' : Int)))) := Lib.hid (((cues_delay hc11 hm).below ((Below.refl _ _).drew)).mono (by simp))
                        have hB12 : Below W0.heap.size W0 ((w11.setCell ⟨g10, k % L.length * 7 + 3, none⟩ (.int .i64 ((cg L (k % L.length)).delay + (by' : Int)))).drew) := hB8.trans (hb12.mono hB8.size)
                        have HN12 := Lib.hid (HN8.out.grow hb12)
                        have HG12 := Lib.hid (HG8.out.grow hb12)
                        have HF12 := Lib.hid (HF8.out.grow hb12)
                        have HSDL := Lib.hid SDL
                        clear hb12 hb11 hc11 HN8 HG8 HF8 z0 z1 z3 z4 hB8 XA hz8 hg11 SDL
                        generalize (w11.setCell ⟨g10, k % L.length * 7 + 3, none⟩ (.int .i64 ((cg L (k % L.length)).delay + (by' : Int)))).drew = w12 at *
                        rcases hcase2 with ⟨rfl, hl, hv⟩ | ⟨rfl, rfl⟩ | ⟨rfl, rfl⟩
                        · have HV2 := Lib.hid hv
                          have HL2 := Lib.hid hl
                          have hv2le : V2.length ≤ 63 := by omega
                          have y9 : ((V2.length : Int) == (V.length : Int)) = true := beq_iff_eq.2 (by omega)
                          clear hl hv
                          go_wp2_with (go_at_call 12; (with_reducible refine (starts_n _ _ _ _ (setDelay L (k % L.length) ((cg L (k % L.length)).delay + (by' : Int))) A (lateBy by' N (i % N.length)) (lateBy by' G (k % G.length)) _ _ _ _ _ _ _ _ HSDL.out.symm (lateBy_len _ _ _).symm (lateBy_len _ _ _).symm (by rw [HSDL.out]; omega) (by rw [lateBy_len]; omega) (by rw [lateBy_len]; omega) HC12.out (HP.out.grow hB12) HN12.out HG12.out).mono ?_); rintro e w13 hx; obtain ⟨v13, rfl, hr13, hb13⟩ := hx.out; rw [HS2.out] at hr13; rw [HS2.out]; have hB13 := hB12.trans (hb13.mono hB12.size); obtain ⟨a13, c13, rfl, _, _, _, hf13⟩ := num_of_row hr13; have HF13 := Lib.hid hf13; have HFV := Lib.hid (HF12.out.grow hb13); clear hx hr13 hf13 hb13)
                          obtain ⟨wo2, rfl⟩ : ∃ x : World, x = w13 := ⟨_, rfl⟩
                          go_loopw [176] (fun v wr => ∃ j : Nat, j ≤ V2.length ∧ v = .int .i64 j ∧ Below wo2.heap.size wo2 wr) (fun v _ => V2.length - (intOf v).toNat)
                          case atStart => exact ⟨0, Nat.zero_le _, rfl, Below.refl _ _⟩
                          case round =>
                            obtain ⟨j, hj, rfl, hD⟩ := hrel
                            by_cases hlt : j < V2.length
                            · have hjv : j < V.length := by have := HL2.out; omega
                              obtain ⟨b6, o6, rfl, hb6', hc6⟩ := HF13.out (by omega)
                              obtain ⟨b3, o3, rfl, hb3', hc3⟩ := HFV.out (by omega)
                              have x1 := (hD.cell (p := ⟨b6, o6 + j, none⟩) hb6').trans (hc6 j hlt)
                              have x2 := (hD.cell (p := ⟨b3, o3 + j, none⟩) hb3').trans (hc3 j hjv)
                              have y1 : decide ((V.length : Int) ≤ (j : Int)) = false := decide_eq_false (by omega)
                              have y2 : decide (V.length ≤ j) = false := decide_eq_false (by omega)
                              have y3 : decide (ig V2 j < ig V j) = false := decide_eq_false (by have := HV2.out j hjv; omega)
                              clear hc6 hc3
                              go_wp2_with (go_quiet (fail))
                              clear y1 y2 y3
                              go_roundw
                              case rel => exact ⟨j + 1, by omega, by go_num, below_drewN hD _⟩
                              case measure => simp [intOf]; omega
                            · obtain rfl : j = V2.length := by omega
                              go_wp2_with fail
                              go_ret
                              exact ⟨rfl, HX.out _ (hB13.trans (hD.mono hB13.size))⟩
                        · go_wp2_with (go_at_call 12; (with_reducible refine (starts_n _ _ _ _ (setDelay L (k % L.length) ((cg L (k % L.length)).delay + (by' : Int))) A (lateBy by' N (i % N.length)) (lateBy by' G (k % G.length)) _ _ _ _ _ _ _ _ HSDL.out.symm (lateBy_len _ _ _).symm (lateBy_len _ _ _).symm (by rw [HSDL.out]; omega) (by rw [lateBy_len]; omega) (by rw [lateBy_len]; omega) HC12.out (HP.out.grow hB12) HN12.out HG12.out).mono ?_); rintro e w13 hx; obtain ⟨v13, rfl, hr13, hb13⟩ := hx.out; rw [HS2.out] at hr13; rw [HS2.out]; have hB13 := hB12.trans (hb13.mono hB12.size); obtain ⟨a13, c13, rfl, _, _, _, hf13⟩ := num_of_row hr13; have HF13 := Lib.hid hf13; have HFV := Lib.hid (HF12.out.grow hb13); clear hx hr13 hf13 hb13)
                          go_ret
                          exact ⟨rfl, HX.out _ hB13⟩
                        · go_wp2_with (go_at_call 12; (with_reducible refine (starts_n _ _ _ _ (setDelay L (k % L.length) ((cg L (k % L.length)).delay + (by' : Int))) A (lateBy by' N (i % N.length)) (lateBy by' G (k % G.length)) _ _ _ _ _ _ _ _ HSDL.out.symm (lateBy_len _ _ _).symm (lateBy_len _ _ _).symm (by rw [HSDL.out]; omega) (by rw [lateBy_len]; omega) (by rw [lateBy_len]; omega) HC12.out (HP.out.grow hB12) HN12.out HG12.out).mono ?_); rintro e w13 hx; obtain ⟨v13, rfl, hr13, hb13⟩ := hx.out; rw [HS2.out] at hr13; rw [HS2.out]; have hB13 := hB12.trans (hb13.mono hB12.size); obtain ⟨a13, c13, rfl, _, _, _, hf13⟩ := num_of_row hr13; have HF13 := Lib.hid hf13; have HFV := Lib.hid (HF12.out.grow hb13); clear hx hr13 hf13 hb13)
                          go_ret
                          exact ⟨rfl, HX.out _ hB13⟩
              · skip
                by_cases hL : L.length = 0
                · have h0 : ((L.length : Int) == 0) = true := beq_iff_eq.2 (by omega)
                  clear hL
                  go_wp2_with (go_at_call 12; (with_reducible refine (starts_n _ _ _ _ L A N (allBy by' G) _ _ _ _ _ _ _ _ rfl rfl (allBy_len _ _).symm (by omega) (by omega) (by rw [allBy_len]; omega) (HI.out.grow hB) (HP.out.grow hB) (HN.out.grow hB) hG5.out).mono ?_); rintro e w6 hx; obtain ⟨v6, rfl, hr6, hb6⟩ := hx.out; rw [HS1.out] at hr6; rw [HS1.out]; have hB6 := hB.trans (hb6.mono hB.size); obtain ⟨a6, c6, rfl, _, _, _, hf6⟩ := num_of_row hr6; have HF6 := Lib.hid hf6; have HF36 := Lib.hid (HF5.out.grow hb6); clear hx hr6 hf6 hb6 HF5 hG5)
                  go_ret
                  exact ⟨rfl, HX.out _ hB6⟩
                · have h0 : ((L.length : Int) == 0) = false := beq_eq_false_iff_ne.2 (by omega)
                  have hNpos : 0 < N.length := by have := HNL.out; omega
                  have hLpos : 0 < L.length := by omega
                  have hp : i % N.length < N.length := Nat.mod_lt _ hNpos
                  have hm : k % L.length < L.length := Nat.mod_lt _ hLpos
                  obtain ⟨n1, n2⟩ := HNB.out _ hp
                  have h9 : w.heap.size < W0.heap.size := World.block_lt_of_cell? _ _ (X0 _ (Below.refl _ _))
                  clear hL
                  go_wp2_with (go_at_call 12; (with_reducible refine (starts_n _ _ _ _ L A N (allBy by' G) _ _ _ _ _ _ _ _ rfl rfl (allBy_len _ _).symm (by omega) (by omega) (by rw [allBy_len]; omega) (HI.out.grow hB) (HP.out.grow hB) (HN.out.grow hB) hG5.out).mono ?_); rintro e w6 hx; obtain ⟨v6, rfl, hr6, hb6⟩ := hx.out; rw [HS1.out] at hr6; rw [HS1.out]; have hB6 := hB.trans (hb6.mono hB.size); obtain ⟨a6, c6, rfl, _, _, _, hf6⟩ := num_of_row hr6; have HF6 := Lib.hid hf6; have HF36 := Lib.hid (HF5.out.grow hb6); clear hx hr6 hf6 hb6 HF5 hG5)
                  have hBx : Below W0.heap.size W0 w6 := hB6
                  have HFX : Hid (Nums w6.heap.size w6 a3 V) := Lib.hid HF36.out
                  clear hB6 hB hC HF36 HF6
                  by_cases hG0 : G.length = 0
                  · have h1 : decide ((0 : Int) < (G.length : Int)) = false := decide_eq_false (by omega)
                    have h2 : decide (0 < G.length) = false := decide_eq_false (by omega)
                    have HLG : Hid (lateBy by' G 0 = G) := Lib.hid (by unfold lateBy; exact List.set_eq_of_length_le (by omega))
                    clear hG0
                    go_wp2_with (go_at_call 29; (with_reducible refine (num_clone na N nc _ (by omega) hnn (HN.out.grow hBx)).mono ?_); rintro e w7 hx; obtain ⟨v7, rfl, hr7, hb7⟩ := hx.out; obtain ⟨a7, c7, rfl, _, _, _, _⟩ := num_of_row hr7; obtain ⟨g7, rfl, hg7, hg7'⟩ := row_addr hr7 hNpos; obtain ⟨o1, o2, hn7⟩ := row_set hr7 rfl (i % N.length) hp (ig N (i % N.length) + (by' : Int)); have hB7 := hBx.trans (hb7.mono hBx.size); have hBs := hB7.setCell (p := ⟨g7, i % N.length, none⟩) (Nat.le_trans hBx.size hg7) (.int .i64 (ig N (i % N.length) + (by' : Int))); have HN7 := Lib.hid hn7; have HF7 := Lib.hid (HFX.out.grow (hb7.setCell (p := ⟨g7, i % N.length, none⟩) hg7 (.int .i64 (ig N (i % N.length) + (by' : Int))))); clear hx hr7 hb7 hn7)
                    go_wp2_with (go_at_call 29; (with_reducible refine (num_clone ga G gc _ (by omega) hgn (HG.out.grow hBs)).mono ?_); rintro e w8 hx; obtain ⟨v8, rfl, hr8, hb8⟩ := hx.out; obtain ⟨a8, c8, rfl, _, _, _, hf8⟩ := num_of_row hr8; clear o1 o2; have hB8 := hBs.trans (hb8.mono hBs.size); have HG8 : Hid (Nums w8.heap.size w8 a8 (lateBy by' G 0)) := Lib.hid (by rw [HLG.out]; exact hf8); have HN8 := Lib.hid (HN7.out.grow hb8); have HF8 := Lib.hid (HF7.out.grow hb8); have h8z : w.heap.size < w8.heap.size := Nat.lt_of_lt_of_le h9 hB8.size; have XA : ∀ o, (w8.alloc o).cell? ⟨w.heap.size, 0, none⟩ = some (.slice ca L.length cc) := fun o => X0 _ (hB8.alloc hB8.size o); clear hx hr8 hb8 hf8)
                    obtain ⟨V2, e2, hs2⟩ : ∃ V2 e2, startsP (setDelay L (k % L.length) ((cg L (k % L.length)).delay + (by' : Int))) A (lateBy by' N (i % N.length)) (lateBy by' G 0) = (V2, e2) := ⟨_, _, rfl⟩
                    have HS2 := Lib.hid hs2
                    have hcase2 := some_later (Int.natCast_nonneg by') (k % L.length) (i % N.length) 0 hm HSP.out hs2
                    clear hs2
                    go_wp2_with (go_loud (go_at_call 30; (with_reducible refine (cue_clone ca L cc _ (by omega) hcn (HI.out.grow (hB8.alloc hB8.size _))).mono ?_); rintro e w10 hx; obtain ⟨v10, rfl, hr10, hb10⟩ := hx.out; obtain ⟨a10, c10, rfl, _, _, _, _⟩ := cue_of_row hr10; obtain ⟨g10, rfl, hg10, hg10'⟩ := row_addr hr10 hLpos; have hg10s : w8.heap.size < g10 := Nat.lt_of_lt_of_le (by simp) hg10; have e0 : w10.cell? ⟨w8.heap.size, 0, none⟩ = some (.slice ca L.length cc) := (by simpa using (box2 hb10).1); have e1 : w10.cell? ⟨w8.heap.size, 1, none⟩ = some (.slice pa A.length pc) := (by simpa using (box2 hb10).2); have f0 : w10.frozen? ⟨w8.heap.size, 0, none⟩ = false := (by have h : w10.frozen? ⟨w8.heap.size, 0, none⟩ = false := (hb10.frozen (p := ⟨w8.heap.size, 0, none⟩) (by simp)).trans (new_free _ _ _ _); simpa using h); have hb8w : Below w8.heap.size w8 w10 := mono_in _ hb10))
                    have hb11 : Below w8.heap.size w8 (w10.setCell ⟨w8.heap.size, 0, none⟩ (.slice (some ⟨g10, 0, none⟩) L.length c10)) := hb8w.setCell (by simp) _
                    have z0 : (w10.setCell ⟨w8.heap.size, 0, none⟩ (.slice (some ⟨g10, 0, none⟩) L.length c10)).cell? ⟨w8.heap.size, 0, none⟩ = some (.slice (some ⟨g10, 0, none⟩) L.length c10) := World.cell?_setCell_same _ _ _ e0
                    have z1 : (w10.setCell ⟨w8.heap.size, 0, none⟩ (.slice (some ⟨g10, 0, none⟩) L.length c10)).cell? ⟨w8.heap.size, 1, none⟩ = some (.slice pa A.length pc) := (World.cell?_setCell_other _ _ _ _ (fun x => absurd (congrArg Addr.off x) (by simp))).trans e1
                    have hr11 := ownsRow_setCell_below hr10 (a := ⟨w8.heap.size, 0, none⟩) (by simp) (.slice (some ⟨g10, 0, none⟩) L.length c10)
                    have z3 : (w10.setCell ⟨w8.heap.size, 0, none⟩ (.slice (some ⟨g10, 0, none⟩) L.length c10)).cell? ⟨g10, k % L.length * 7 + 3, none⟩ = some (.int .i64 (cg L (k % L.length)).delay) := by rw [hr11.cellAt _ (by omega)]; exact (cflat_at L _ hm).2.2.2.1
                    have z4 := hr11.frozenAt (k % L.length * 7 + 3)
                    obtain ⟨a11, c11, e11, _, _, _, hc11⟩ := cue_of_row hr11
                    cases e11
                    have hz8 : w8.heap.size < (w10.setCell ⟨w8.heap.size, 0, none⟩ (.slice (some ⟨g10, 0, none⟩) L.length c10)).heap.size := World.block_lt_of_cell? _ _ z0
                    have hg11 : g10 < (w10.setCell ⟨w8.heap.size, 0, none⟩ (.slice (some ⟨g10, 0, none⟩) L.length c10)).heap.size := World.block_lt_of_cell? _ _ z3
                    clear e0 e1 f0 hb8w hr10 hb10 hr11 hg10 hg10'
                    generalize w10.setCell ⟨w8.heap.size, 0, none⟩ (.slice (some ⟨g10, 0, none⟩) L.length c10) = w11 at *
                    obtain ⟨d1, d2⟩ := HDB.out _ hm
                    have q3 : ((k : Int)).tmod (L.length : Int) = ((k % L.length : Nat) : Int) := by rw [Int.tmod_eq_emod_of_nonneg (by omega)]; simp
                    have q5 : ¬ L = [] := fun e => by rw [e] at hLpos; simp at hLpos
                    have q7 : ¬ (L.length : Int) = 0 := by omega
                    have q8 : IntKind.i64.wrap (((k % L.length : Nat)) : Int) = ((k % L.length : Nat) : Int) := IntWalk.i64_in _ (by omega)
                    have q9 : IntKind.i64.wrap ((cg L (k % L.length)).delay + (by' : Int)) = (cg L (k % L.length)).delay + (by' : Int) := IntWalk.i64_in _ (by omega)
                    have q10 : IntKind.i64.wrap (by' : Int) = (by' : Int) := IntWalk.i64_in _ (by omega)
                    have q11 : IntKind.i64.wrap (k : Int) = (k : Int) := IntWalk.i64_in _ (by omega)
                    go_region
                    clear q3 q5 q7 q8 q9 q10 q11
                    go_wp2_with fail
                    have SDL : (setDelay L (k % L.length) ((cg L (k % L.length)).delay + (by' : Int))).length = L.length := by simp [setDelay]
                    have hb12 : Below w8.heap.size w8 ((w11.setCell ⟨g10, k % L.length * 7 + 3, none⟩ (.int .i64 ((cg L (k % L.length)).delay + (by' : Int)))).drew) := (hb11.setCell (p := ⟨g10, k % L.length * 7 + 3, none⟩) (show w8.heap.size ≤ g10 by first | omega | (simp; omega)) _).drew
                    have HC12 : Hid (Cues ((w11.setCell ⟨g10, k % L.length * 7 + 3, none⟩ (.int .i64 ((cg L (k % L.length)).delay + (by' : Int)))).drew).heap.size ((w11.setCell ⟨g10, k % L.length * 7 + 3, none⟩ (.int .i64 ((cg L (k % L.length)).delay + (by' : Int)))).drew) (some ⟨g10, 0, none⟩) (setDelay L (k % L.length) ((cg L (k % L.length)).delay + (by' : Int)))) := Lib.hid (((cues_delay hc11 hm).below ((Below.refl _ _).drew)).mono (by simp))
                    have hB12 : Below W0.heap.size W0 ((w11.setCell ⟨g10, k % L.length * 7 + 3, none⟩ (.int .i64 ((cg L (k % L.length)).delay + (by' : Int)))).drew) := hB8.trans (hb12.mono hB8.size)
                    have HN12 := Lib.hid (HN8.out.grow hb12)
                    have HG12 := Lib.hid (HG8.out.grow hb12)
                    have HF12 := Lib.hid (HF8.out.grow hb12)
                    have HSDL := Lib.hid SDL
                    clear hb12 hb11 hc11 HN8 HG8 HF8 z0 z1 z3 z4 hB8 XA hz8 hg11 SDL
                    generalize (w11.setCell ⟨g10, k % L.length * 7 + 3, none⟩ (.int .i64 ((cg L (k % L.length)).delay + (by' : Int)))).drew = w12 at *
                    rcases hcase2 with ⟨rfl, hl, hv⟩ | ⟨rfl, rfl⟩ | ⟨rfl, rfl⟩
                    · have HV2 := Lib.hid hv
                      have HL2 := Lib.hid hl
                      have hv2le : V2.length ≤ 63 := by omega
                      have y9 : ((V2.length : Int) == (V.length : Int)) = true := beq_iff_eq.2 (by omega)
                      clear hl hv
                      go_wp2_with (go_at_call 12; (with_reducible refine (starts_n _ _ _ _ (setDelay L (k % L.length) ((cg L (k % L.length)).delay + (by' : Int))) A (lateBy by' N (i % N.length)) (lateBy by' G 0) _ _ _ _ _ _ _ _ HSDL.out.symm (lateBy_len _ _ _).symm (lateBy_len _ _ _).symm (by rw [HSDL.out]; omega) (by rw [lateBy_len]; omega) (by rw [lateBy_len]; omega) HC12.out (HP.out.grow hB12) HN12.out HG12.out).mono ?_); rintro e w13 hx; obtain ⟨v13, rfl, hr13, hb13⟩ := hx.out; rw [HS2.out] at hr13; rw [HS2.out]; have hB13 := hB12.trans (hb13.mono hB12.size); obtain ⟨a13, c13, rfl, _, _, _, hf13⟩ := num_of_row hr13; have HF13 := Lib.hid hf13; have HFV := Lib.hid (HF12.out.grow hb13); clear hx hr13 hf13 hb13)
                      obtain ⟨wo2, rfl⟩ : ∃ x : World, x = w13 := ⟨_, rfl⟩
                      go_loopw [176] (fun v wr => ∃ j : Nat, j ≤ V2.length ∧ v = .int .i64 j ∧ Below wo2.heap.size wo2 wr) (fun v _ => V2.length - (intOf v).toNat)
                      case atStart => exact ⟨0, Nat.zero_le _, rfl, Below.refl _ _⟩
                      case round =>
                        obtain ⟨j, hj, rfl, hD⟩ := hrel
                        by_cases hlt : j < V2.length
                        · have hjv : j < V.length := by have := HL2.out; omega
                          obtain ⟨b6, o6, rfl, hb6', hc6⟩ := HF13.out (by omega)
                          obtain ⟨b3, o3, rfl, hb3', hc3⟩ := HFV.out (by omega)
                          have x1 := (hD.cell (p := ⟨b6, o6 + j, none⟩) hb6').trans (hc6 j hlt)
                          have x2 := (hD.cell (p := ⟨b3, o3 + j, none⟩) hb3').trans (hc3 j hjv)
                          have y1 : decide ((V.length : Int) ≤ (j : Int)) = false := decide_eq_false (by omega)
                          have y2 : decide (V.length ≤ j) = false := decide_eq_false (by omega)
                          have y3 : decide (ig V2 j < ig V j) = false := decide_eq_false (by have := HV2.out j hjv; omega)
                          clear hc6 hc3
                          go_wp2_with (go_quiet (fail))
                          clear y1 y2 y3
                          go_roundw
                          case rel => exact ⟨j + 1, by omega, by go_num, below_drewN hD _⟩
                          case measure => simp [intOf]; omega
                        · obtain rfl : j = V2.length := by omega
                          go_wp2_with fail
                          go_ret
                          exact ⟨rfl, HX.out _ (hB13.trans (hD.mono hB13.size))⟩
                    · go_wp2_with (go_at_call 12; (with_reducible refine (starts_n _ _ _ _ (setDelay L (k % L.length) ((cg L (k % L.length)).delay + (by' : Int))) A (lateBy by' N (i % N.length)) (lateBy by' G 0) _ _ _ _ _ _ _ _ HSDL.out.symm (lateBy_len _ _ _).symm (lateBy_len _ _ _).symm (by rw [HSDL.out]; omega) (by rw [lateBy_len]; omega) (by rw [lateBy_len]; omega) HC12.out (HP.out.grow hB12) HN12.out HG12.out).mono ?_); rintro e w13 hx; obtain ⟨v13, rfl, hr13, hb13⟩ := hx.out; rw [HS2.out] at hr13; rw [HS2.out]; have hB13 := hB12.trans (hb13.mono hB12.size); obtain ⟨a13, c13, rfl, _, _, _, hf13⟩ := num_of_row hr13; have HF13 := Lib.hid hf13; have HFV := Lib.hid (HF12.out.grow hb13); clear hx hr13 hf13 hb13)
                      go_ret
                      exact ⟨rfl, HX.out _ hB13⟩
                    · go_wp2_with (go_at_call 12; (with_reducible refine (starts_n _ _ _ _ (setDelay L (k % L.length) ((cg L (k % L.length)).delay + (by' : Int))) A (lateBy by' N (i % N.length)) (lateBy by' G 0) _ _ _ _ _ _ _ _ HSDL.out.symm (lateBy_len _ _ _).symm (lateBy_len _ _ _).symm (by rw [HSDL.out]; omega) (by rw [lateBy_len]; omega) (by rw [lateBy_len]; omega) HC12.out (HP.out.grow hB12) HN12.out HG12.out).mono ?_); rintro e w13 hx; obtain ⟨v13, rfl, hr13, hb13⟩ := hx.out; rw [HS2.out] at hr13; rw [HS2.out]; have hB13 := hB12.trans (hb13.mono hB12.size); obtain ⟨a13, c13, rfl, _, _, _, hf13⟩ := num_of_row hr13; have HF13 := Lib.hid hf13; have HFV := Lib.hid (HF12.out.grow hb13); clear hx hr13 hf13 hb13)
                      go_ret
                      exact ⟨rfl, HX.out _ hB13⟩
                  · have h1 : decide ((0 : Int) < (G.length : Int)) = true := decide_eq_true (by omega)
                    have h2 : decide (0 < G.length) = true := decide_eq_true (by omega)
                    have hq : k % G.length < G.length := Nat.mod_lt _ (by omega)
                    obtain ⟨k1, k2⟩ := HGB.out _ hq
                    clear hG0
                    go_wp2_with (go_at_call 29; (with_reducible refine (num_clone na N nc _ (by omega) hnn (HN.out.grow hBx)).mono ?_); rintro e w7 hx; obtain ⟨v7, rfl, hr7, hb7⟩ := hx.out; obtain ⟨a7, c7, rfl, _, _, _, _⟩ := num_of_row hr7; obtain ⟨g7, rfl, hg7, hg7'⟩ := row_addr hr7 hNpos; obtain ⟨o1, o2, hn7⟩ := row_set hr7 rfl (i % N.length) hp (ig N (i % N.length) + (by' : Int)); have hB7 := hBx.trans (hb7.mono hBx.size); have hBs := hB7.setCell (p := ⟨g7, i % N.length, none⟩) (Nat.le_trans hBx.size hg7) (.int .i64 (ig N (i % N.length) + (by' : Int))); have HN7 := Lib.hid hn7; have HF7 := Lib.hid (HFX.out.grow (hb7.setCell (p := ⟨g7, i % N.length, none⟩) hg7 (.int .i64 (ig N (i % N.length) + (by' : Int))))); clear hx hr7 hb7 hn7)
                    go_wp2_with (go_at_call 29; (with_reducible refine (num_clone ga G gc _ (by omega) hgn (HG.out.grow hBs)).mono ?_); rintro e w8 hx; obtain ⟨v8, rfl, hr8, hb8⟩ := hx.out; obtain ⟨a8, c8, rfl, _, _, _, hf8⟩ := num_of_row hr8; clear o1 o2; obtain ⟨g8, rfl, hg8, hg8'⟩ := row_addr hr8 (by omega); obtain ⟨p1, p2, hn8⟩ := row_set hr8 rfl (k % G.length) hq (ig G (k % G.length) + (by' : Int)); have hb8s := hb8.setCell (p := ⟨g8, k % G.length, none⟩) hg8 (.int .i64 (ig G (k % G.length) + (by' : Int))); have hB8 := hBs.trans (hb8s.mono hBs.size); have HG8 := Lib.hid hn8; have HN8 := Lib.hid (HN7.out.grow hb8s); have HF8 := Lib.hid (HF7.out.grow hb8s); have h8z : w.heap.size < w8.heap.size := Nat.lt_of_lt_of_le h9 (by have := hB8.size; simpa using this); have XA : ∀ o, ((w8.setCell ⟨g8, k % G.length, none⟩ (.int .i64 (ig G (k % G.length) + (by' : Int)))).alloc o).cell? ⟨w.heap.size, 0, none⟩ = some (.slice ca L.length cc) := fun o => X0 _ (hB8.alloc hB8.size o); clear hx hr8 hb8 hf8 hn8 hb8s)
                    obtain ⟨V2, e2, hs2⟩ : ∃ V2 e2, startsP (setDelay L (k % L.length) ((cg L (k % L.length)).delay + (by' : Int))) A (lateBy by' N (i % N.length)) (lateBy by' G (k % G.length)) = (V2, e2) := ⟨_, _, rfl⟩
                    have HS2 := Lib.hid hs2
                    have hcase2 := some_later (Int.natCast_nonneg by') (k % L.length) (i % N.length) (k % G.length) hm HSP.out hs2
                    clear hs2
                    go_wp2_with (go_loud (go_at_call 30; (with_reducible refine (cue_clone ca L cc _ (by omega) hcn (HI.out.grow (hB8.alloc hB8.size _))).mono ?_); rintro e w10 hx; obtain ⟨v10, rfl, hr10, hb10⟩ := hx.out; obtain ⟨a10, c10, rfl, _, _, _, _⟩ := cue_of_row hr10; obtain ⟨g10, rfl, hg10, hg10'⟩ := row_addr hr10 hLpos; have hg10s : w8.heap.size < g10 := Nat.lt_of_lt_of_le (by simp) hg10; have e0 : w10.cell? ⟨w8.heap.size, 0, none⟩ = some (.slice ca L.length cc) := (by simpa using (box2 hb10).1); have e1 : w10.cell? ⟨w8.heap.size, 1, none⟩ = some (.slice pa A.length pc) := (by simpa using (box2 hb10).2); have f0 : w10.frozen? ⟨w8.heap.size, 0, none⟩ = false := (by have h : w10.frozen? ⟨(w8.setCell ⟨g8, k % G.length, none⟩ (.int .i64 (ig G (k % G.length) + (by' : Int)))).heap.size, 0, none⟩ = false := (hb10.frozen (p := ⟨(w8.setCell ⟨g8, k % G.length, none⟩ (.int .i64 (ig G (k % G.length) + (by' : Int)))).heap.size, 0, none⟩) (by simp)).trans (new_free _ _ _ _); simpa using h); have hb8w : Below (w8.setCell ⟨g8, k % G.length, none⟩ (.int .i64 (ig G (k % G.length) + (by' : Int)))).heap.size (w8.setCell ⟨g8, k % G.length, none⟩ (.int .i64 (ig G (k % G.length) + (by' : Int)))) w10 := mono_in _ hb10))
                    have hb11 : Below (w8.setCell ⟨g8, k % G.length, none⟩ (.int .i64 (ig G (k % G.length) + (by' : Int)))).heap.size (w8.setCell ⟨g8, k % G.length, none⟩ (.int .i64 (ig G (k % G.length) + (by' : Int)))) (w10.setCell ⟨w8.heap.size, 0, none⟩ (.slice (some ⟨g10, 0, none⟩) L.length c10)) := hb8w.setCell (by simp) _
                    have z0 : (w10.setCell ⟨w8.heap.size, 0, none⟩ (.slice (some ⟨g10, 0, none⟩) L.length c10)).cell? ⟨w8.heap.size, 0, none⟩ = some (.slice (some ⟨g10, 0, none⟩) L.length c10) := World.cell?_setCell_same _ _ _ e0
                    have z1 : (w10.setCell ⟨w8.heap.size, 0, none⟩ (.slice (some ⟨g10, 0, none⟩) L.length c10)).cell? ⟨w8.heap.size, 1, none⟩ = some (.slice pa A.length pc) := (World.cell?_setCell_other _ _ _ _ (fun x => absurd (congrArg Addr.off x) (by simp))).trans e1
                    have hr11 := ownsRow_setCell_below hr10 (a := ⟨w8.heap.size, 0, none⟩) (by simp) (.slice (some ⟨g10, 0, none⟩) L.length c10)
                    have z3 : (w10.setCell ⟨w8.heap.size, 0, none⟩ (.slice (some ⟨g10, 0, none⟩) L.length c10)).cell? ⟨g10, k % L.length * 7 + 3, none⟩ = some (.int .i64 (cg L (k % L.length)).delay) := by rw [hr11.cellAt _ (by omega)]; exact (cflat_at L _ hm).2.2.2.1
                    have z4 := hr11.frozenAt (k % L.length * 7 + 3)
                    obtain ⟨a11, c11, e11, _, _, _, hc11⟩ := cue_of_row hr11
                    cases e11
                    have hz8 : w8.heap.size < (w10.setCell ⟨w8.heap.size, 0, none⟩ (.slice (some ⟨g10, 0, none⟩) L.length c10)).heap.size := World.block_lt_of_cell? _ _ z0
                    have hg11 : g10 < (w10.setCell ⟨w8.heap.size, 0, none⟩ (.slice (some ⟨g10, 0, none⟩) L.length c10)).heap.size := World.block_lt_of_cell? _ _ z3
                    clear e0 e1 f0 hb8w hr10 hb10 hr11 hg10 hg10'
                    generalize w10.setCell ⟨w8.heap.size, 0, none⟩ (.slice (some ⟨g10, 0, none⟩) L.length c10) = w11 at *
                    obtain ⟨d1, d2⟩ := HDB.out _ hm
                    have q3 : ((k : Int)).tmod (L.length : Int) = ((k % L.length : Nat) : Int) := by rw [Int.tmod_eq_emod_of_nonneg (by omega)]; simp
                    have q5 : ¬ L = [] := fun e => by rw [e] at hLpos; simp at hLpos
                    have q7 : ¬ (L.length : Int) = 0 := by omega
                    have q8 : IntKind.i64.wrap (((k % L.length : Nat)) : Int) = ((k % L.length : Nat) : Int) := IntWalk.i64_in _ (by omega)
                    have q9 : IntKind.i64.wrap ((cg L (k % L.length)).delay + (by' : Int)) = (cg L (k % L.length)).delay + (by' : Int) := IntWalk.i64_in _ (by omega)
                    have q10 : IntKind.i64.wrap (by' : Int) = (by' : Int) := IntWalk.i64_in _ (by omega)
                    have q11 : IntKind.i64.wrap (k : Int) = (k : Int) := IntWalk.i64_in _ (by omega)
                    go_region
                    clear q3 q5 q7 q8 q9 q10 q11
                    go_wp2_with fail
                    have SDL : (setDelay L (k % L.length) ((cg L (k % L.length)).delay + (by' : Int))).length = L.length := by simp [setDelay]
                    have hb12 : Below (w8.setCell ⟨g8, k % G.length, none⟩ (.int .i64 (ig G (k % G.length) + (by' : Int)))).heap.size (w8.setCell ⟨g8, k % G.length, none⟩ (.int .i64 (ig G (k % G.length) + (by' : Int)))) ((w11.setCell ⟨g10, k % L.length * 7 + 3, none⟩ (.int .i64 ((cg L (k % L.length)).delay + (by' : Int)))).drew) := (hb11.setCell (p := ⟨g10, k % L.length * 7 + 3, none⟩) (show (w8.setCell ⟨g8, k % G.length, none⟩ (.int .i64 (ig G (k % G.length) + (by' : Int)))).heap.size ≤ g10 by first | omega | (simp; omega)) _).drew
                    have HC12 : Hid (Cues ((w11.setCell ⟨g10, k % L.length * 7 + 3, none⟩ (.int .i64 ((cg L (k % L.length)).delay + (by' : Int)))).drew).heap.size ((w11.setCell ⟨g10, k % L.length * 7 + 3, none⟩ (.int .i64 ((cg L (k % L.length)).delay + (by' : Int)))).drew) (some ⟨g10, 0, none⟩) (setDelay L (k % L.length) ((cg L (k % L.length)).delay + (by' : Int)))) := Lib.hid (((cues_delay hc11 hm).below ((Below.refl _ _).drew)).mono (by simp))
                    have hB12 : Below W0.heap.size W0 ((w11.setCell ⟨g10, k % L.length * 7 + 3, none⟩ (.int .i64 ((cg L (k % L.length)).delay + (by' : Int)))).drew) := hB8.trans (hb12.mono hB8.size)
                    have HN12 := Lib.hid (HN8.out.grow hb12)
                    have HG12 := Lib.hid (HG8.out.grow hb12)
                    have HF12 := Lib.hid (HF8.out.grow hb12)
                    have HSDL := Lib.hid SDL
                    clear hb12 hb11 hc11 HN8 HG8 HF8 z0 z1 z3 z4 hB8 XA hz8 hg11 SDL
                    generalize (w11.setCell ⟨g10, k % L.length * 7 + 3, none⟩ (.int .i64 ((cg L (k % L.length)).delay + (by' : Int)))).drew = w12 at *
                    rcases hcase2 with ⟨rfl, hl, hv⟩ | ⟨rfl, rfl⟩ | ⟨rfl, rfl⟩
                    · have HV2 := Lib.hid hv
                      have HL2 := Lib.hid hl
                      have hv2le : V2.length ≤ 63 := by omega
                      have y9 : ((V2.length : Int) == (V.length : Int)) = true := beq_iff_eq.2 (by omega)
                      clear hl hv
                      go_wp2_with (go_at_call 12; (with_reducible refine (starts_n _ _ _ _ (setDelay L (k % L.length) ((cg L (k % L.length)).delay + (by' : Int))) A (lateBy by' N (i % N.length)) (lateBy by' G (k % G.length)) _ _ _ _ _ _ _ _ HSDL.out.symm (lateBy_len _ _ _).symm (lateBy_len _ _ _).symm (by rw [HSDL.out]; omega) (by rw [lateBy_len]; omega) (by rw [lateBy_len]; omega) HC12.out (HP.out.grow hB12) HN12.out HG12.out).mono ?_); rintro e w13 hx; obtain ⟨v13, rfl, hr13, hb13⟩ := hx.out; rw [HS2.out] at hr13; rw [HS2.out]; have hB13 := hB12.trans (hb13.mono hB12.size); obtain ⟨a13, c13, rfl, _, _, _, hf13⟩ := num_of_row hr13; have HF13 := Lib.hid hf13; have HFV := Lib.hid (HF12.out.grow hb13); clear hx hr13 hf13 hb13)
                      obtain ⟨wo2, rfl⟩ : ∃ x : World, x = w13 := ⟨_, rfl⟩
                      go_loopw [176] (fun v wr => ∃ j : Nat, j ≤ V2.length ∧ v = .int .i64 j ∧ Below wo2.heap.size wo2 wr) (fun v _ => V2.length - (intOf v).toNat)
                      case atStart => exact ⟨0, Nat.zero_le _, rfl, Below.refl _ _⟩
                      case round =>
                        obtain ⟨j, hj, rfl, hD⟩ := hrel
                        by_cases hlt : j < V2.length
                        · have hjv : j < V.length := by have := HL2.out; omega
                          obtain ⟨b6, o6, rfl, hb6', hc6⟩ := HF13.out (by omega)
                          obtain ⟨b3, o3, rfl, hb3', hc3⟩ := HFV.out (by omega)
                          have x1 := (hD.cell (p := ⟨b6, o6 + j, none⟩) hb6').trans (hc6 j hlt)
                          have x2 := (hD.cell (p := ⟨b3, o3 + j, none⟩) hb3').trans (hc3 j hjv)
                          have y1 : decide ((V.length : Int) ≤ (j : Int)) = false := decide_eq_false (by omega)
                          have y2 : decide (V.length ≤ j) = false := decide_eq_false (by omega)
                          have y3 : decide (ig V2 j < ig V j) = false := decide_eq_false (by have := HV2.out j hjv; omega)
                          clear hc6 hc3
                          go_wp2_with (go_quiet (fail))
                          clear y1 y2 y3
                          go_roundw
                          case rel => exact ⟨j + 1, by omega, by go_num, below_drewN hD _⟩
                          case measure => simp [intOf]; omega
                        · obtain rfl : j = V2.length := by omega
                          go_wp2_with fail
                          go_ret
                          exact ⟨rfl, HX.out _ (hB13.trans (hD.mono hB13.size))⟩
                    · go_wp2_with (go_at_call 12; (with_reducible refine (starts_n _ _ _ _ (setDelay L (k % L.length) ((cg L (k % L.length)).delay + (by' : Int))) A (lateBy by' N (i % N.length)) (lateBy by' G (k % G.length)) _ _ _ _ _ _ _ _ HSDL.out.symm (lateBy_len _ _ _).symm (lateBy_len _ _ _).symm (by rw [HSDL.out]; omega) (by rw [lateBy_len]; omega) (by rw [lateBy_len]; omega) HC12.out (HP.out.grow hB12) HN12.out HG12.out).mono ?_); rintro e w13 hx; obtain ⟨v13, rfl, hr13, hb13⟩ := hx.out; rw [HS2.out] at hr13; rw [HS2.out]; have hB13 := hB12.trans (hb13.mono hB12.size); obtain ⟨a13, c13, rfl, _, _, _, hf13⟩ := num_of_row hr13; have HF13 := Lib.hid hf13; have HFV := Lib.hid (HF12.out.grow hb13); clear hx hr13 hf13 hb13)
                      go_ret
                      exact ⟨rfl, HX.out _ hB13⟩
                    · go_wp2_with (go_at_call 12; (with_reducible refine (starts_n _ _ _ _ (setDelay L (k % L.length) ((cg L (k % L.length)).delay + (by' : Int))) A (lateBy by' N (i % N.length)) (lateBy by' G (k % G.length)) _ _ _ _ _ _ _ _ HSDL.out.symm (lateBy_len _ _ _).symm (lateBy_len _ _ _).symm (by rw [HSDL.out]; omega) (by rw [lateBy_len]; omega) (by rw [lateBy_len]; omega) HC12.out (HP.out.grow hB12) HN12.out HG12.out).mono ?_); rintro e w13 hx; obtain ⟨v13, rfl, hr13, hb13⟩ := hx.out; rw [HS2.out] at hr13; rw [HS2.out]; have hB13 := hB12.trans (hb13.mono hB12.size); obtain ⟨a13, c13, rfl, _, _, _, hf13⟩ := num_of_row hr13; have HF13 := Lib.hid hf13; have HFV := Lib.hid (HF12.out.grow hb13); clear hx hr13 hf13 hb13)
                      go_ret
                      exact ⟨rfl, HX.out _ hB13⟩
        · have m1 : (ec != 0) = true := bne_iff_ne.2 he
          obtain rfl := starts_bad hsp he
          clear hsp he
          go_enter Try.func6, Try.ntmps6
          go_wp2_with fail
          generalize (w.alloc (.cells #[.slice ca L.length cc, .slice pa A.length pc] 25)) = W0 at *
          go_wp2_with (first
            | (go_at_call 10; (with_reducible refine (awake_any _).mono ?_); rintro e w1 ⟨rfl, hB1⟩)
            | (go_at_call 11; (with_reducible refine (large_any _ _ L A _ _ _ (HI.out.grow hB1) (HP.out.grow hB1)).mono ?_); rintro e w2 ⟨rfl, hb2⟩; rw [HLB.out]; have hB2 := hB1.trans (hb2.mono hB1.size); clear hb2)
            | (go_at_call 12; (with_reducible refine (starts_any _ _ _ _ L A N G _ _ _ _ _ (by omega) (by omega) (by omega) (HI.out.grow hB2) (HP.out.grow hB2) (HN.out.grow hB2) (HG.out.grow hB2)).mono ?_); rintro e w3 hx; obtain ⟨v3, rfl, hr3, hb3⟩ := hx.out; rw [HSP.out] at hr3; rw [HSP.out]; have hB3 := hB2.trans (hb3.mono hB2.size); obtain ⟨a3, c3, rfl, _, _, _, hf3⟩ := num_of_row hr3; have HF3 := Lib.hid hf3; clear hx hr3 hf3 hb3))
          go_ret
          exact ⟨rfl, HX.out _ hB3⟩
  · have HLB := Lib.hid hlb
    clear hlb
    go_enter Try.func6, Try.ntmps6
    go_wp2_with fail
    generalize (w.alloc (.cells #[.slice ca L.length cc, .slice pa A.length pc] 25)) = W0 at *
    go_wp2_with (first
      | (go_at_call 10; (with_reducible refine (awake_any _).mono ?_); rintro e w1 ⟨rfl, hB1⟩)
      | (go_at_call 11; (with_reducible refine (large_any _ _ L A _ _ _ (HI.out.grow hB1) (HP.out.grow hB1)).mono ?_); rintro e w2 ⟨rfl, hb2⟩; rw [HLB.out]; have hB2 := hB1.trans (hb2.mono hB1.size); clear hb2))
    go_ret
    exact ⟨rfl, HX.out _ hB2⟩
theorem later_int (ca pa na ga : Option Addr) (L : List CueR) (A : List (ByteArray × ByteArray)) (N G : List Int) (b i k : Int) (cc pc nc gc : Nat) (w : World) (hb : 0 ≤ b ∧ b ≤ 65535) (hi : 0 ≤ i ∧ i ≤ 255) (hk : 0 ≤ k ∧ k ≤ 255) (hcn : ca = none → cc = 0) (hnn : na = none → nc = 0) (hgn : ga = none → gc = 0) (hI : Cues w.heap.size w ca L) (hP : Pairs w.heap.size w pa A) (hN : Nums w.heap.size w na N) (hG : Nums w.heap.size w ga G) :
    Calls Try.prog 6 #[.agg #[.slice ca L.length cc, .slice pa A.length pc], .slice na N.length nc, .slice ga G.length gc, .int .u16 b, .int .u8 i, .int .u8 k] w fun e w' => e = .returned (.bool true) ∧ Below w.heap.size w w' := by
  obtain ⟨b, rfl⟩ := Int.eq_ofNat_of_zero_le hb.1
  obtain ⟨i, rfl⟩ := Int.eq_ofNat_of_zero_le hi.1
  obtain ⟨k, rfl⟩ := Int.eq_ofNat_of_zero_le hk.1
  exact later_law ca pa na ga L A N G b i k cc pc nc gc w (by omega) (by omega) (by omega) hcn hnn hgn hI hP hN hG
end Go.Proofs.Ytapjhjpibefooaa
