/-
  THE WALK of order (package links).
-/
import Derived.Test.YtapjhjpibefooaaChain
namespace Go.Proofs.Ytapjhjpibefooaa
open Go.RowKit Go.Shelf

theorem bit_info : (Try.prog.info? 4).map (fun i => (i.zero, i.size, i.bytes)) = some (some (.bool false), 1, 1) := by kernel_rfl
theorem made_false (n : Nat) : (madeCells (Value.bool false).cells (n * 1)).toList = bflat (doneL n []) := by
  rw [doneL_nil, Nat.mul_one]
  apply List.ext_getElem?
  intro j
  by_cases hj : j < n
  · simp [madeCells, Value.cells, hj, Nat.mod_one]
  · simp [madeCells, Value.cells, hj]
theorem bit_at {w : World} {base g n cap : Nat} {out : List Int} (h : w.ownsRow base 4 1 (.slice (some ⟨g, 0, none⟩) n cap) n (bflat (doneL n out))) (i : Nat) (hi : i < n) : w.cell? ⟨g, i, none⟩ = some (.bool (decide ((i : Int) ∈ out))) := by
  rw [h.cellAt i (by omega), bflat_at _ _ (by rw [doneL_len]; exact hi), doneL_at n out i hi]
theorem ready_in {hs out : List Int} {j : Nat} (h : (j : Int) ∈ out) : readyB hs out j = false := by unfold readyB; rw [decide_eq_true h]; rfl
theorem ready_neg {hs out : List Int} {j : Nat} (h : (j : Int) ∉ out) (h2 : ig hs j < 0) : readyB hs out j = true := by unfold readyB; rw [decide_eq_false h, decide_eq_true h2]; rfl
theorem ready_done {hs out : List Int} {j m : Nat} (h : (j : Int) ∉ out) (h2 : ig hs j = m) (h3 : (m : Int) ∈ out) : readyB hs out j = true := by unfold readyB; rw [decide_eq_false h, h2, decide_eq_true h3, Bool.or_true]; rfl
theorem ready_no {hs out : List Int} {j m : Nat} (h2 : ig hs j = m) (h3 : (m : Int) ∉ out) : readyB hs out j = false := by unfold readyB; rw [h2, decide_eq_false h3, decide_eq_false (show ¬ (m : Int) < 0 by omega)]; simp

set_option maxRecDepth 100000 in
set_option maxHeartbeats 8000000 in
theorem order_any (ca pa : Option Addr) (L : List CueR) (A : List (ByteArray × ByteArray)) (cc pc : Nat) (w : World) (hlen : L.length ≤ 1000) (hI : Cues w.heap.size w ca L) :
    Calls Try.prog 52 #[.agg #[.slice ca L.length cc, .slice pa A.length pc]] w fun e w' => Hid (∃ v, e = .returned v ∧ w'.ownsRow w.heap.size 3 1 v (ordP (hangs L)).length (nflat (ordP (hangs L))) ∧ Below w.heap.size w w') := by
  have hb0 : Below w.heap.size w (w.alloc (.cells #[.slice ca L.length cc, .slice pa A.length pc] 25)) := below_new w _
  have HI := Lib.hid (hI.grow hb0); clear hI
  have HM : Hid (∀ wr, Below (w.alloc (.cells #[.slice ca L.length cc, .slice pa A.length pc] 25)).heap.size (w.alloc (.cells #[.slice ca L.length cc, .slice pa A.length pc] 25)) wr → Below w.heap.size w wr) := Lib.hid fun wr h => mono_in _ h
  have hz0 : w.heap.size ≤ (w.alloc (.cells #[.slice ca L.length cc, .slice pa A.length pc] 25)).heap.size := hb0.size
  obtain ⟨i0, hi, hz1, hz2, hz3⟩ := info_parts bit_info
  obtain ⟨hs, HH⟩ : ∃ hs, Hid (hangs L = hs) := ⟨_, Lib.hid rfl⟩
  have HK : Hid (HangOK hs) := Lib.hid (by rw [← HH.out]; exact hang_ok L)
  have hhl : hs.length ≤ 1000 := by rw [← HH.out, hangs_len]; exact hlen
  clear hb0
  go_enter Try.func52, Try.ntmps52
  go_wp2_with (first
    | (go_at_call 55; (with_reducible refine (before_any _ _ L A _ _ _ (by omega) HI.out).mono ?_); rintro e w1 hx; obtain ⟨v1, rfl, hr1, hb1⟩ := hx.out; rw [HH.out] at hr1; obtain ⟨a1, c1, rfl, _, _, _, hn1⟩ := num_of_row hr1; have HN1 := Lib.hid hn1; clear hx hr1 hn1)
    | (at_make; refine wpList_make_full _ rfl _ _ 86 rfl w1.heap.size 4 i0 (.bool false) 1 Try.underlying86 hi hz1 hz2 _ _ _ _ (hs).length rfl rfl rfl rfl (by rw [hz3]; omega) (by unfold maxLen; omega) (Nat.le_refl _) ?_; intro w2 hown2 hg2; have HD2 := Lib.hid (show w2.ownsRow w1.heap.size 4 1 (.slice (some ⟨w1.heap.size, 0, none⟩) (hs).length (hs).length) (hs).length (bflat (doneL (hs).length [])) by rw [← made_false]; exact hown2); clear hown2))
  generalize w.alloc (.cells #[.slice ca L.length cc, .slice pa A.length pc] 25) = W0 at *
  have hB2 : Below W0.heap.size W0 w2 := hb1.grown hg2 hb1.size (fun k e => by cases e)
  have hbs1 := hb1.size
  have hw1 : w1.heap.size < w2.heap.size := (HD2.out.lt _ rfl).2
  have HN2 : Hid (Nums w1.heap.size w2 a1 hs) := Lib.hid (HN1.out.below ((Below.refl _ _).grown hg2 (Nat.le_refl _) (fun k e => by cases e)))
  clear HN1 hg2 HI hb1
  go_loopw [5] (fun v wr => ∃ out : List Int, Hid (OrdAt hs out) ∧ Hid (∃ a' c', v = .slice a' out.length c') ∧ Hid (wr.ownsRow w2.heap.size 3 1 v out.length (nflat out)) ∧ Hid (wr.ownsRow w1.heap.size 4 1 (.slice (some ⟨w1.heap.size, 0, none⟩) hs.length hs.length) hs.length (bflat (doneL hs.length out))) ∧ Hid (Nums w1.heap.size wr a1 hs) ∧ Below W0.heap.size W0 wr ∧ w2.heap.size ≤ wr.heap.size) (fun v _ => (match v with | .slice _ n _ => hs.length + 1 - n | _ => 0))
  case atStart => exact ⟨[], Lib.hid (OrdAt.start hs), Lib.hid ⟨_, _, rfl⟩, Lib.hid (World.ownsRow_nil _ _ _ _), HD2, HN2, hB2, Nat.le_refl _⟩
  case round =>
    clear HD2 HN2 hB2
    obtain ⟨out, HO, HV, HR, HD, HN, hB, hws⟩ := hrel
    obtain ⟨a', c', rfl⟩ := HV.out
    have hol := HO.out.len
    go_wp2_with fail
    obtain ⟨wo, rfl⟩ : ∃ wo : World, wo = wr := ⟨_, rfl⟩
    go_loop [6, 16] (fun kv i => kv = .int .i64 (-1) ∧ ∃ j : Nat, j ≤ hs.length ∧ i = .int .i64 j ∧ Hid (∀ x, x < j → readyB hs out x = false)) (fun _ i => hs.length - (intOf i).toNat)
    case atStart => exact ⟨rfl, 0, Nat.zero_le _, rfl, Lib.hid fun _ h => absurd h (Nat.not_lt_zero _)⟩
    case round =>
      obtain ⟨rfl, j, hj, rfl, HA⟩ := hrel
      by_cases hlt : j < hs.length
      · obtain ⟨b, off, rfl, hbl, hc⟩ := HN.out (by omega)
        have d0 := hc j hlt
        have dj := bit_at HD.out j hlt
        have hkj := HK.out j hlt
        have hjw : w1.heap.size < wo.heap.size := by omega
        clear hc
        have HAN : Hid (readyB hs out j = false → Hid (∀ x, x < j + 1 → readyB hs out x = false)) := Lib.hid fun h => Lib.hid fun x hx => by
          rcases Nat.lt_or_ge x j with l | l
          · exact HA.out x l
          · obtain rfl : x = j := by omega
            exact h
        by_cases hjo : (j : Int) ∈ out
        · rw [decide_eq_true hjo] at dj
          have HAJ := HAN.out (ready_in hjo)
          clear hjo
          go_wp2_with fail
          go_round
          case rel => exact ⟨rfl, j + 1, by omega, by go_num, HAJ⟩
          case measure => simp [intOf]; omega
        · rw [decide_eq_false hjo] at dj
          have hst := HD.out.stored j (.bool true)
          rw [doneL_set] at hst
          have HST := Lib.hid hst.1
          have hfz := HD.out.frozenAt j
          have HNX : Hid (readyB hs out j = true → OrdAt hs (out ++ [(j : Int)]) ∧ out.length < hs.length) := Lib.hid fun h => HO.out.next j (next_some j hlt h HA.out)
          have HRS := Lib.hid (ownsRow_setCell_below HR.out (a := ⟨w1.heap.size, j, none⟩) hw1 (.bool true))
          have hBs : Below w1.heap.size wo (wo.setCell ⟨w1.heap.size, j, none⟩ (.bool true)) := (Below.refl _ _).setCell (show w1.heap.size ≤ (⟨w1.heap.size, j, none⟩ : Addr).block from Nat.le_refl _) _
          have HBS := Lib.hid hBs
          have HHN := Lib.hid hjo
          clear hst hBs
          by_cases hneg : ig hs j < 0
          · have HR1 := Lib.hid (HNX.out (ready_neg hjo hneg))
            clear hjo
            go_wp2_with (at_builtin; refine num_append rfl _ _ rfl w2.heap.size _ out rfl (HRS.out.alloc _) _ (j : Int) rfl (new_set _ _ _ _ _) (by omega) (by first | omega | (simp; omega)) ?_; intro v3 w3 hown3 hg3)
            have hBn : Below w1.heap.size wo w3 := grown_own (HRS.out.alloc _) hg3 (HBS.out.alloc (by first | omega | (simp; omega)) _) (by first | omega | (simp; omega)) (by omega)
            have HDn := Lib.hid ((HST.out.alloc _).kept hg3 (.inr (by
              intro e
              have : w2.heap.size ≤ w1.heap.size := (HRS.out.lt _ e.symm).1
              omega)))
            go_roundw
            case rel => exact ⟨_, Lib.hid HR1.out.1, Lib.hid (by obtain ⟨a3, c3, e, _⟩ := num_of_row hown3; exact ⟨a3, c3, e⟩), Lib.hid hown3, HDn, Lib.hid (HN.out.below hBn), hB.trans (hBn.mono hbs1), by have := hBn.size; omega⟩
            case measure =>
              have := HR1.out.2
              obtain ⟨a3, c3, e, _⟩ := num_of_row hown3
              rw [e]
              simp
              omega
          · obtain ⟨m, hm⟩ : ∃ m : Nat, ig hs j = m := ⟨(ig hs j).toNat, by omega⟩
            have hmb : m < hs.length := by omega
            have dm := bit_at HD.out m (by omega)
            by_cases hmo : (m : Int) ∈ out
            · rw [decide_eq_true hmo] at dm
              have HR1 := Lib.hid (HNX.out (ready_done hjo hm hmo))
              rw [hm] at d0
              clear hjo hmo hm hneg
              go_wp2_with (at_builtin; refine num_append rfl _ _ rfl w2.heap.size _ out rfl (HRS.out.alloc _) _ (j : Int) rfl (new_set _ _ _ _ _) (by omega) (by first | omega | (simp; omega)) ?_; intro v3 w3 hown3 hg3)
              have hBn : Below w1.heap.size wo w3 := grown_own (HRS.out.alloc _) hg3 (HBS.out.alloc (by first | omega | (simp; omega)) _) (by first | omega | (simp; omega)) (by omega)
              have HDn := Lib.hid ((HST.out.alloc _).kept hg3 (.inr (by
                intro e
                have : w2.heap.size ≤ w1.heap.size := (HRS.out.lt _ e.symm).1
                omega)))
              go_roundw
              case rel => exact ⟨_, Lib.hid HR1.out.1, Lib.hid (by obtain ⟨a3, c3, e, _⟩ := num_of_row hown3; exact ⟨a3, c3, e⟩), Lib.hid hown3, HDn, Lib.hid (HN.out.below hBn), hB.trans (hBn.mono hbs1), by have := hBn.size; omega⟩
              case measure =>
                have := HR1.out.2
                obtain ⟨a3, c3, e, _⟩ := num_of_row hown3
                rw [e]
                simp
                omega
            · rw [decide_eq_false hmo] at dm
              have HAJ := HAN.out (ready_no hm hmo)
              rw [hm] at d0
              clear hjo hmo hm hneg
              go_wp2_with fail
              go_round
              case rel => exact ⟨rfl, j + 1, by omega, by go_num, HAJ⟩
              case measure => simp [intOf]; omega
      · obtain rfl : j = hs.length := by omega
        have HE := Lib.hid (HO.out.ends (next_none HA.out))
        go_wp2_with fail
        go_ret
        rw [HH.out, HE.out]
        exact Lib.hid ⟨_, rfl, ownsRow_base HR.out (by omega), HM.out _ hB⟩
end Go.Proofs.Ytapjhjpibefooaa
