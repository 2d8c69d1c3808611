/-
  THE WALK of the reference's Order, at a linked sheet.
-/
import Derived.Test.YtapjhjpibefooaaStartsP
import Derived.Deep.RegionHeld3
namespace Go.Proofs.Ytapjhjpibefooaa
open Go.RowKit Go.Shelf

/-- The least ready cue from an index on. -/
def leastFrom (hs out : List Int) (j : Nat) (kv : Int) : Prop := (kv = -1 ∧ ∀ x, j ≤ x → x < hs.length → readyB hs out x = false) ∨ ∃ k : Nat, kv = k ∧ j ≤ k ∧ k < hs.length ∧ readyB hs out k = true ∧ ∀ x, j ≤ x → x < k → readyB hs out x = false
theorem least_no {hs out : List Int} {j : Nat} {kv : Int} (h : leastFrom hs out (j + 1) kv) (hr : readyB hs out j = false) : leastFrom hs out j kv := by
  rcases h with ⟨e, h⟩ | ⟨k, e, h1, h2, h3, h4⟩
  · refine .inl ⟨e, fun x hx hl => ?_⟩
    rcases Nat.eq_or_lt_of_le hx with e' | l
    · rw [← e']; exact hr
    · exact h x l hl
  · refine .inr ⟨k, e, by omega, h2, h3, fun x hx hl => ?_⟩
    rcases Nat.eq_or_lt_of_le hx with e' | l
    · rw [← e']; exact hr
    · exact h4 x l hl
theorem least_yes {hs out : List Int} {j : Nat} (hj : j < hs.length) (hr : readyB hs out j = true) : leastFrom hs out j (j : Int) := .inr ⟨j, rfl, Nat.le_refl _, hj, hr, fun x hx hl => by omega⟩
theorem least_all {hs out : List Int} {kv : Int} (h : leastFrom hs out 0 kv) : (kv = -1 ∧ nextO hs out = none) ∨ ∃ k : Nat, kv = k ∧ k < hs.length ∧ nextO hs out = some k := by
  rcases h with ⟨e, h⟩ | ⟨k, e, _, h2, h3, h4⟩
  · exact .inl ⟨e, next_none fun i hi => h i (Nat.zero_le _) hi⟩
  · exact .inr ⟨k, e, h2, next_some k h2 h3 fun i hi => h4 i (Nat.zero_le _) hi⟩
def ordR (L : List CueR) : List Int × Bool := if (ordP (hangs L)).length < L.length then ([], false) else (ordP (hangs L), true)
theorem ord_full {hs out : List Int} (h : OrdAt hs out) (hl : out.length = hs.length) : ordP hs = out := by
  rw [← h.eq, hl, Nat.sub_self]
  rfl

set_option maxRecDepth 100000 in
set_option maxHeartbeats 16000000 in
theorem reforder_any (ca pa : Option Addr) (L : List CueR) (A : List (ByteArray × ByteArray)) (cc pc : Nat) (w : World) (hlk : linkedB L A = true) (hI : Cues w.heap.size w ca L) :
    Calls Try.prog 41 #[.agg #[.slice ca L.length cc, .slice pa A.length pc]] w fun e w' => Hid (∃ v, e = .returned (.tuple #[v, .bool (ordR L).2]) ∧ w'.ownsRow w.heap.size 3 1 v (ordR L).1.length (nflat (ordR L).1) ∧ Below w.heap.size w w') := by
  have hlen := (linked_len hlk).1
  have HLK := Lib.hid hlk; clear hlk
  have hb0 : Below w.heap.size w (w.alloc (.cells #[.slice ca L.length cc, .slice pa A.length pc] 25)) := below_new w _
  have HI := Lib.hid (hI.grow hb0); clear hI
  have HX : Hid (∀ wr, Below (w.alloc (.cells #[.slice ca L.length cc, .slice pa A.length pc] 25)).heap.size (w.alloc (.cells #[.slice ca L.length cc, .slice pa A.length pc] 25)) wr → Below w.heap.size w wr ∧ wr.cell? ⟨w.heap.size, 0, none⟩ = some (.slice ca L.length cc) ∧ wr.cell? ⟨w.heap.size, 1, none⟩ = some (.slice pa A.length pc)) := Lib.hid fun wr h => ⟨mono_in _ h, box2 h⟩
  have hz0 : w.heap.size < (w.alloc (.cells #[.slice ca L.length cc, .slice pa A.length pc] 25)).heap.size := by simp
  have z0 : (w.alloc (.cells #[.slice ca L.length cc, .slice pa A.length pc] 25)).cell? ⟨w.heap.size, 0, none⟩ = some (.slice ca L.length cc) := by simp
  have z1 : (w.alloc (.cells #[.slice ca L.length cc, .slice pa A.length pc] 25)).cell? ⟨w.heap.size, 1, none⟩ = some (.slice pa A.length pc) := by simp
  have hW0 : (w.alloc (.cells #[.slice ca L.length cc, .slice pa A.length pc] 25)).heap.size = w.heap.size + 1 := by simp
  have HW0 := Lib.hid hW0
  clear hW0
  obtain ⟨i0, hi, hz1, hz2, hz3⟩ := info_parts bit_info
  obtain ⟨hs, HH⟩ : ∃ hs, Hid (hangs L = hs) := ⟨_, Lib.hid rfl⟩
  have HHL : Hid (hs.length = L.length) := Lib.hid (by rw [← HH.out, hangs_len])
  have HAT : Hid (∀ k, k < L.length → ig hs k = hangI L k) := Lib.hid fun k hk => by rw [← HH.out]; exact hangs_at L k hk
  have HRR : Hid (ordR L = if (ordP hs).length < L.length then ([], false) else (ordP hs, true)) := Lib.hid (by unfold ordR; rw [HH.out])
  clear hb0
  go_enter Try.func41, Try.ntmps41
  go_wp2_with (at_make; refine wpList_make_full _ rfl _ _ 86 rfl _ 4 i0 (.bool false) 1 Try.underlying86 hi hz1 hz2 _ _ _ _ L.length rfl rfl rfl rfl (by rw [hz3]; omega) (by unfold maxLen; omega) (Nat.le_refl _) ?_; intro w2 hown2 hg2; try rw [World.size_alloc] at hown2; have HD2 := Lib.hid (show w2.ownsRow (w.heap.size + 1) 4 1 (.slice (some ⟨w.heap.size + 1, 0, none⟩) L.length L.length) L.length (bflat (doneL L.length [])) by (rw [← made_false]; exact hown2)); have hBW : Below (w.heap.size + 1) (w.alloc (.cells #[.slice ca L.length cc, .slice pa A.length pc] 25)) w2 := (Below.refl _ _).grown hg2 (by simp) (fun k e => by cases e); have f0 := hg2.cell z0 (by simp); have f1 := hg2.cell z1 (by simp); clear hown2)
  generalize w.alloc (.cells #[.slice ca L.length cc, .slice pa A.length pc] 25) = W0 at *
  have hg1 : w.heap.size + 1 < w2.heap.size := (HD2.out.lt _ rfl).2
  have HI2 : Hid (Cues (w.heap.size + 1) w2 ca L) := Lib.hid (by have := HI.out; rw [HW0.out] at this; exact this.below hBW)
  have HZ0 := Lib.hid f0
  have HZ1 := Lib.hid f1
  have HF : Hid (∀ wr, Below (w.heap.size + 1) w2 wr → Below w.heap.size w wr) := Lib.hid fun wr h => (HX.out _ (by rw [HW0.out]; exact hBW.trans h)).1
  have hL : L.length ≤ 60 := hlen
  clear f0 f1 z0 z1 hBW HI hg2 HX hz0
  generalize hgg : w.heap.size + 1 = g at *
  have hwg : w.heap.size < g := by omega
  clear hgg
  go_loopw [5] (fun v wr => ∃ out : List Int, Hid (OrdAt hs out) ∧ Hid (∃ a' c', v = .slice a' out.length c') ∧ Hid (wr.ownsRow w2.heap.size 3 1 v out.length (nflat out)) ∧ Hid (wr.ownsRow g 4 1 (.slice (some ⟨g, 0, none⟩) L.length L.length) L.length (bflat (doneL L.length out))) ∧ Below g w2 wr ∧ w2.heap.size ≤ wr.heap.size) (fun v _ => (match v with | .slice _ n _ => L.length + 1 - n | _ => 0))
  case atStart => exact ⟨[], Lib.hid (OrdAt.start hs), Lib.hid ⟨_, _, rfl⟩, Lib.hid (World.ownsRow_nil _ _ _ _), HD2, Below.refl _ _, Nat.le_refl _⟩
  case round =>
    clear HD2
    obtain ⟨out, HO, HV, HR, HD, hB, hws⟩ := hrel
    obtain ⟨a', c', rfl⟩ := HV.out
    have hol : out.length ≤ L.length := by have := HO.out.len; rw [HHL.out] at this; exact this
    have z0 := (hB.cell (p := ⟨w.heap.size, 0, none⟩) hwg).trans HZ0.out
    have z1 := (hB.cell (p := ⟨w.heap.size, 1, none⟩) hwg).trans HZ1.out
    by_cases hfull : out.length < L.length
    · go_wp2_with fail
      obtain ⟨wo, hwo⟩ : ∃ wo : World, wo = wr := ⟨_, rfl⟩
      subst hwo
      go_loopw [6, 7] (fun kv i wq => ∃ (j : Nat) (k i' : Int), j ≤ L.length ∧ i = .int .i64 i' ∧ kv = .int .i64 k ∧ Hid (i' = (j : Int) - 1) ∧ Hid (leastFrom hs out j k) ∧ Below wo.heap.size wo wq) (fun _ i _ => (intOf i + 1).toNat)
      case atStart => exact ⟨L.length, -1, _, Nat.le_refl _, rfl, rfl, Lib.hid rfl, Lib.hid (.inl ⟨rfl, fun x hx hl => by have := HHL.out; omega⟩), Below.refl _ _⟩
      case round =>
        obtain ⟨j, kv, i', hj, rfl, rfl, HI', HLF, hB3⟩ := hrel
        have hgo : g < wo.heap.size := by omega
        have hbs3 := hB3.size
        have y0 := (hB3.cell (p := ⟨w.heap.size, 0, none⟩) (show w.heap.size < wo.heap.size by omega)).trans z0
        have y1 := (hB3.cell (p := ⟨w.heap.size, 1, none⟩) (show w.heap.size < wo.heap.size by omega)).trans z1
        rcases Nat.eq_zero_or_pos j with rfl | hpos
        · obtain rfl : i' = -1 := by have := HI'.out; omega
          rcases least_all HLF.out with ⟨rfl, hnx⟩ | ⟨k, rfl, hk, hnx⟩
          · have HE := Lib.hid (HO.out.ends hnx)
            have HP0 : Hid (ordR L = ([], false)) := Lib.hid (by rw [HRR.out, HE.out, if_pos hfull])
            clear hnx
            go_wp2_with fail
            go_ret2
            rw [HP0.out]
            exact Lib.hid ⟨_, rfl, World.ownsRow_nil _ _ _ _, HF.out _ (hB.trans (hB3.mono (by omega)))⟩
          · have HNX := Lib.hid (HO.out.next k hnx)
            have hkL : k < L.length := by have := HHL.out; omega
            have HD3 := Lib.hid (ownsRow_below HD.out hB3)
            have HR3 := Lib.hid (ownsRow_below HR.out hB3)
            have dk := bit_at HD3.out k hkL
            have hfz := HD3.out.frozenAt k
            have hst := HD3.out.stored k (.bool true)
            rw [doneL_set] at hst
            have HST := Lib.hid hst.1
            have hgr : g < wr.heap.size := by omega
            have HRS := Lib.hid (ownsRow_setCell_below HR3.out (a := ⟨g, k, none⟩) (show g < w2.heap.size from hg1) (.bool true))
            have HBS : Hid (Below g w2 (wr.setCell ⟨g, k, none⟩ (.bool true))) := Lib.hid ((hB.trans (hB3.mono (by omega))).setCell (show g ≤ (⟨g, k, none⟩ : Addr).block from Nat.le_refl _) _)
            clear hst hnx
            go_wp2_with (at_builtin; refine num_append rfl _ _ rfl w2.heap.size _ out rfl (HRS.out.alloc _) _ (k : Int) rfl (new_set _ _ _ _ _) (by omega) (by first | omega | (simp; omega)) ?_; intro v3 w3 hown3 hg3)
            have hBn : Below g w2 w3 := grown_own (HRS.out.alloc _) hg3 (HBS.out.alloc (by first | omega | (simp; omega)) _) (by first | omega | (simp; omega)) (by omega)
            have HDn := Lib.hid ((HST.out.alloc _).kept hg3 (.inr (by
              intro e
              have : w2.heap.size ≤ g := (HRS.out.lt _ e.symm).1
              omega)))
            have hs3 : w2.heap.size ≤ w3.heap.size := by have := hg3.size; simp at this; omega
            go_roundw
            case rel => exact ⟨_, Lib.hid HNX.out.1, Lib.hid (by obtain ⟨a3, c3, e, _⟩ := num_of_row hown3; exact ⟨a3, c3, e⟩), Lib.hid hown3, HDn, hBn, hs3⟩
            case measure =>
              have := HNX.out.2
              obtain ⟨a3, c3, e, _⟩ := num_of_row hown3
              rw [e]
              simp
              omega
        · obtain ⟨m, rfl⟩ : ∃ m, j = m + 1 := ⟨j - 1, by omega⟩
          obtain rfl : i' = (m : Int) := by have := HI'.out; omega
          have hmL : m < L.length := by omega
          have hmh : m < hs.length := by have := HHL.out; omega
          have HDM := Lib.hid (show ∀ i, i < L.length → wr.cell? ⟨g, i, none⟩ = some (.bool (decide ((i : Int) ∈ out))) from fun i hi => (hB3.cell (p := ⟨g, i, none⟩) hgo).trans (bit_at HD.out i hi))
          have dm := HDM.out m hmL
          obtain ⟨b, off, rfl, hbl, hc⟩ := HI2.out (by omega)
          have e1 := (hB3.cell (p := ⟨b, off + m * 7 + 1, none⟩) (show b < wo.heap.size by omega)).trans ((hB.cell (p := ⟨b, off + m * 7 + 1, none⟩) hbl).trans (hc m hmL).2.1)
          have hat := HAT.out m hmL
          have hlc := (linked_cue HLK.out m hmL).2.2.2
          clear hc
          by_cases hmo : (m : Int) ∈ out
          · rw [decide_eq_true hmo] at dm
            have HL1 := Lib.hid (least_no HLF.out (ready_in hmo))
            clear hmo hat hlc HI'
            go_wp2_with fail
            go_quiet (fail)
            go_wp2_with fail
            go_roundw
            case rel => exact ⟨m, kv, _, by omega, rfl, rfl, Lib.hid rfl, HL1, below_drewN hB3 _⟩
            case measure => first | (simp [intOf]; done) | (simp [intOf]; omega)
          · rw [decide_eq_false hmo] at dm
            rcases hlc with ⟨l1, ha⟩ | ⟨_, l1, f, hf, hfa, _⟩
            · have hs1 : (cg L m).after.toList = [] := (nil_iff _).2 ha
              have HL1 := Lib.hid (least_yes hmh (ready_neg hmo (by rw [hat, hang_manual l1]; decide)))
              clear hmo hat l1 ha HI'
              go_wp2_with fail
              go_quiet (fail)
              go_wp2_with fail
              go_roundw
              case rel => exact ⟨m, _, _, by omega, rfl, rfl, Lib.hid rfl, HL1, below_drewN hB3 _⟩
              case measure => first | (simp [intOf]; done) | (simp [intOf]; omega)
            · have hs1 : (cg L m).after.toList.isEmpty = false := by
                cases he : (cg L m).after.toList with
                | nil =>
                  exfalso
                  have hnm := (linked_cue HLK.out f hf).1
                  obtain ⟨_, h2, _⟩ := findI_name L (cg L m).after (by omega)
                  rw [hfa, Int.toNat_natCast] at h2
                  rw [h2, (nil_iff _).1 he] at hnm
                  revert hnm; decide
                | cons x r => rfl
              have HFA := Lib.hid hfa
              have hhf : ig hs m = f := by rw [hat, hang_other l1, hfa]
              have df := HDM.out f hf
              have HCR := Lib.hid (((HI2.out.below hB).mono (show g ≤ wo.heap.size by omega)).grow hB3)
              have hbr := Below.refl wr.heap.size wr
              obtain ⟨bv, hbv⟩ : ∃ bv, decide ((f : Int) ∈ out) = bv := ⟨_, rfl⟩
              rw [hbv] at df
              have HRD : Hid (readyB hs out m = bv) := Lib.hid (by
                cases bv
                · exact ready_no hhf (of_decide_eq_false hbv)
                · exact ready_done hmo hhf (of_decide_eq_true hbv))
              have HS : Hid (∀ w', Below wr.heap.size wr w' → Below wr.heap.size wr w' ∧ w'.cell? ⟨w.heap.size, 0, none⟩ = some (.slice (some ⟨b, off, none⟩) L.length cc) ∧ w'.cell? ⟨w.heap.size, 1, none⟩ = some (.slice pa A.length pc) ∧ w'.cell? ⟨b, off + m * 7 + 1, none⟩ = some (.string (cg L m).after) ∧ w'.cell? ⟨g, m, none⟩ = some (.bool false) ∧ w'.cell? ⟨g, f, none⟩ = some (.bool bv)) := Lib.hid fun w' h =>
                ⟨h, (h.cell (p := ⟨w.heap.size, 0, none⟩) (World.block_lt_of_cell? _ _ y0)).trans y0, (h.cell (p := ⟨w.heap.size, 1, none⟩) (World.block_lt_of_cell? _ _ y1)).trans y1, (h.cell (p := ⟨b, off + m * 7 + 1, none⟩) (World.block_lt_of_cell? _ _ e1)).trans e1, (h.cell (p := ⟨g, m, none⟩) (World.block_lt_of_cell? _ _ dm)).trans dm, (h.cell (p := ⟨g, f, none⟩) (World.block_lt_of_cell? _ _ df)).trans df⟩
              clear hmo hat l1 HI' hfa hhf hbv
              go_wp2_with fail
              go_region_held3 (fun w' => Below wr.heap.size wr w' ∧ w'.cell? ⟨w.heap.size, 0, none⟩ = some (.slice (some ⟨b, off, none⟩) L.length cc) ∧ w'.cell? ⟨w.heap.size, 1, none⟩ = some (.slice pa A.length pc) ∧ w'.cell? ⟨b, off + m * 7 + 1, none⟩ = some (.string (cg L m).after) ∧ w'.cell? ⟨g, m, none⟩ = some (.bool false) ∧ w'.cell? ⟨g, f, none⟩ = some (.bool bv))
                (first | exact HS.out _ hbn | exact HS.out _ hbr.drew | go_keep)
                (first
                  | (go_at_call 17; go_split_ands; (with_reducible refine (reffind_any _ L _ _ (cg L m).after _ (by omega) ?_).mono ?_); (next => exact HCR.out.grow (by assumption)); rintro e w4 ⟨rfl, hb4⟩; rw [HFA.out]; have hbn := held_next (wr := wr) (by assumption) hb4))
              cases bv
              · have HL1 := Lib.hid (least_no HLF.out HRD.out)
                go_wp2_with fail
                go_roundw
                case rel => exact ⟨m, kv, _, by omega, rfl, rfl, Lib.hid rfl, HL1, hB3.trans (hbn.mono hB3.size)⟩
                case measure => first | (simp [intOf]; done) | (simp [intOf]; omega)
              · have HL1 := Lib.hid (least_yes hmh HRD.out)
                go_wp2_with fail
                go_roundw
                case rel => exact ⟨m, _, _, by omega, rfl, rfl, Lib.hid rfl, HL1, hB3.trans (hbn.mono hB3.size)⟩
                case measure => first | (simp [intOf]; done) | (simp [intOf]; omega)
    · have HE := Lib.hid (ord_full HO.out (by have := HHL.out; omega))
      have HP0 : Hid (ordR L = (out, true)) := Lib.hid (by rw [HRR.out, HE.out, if_neg hfull])
      go_wp2_with fail
      go_ret2
      rw [HP0.out]
      exact Lib.hid ⟨_, rfl, ownsRow_base HR.out (by omega), HF.out _ hB⟩
end Go.Proofs.Ytapjhjpibefooaa
