/-
  THE WALK of the reference's Loop, at a linked sheet.
-/
import Derived.Test.YtapjhjpibefooaaLoopP
import Derived.Deep.RegionHeld3
namespace Go.Proofs.Ytapjhjpibefooaa
open Go.RowKit Go.Shelf

set_option maxRecDepth 100000 in
set_option maxHeartbeats 16000000 in
theorem refloop_any (ca pa : Option Addr) (L : List CueR) (A : List (ByteArray × ByteArray)) (cc pc : Nat) (w : World) (hlk : linkedB L A = true) (hI : Cues w.heap.size w ca L) :
    Calls Try.prog 42 #[.agg #[.slice ca L.length cc, .slice pa A.length pc]] w fun e w' => Hid (∃ v, e = .returned v ∧ w'.ownsRow w.heap.size 9 1 v (loopR L).length (sflat (loopR L)) ∧ Below w.heap.size w w') := by
  have hlen := (linked_len hlk).1
  have HLK := Lib.hid hlk; clear hlk
  have hb0 : Below w.heap.size w (w.alloc (.cells #[.slice ca L.length cc, .slice pa A.length pc] 25)) := below_new w _
  have HI := Lib.hid (hI.grow hb0); clear hI
  have HX : Hid (∀ wr, Below (w.alloc (.cells #[.slice ca L.length cc, .slice pa A.length pc] 25)).heap.size (w.alloc (.cells #[.slice ca L.length cc, .slice pa A.length pc] 25)) wr → Below w.heap.size w wr ∧ wr.cell? ⟨w.heap.size, 0, none⟩ = some (.slice ca L.length cc) ∧ wr.cell? ⟨w.heap.size, 1, none⟩ = some (.slice pa A.length pc)) := Lib.hid fun wr h => ⟨mono_in _ h, box2 h⟩
  clear hb0
  have HK0 := hang_ok L
  have HRR : Hid (loopR L = match loopI (hangs L) with
    | some i => namesOf L (chainP (hangs L) (i : Int)).1
    | none => []) := Lib.hid rfl
  have HAT0 : ∀ k, k < L.length → ig (hangs L) k = hangI L k := fun k hk => hangs_at L k hk
  have hhl := hangs_len L
  obtain ⟨hs, HH⟩ : ∃ hs, Hid (hangs L = hs) := ⟨_, Lib.hid rfl⟩
  rw [HH.out] at HK0 HRR HAT0 hhl
  have HK := Lib.hid HK0
  have HAT := Lib.hid HAT0
  have HHL := Lib.hid hhl
  clear HK0 HAT0 hhl
  go_enter Try.func42, Try.ntmps42
  go_wp2_with fail
  generalize w.alloc (.cells #[.slice ca L.length cc, .slice pa A.length pc] 25) = W0 at *
  go_loopw [3] (fun iv wr => ∃ i0 : Nat, i0 ≤ L.length ∧ iv = .int .i64 i0 ∧ Below W0.heap.size W0 wr ∧ Hid (∀ j : Nat, j < i0 → loopB hs j = false)) (fun iv _ => L.length - (intOf iv).toNat)
  case atStart => exact ⟨0, Nat.zero_le _, rfl, Below.refl _ _, Lib.hid (fun _ h => absurd h (Nat.not_lt_zero _))⟩
  case round =>
    obtain ⟨i0, hi0, rfl, hB, HA⟩ := hrel
    obtain ⟨_, z0, z1⟩ := HX.out _ hB
    by_cases hlt0 : i0 < L.length
    · go_wp2_with fail
      obtain ⟨wo, hwo⟩ : ∃ wo : World, wo = wr := ⟨_, rfl⟩
      subst hwo
      have hbso := hB.size
      have HNEXT : Hid (loopB hs i0 = false → ∀ j : Nat, j < i0 + 1 → loopB hs j = false) := Lib.hid fun h j hj => by
        rcases Nat.lt_or_ge j i0 with l | l
        · exact HA.out j l
        · obtain rfl : j = i0 := by omega
          exact h
      go_loopw [4, 5] (fun v kv wq => ∃ (i : Nat) (out : List ByteArray), i < L.length ∧ kv = .int .i64 i ∧ Hid (RL L hs i0 out i) ∧ Hid (∃ a' c', v = .slice a' out.length c') ∧ out.length ≤ L.length + 1 ∧ Hid (wq.ownsRow wo.heap.size 9 1 v out.length (sflat out)) ∧ Below wo.heap.size wo wq) (fun v _ _ => (match v with | .slice _ n _ => L.length + 2 - n | _ => 0))
      case atStart => exact ⟨i0, [], hlt0, rfl, Lib.hid (RL.start L (by omega) (by have := HHL.out; omega)), Lib.hid ⟨_, _, rfl⟩, by simp, Lib.hid (World.ownsRow_nil _ _ _ _), Below.refl _ _⟩
      case round =>
        clear z0 z1
        obtain ⟨i, out, hi, rfl, HC, HV, hol, HR, hBq⟩ := hrel
        obtain ⟨a', c', rfl⟩ := HV.out
        have hBW := hB.trans (hBq.mono hbso)
        obtain ⟨_, z0, z1⟩ := HX.out _ hBW
        have hbs := hBq.size
        by_cases hlt : out.length ≤ L.length
        · obtain ⟨b, off, rfl, hbl, hc⟩ := HI.out (by omega)
          obtain ⟨c0, c1, _⟩ := hc i hi
          have d0 := (hBW.cell (p := ⟨b, off + i * 7, none⟩) hbl).trans c0
          have HD1 := Lib.hid c1
          have hat := HAT.out i hi
          have hlc := (linked_cue HLK.out i hi).2.2.2
          clear hc c0 c1
          rcases hlc with ⟨l1, ha⟩ | ⟨_, l1, f, hf, hfa, _⟩
          · have hs1 : (cg L i).after.toList = [] := (nil_iff _).2 ha
            have HNX := Lib.hid (HNEXT.out (HC.out.breaks HK.out (by omega) (by rw [Int.toNat_natCast, hat, hang_manual l1]; decide)))
            clear hat l1 ha
            go_wp2_with (at_builtin; refine str_append rfl _ _ rfl wo.heap.size _ out rfl (HR.out.alloc _) _ (cg L i).name rfl (by simp) (by omega) (by first | omega | (simp; omega)) ?_; intro v2 w2 hown2 hg2; have hB2 := grown_own (HR.out.alloc _) hg2 (hBq.alloc hbs _) (by first | omega | (simp; omega)) (Nat.le_refl _); have d2 := ((hB.trans (hB2.mono hbso)).cell (p := ⟨b, off + i * 7 + 1, none⟩) hbl).trans HD1.out; obtain ⟨_, y0, y1⟩ := HX.out _ (hB.trans (hB2.mono hbso)))
            go_roundw
            case rel => exact ⟨i0 + 1, by omega, by go_num, hB.trans (hB2.mono hbso), HNX⟩
            case measure => simp [intOf]; omega
          · have hs1 : (cg L i).after.toList.isEmpty = false := by
              cases he : (cg L i).after.toList with
              | nil =>
                exfalso
                have hnm := (linked_cue HLK.out f hf).1
                obtain ⟨_, h2, _⟩ := findI_name L (cg L i).after (by omega)
                rw [hfa, Int.toNat_natCast] at h2
                rw [h2, (nil_iff _).1 he] at hnm
                revert hnm; decide
              | cons x r => rfl
            have hhf : ig hs (i : Int).toNat = f := by rw [Int.toNat_natCast, hat, hang_other l1, hfa]
            have HHF := Lib.hid hhf
            have HFA := Lib.hid hfa
            clear hat l1 hfa hhf
            go_wp2_with (at_builtin; refine str_append rfl _ _ rfl wo.heap.size _ out rfl (HR.out.alloc _) _ (cg L i).name rfl (by simp) (by omega) (by first | omega | (simp; omega)) ?_; intro v2 w2 hown2 hg2; have hB2 := grown_own (HR.out.alloc _) hg2 (hBq.alloc hbs _) (by first | omega | (simp; omega)) (Nat.le_refl _); have d2 := ((hB.trans (hB2.mono hbso)).cell (p := ⟨b, off + i * 7 + 1, none⟩) hbl).trans HD1.out; obtain ⟨_, y0, y1⟩ := HX.out _ (hB.trans (hB2.mono hbso)))
            have hbr := Below.refl w2.heap.size w2
            have hBW2 := hB.trans (hB2.mono hbso)
            have HCR := Lib.hid (HI.out.grow hBW2)
            have HS : Hid (∀ w', Below w2.heap.size w2 w' → Below w2.heap.size w2 w' ∧ w'.cell? ⟨w.heap.size, 0, none⟩ = some (.slice (some ⟨b, off, none⟩) L.length cc) ∧ w'.cell? ⟨w.heap.size, 1, none⟩ = some (.slice pa A.length pc) ∧ w'.cell? ⟨b, off + i * 7 + 1, none⟩ = some (.string (cg L i).after)) := Lib.hid fun w' h =>
              ⟨h, (h.cell (p := ⟨w.heap.size, 0, none⟩) (World.block_lt_of_cell? _ _ y0)).trans y0, (h.cell (p := ⟨w.heap.size, 1, none⟩) (World.block_lt_of_cell? _ _ y1)).trans y1, (h.cell (p := ⟨b, off + i * 7 + 1, none⟩) (World.block_lt_of_cell? _ _ d2)).trans d2⟩
            go_region_held3 (fun w' => Below w2.heap.size w2 w' ∧ w'.cell? ⟨w.heap.size, 0, none⟩ = some (.slice (some ⟨b, off, none⟩) L.length cc) ∧ w'.cell? ⟨w.heap.size, 1, none⟩ = some (.slice pa A.length pc) ∧ w'.cell? ⟨b, off + i * 7 + 1, none⟩ = some (.string (cg L i).after))
              (first | exact HS.out _ hbn | exact HS.out _ hbr.drew | go_keep)
              (first
                | (go_at_call 17; go_split_ands; (with_reducible refine (reffind_any _ L _ _ (cg L i).after _ (by omega) ?_).mono ?_); (next => exact HCR.out.grow (by assumption)); rintro e w4 ⟨rfl, hb4⟩; rw [HFA.out]; have hbn := held_next (wr := w2) (by assumption) hb4))
            have HR4 := Lib.hid (ownsRow_below hown2 hbn)
            by_cases hfi : f = i0
            · have g1 : ((f : Int) == (i0 : Int)) = true := beq_iff_eq.2 (by omega)
              obtain ⟨e1, e2⟩ := HC.out.found HK.out (by omega) (by omega) (by rw [HHF.out, hfi])
              rw [Int.toNat_natCast] at e2
              have HP0 : Hid (loopR L = out ++ [(cg L i).name]) := Lib.hid (by rw [HRR.out, loopI_some i0 (by have := HHL.out; omega) e1 HA.out]; exact e2)
              clear e1 e2 hfi
              go_wp2_with fail
              go_ret
              rw [HP0.out]
              exact Lib.hid ⟨_, rfl, ownsRow_base HR4.out (by have := (HX.out _ hB).1.size; omega), (HX.out _ (hBW2.trans (hbn.mono hBW2.size))).1⟩
            · have g1 : ((f : Int) == (i0 : Int)) = false := beq_eq_false_iff_ne.2 (by omega)
              have hn := HC.out.goes HK.out (by omega) (by rw [HHF.out]; omega) (by rw [HHF.out]; omega)
              rw [HHF.out, Int.toNat_natCast] at hn
              have HN := Lib.hid hn
              clear hn hfi
              go_wp2_with fail
              go_roundw
              case rel => exact ⟨f, _, hf, rfl, HN, Lib.hid (by obtain ⟨a3, c3, e, _⟩ := str_of_row HR4.out; exact ⟨a3, c3, e⟩), by rw [List.length_append, List.length_singleton]; omega, HR4, hB2.trans (hbn.mono hB2.size)⟩
              case measure =>
                obtain ⟨a3, c3, e, _⟩ := str_of_row HR4.out
                rw [e]
                simp
                omega
        · have HNX := Lib.hid (HNEXT.out (HC.out.long (by have := HHL.out; omega)))
          go_wp2_with fail
          go_roundw
          case rel => exact ⟨i0 + 1, by omega, by go_num, hBW, HNX⟩
          case measure => simp [intOf]; omega
    · have HP0 : Hid (loopR L = []) := Lib.hid (by rw [HRR.out, loopI_none (fun i hi => HA.out i (by have := HHL.out; omega))])
      go_wp2_with fail
      go_ret
      rw [HP0.out]
      exact Lib.hid ⟨_, rfl, World.ownsRow_nil _ _ _ _, (HX.out _ hB).1⟩
end Go.Proofs.Ytapjhjpibefooaa
