/-
  THE WALK of the reference's Chain, at a linked sheet.
-/
import Derived.Test.YtapjhjpibefooaaStPlain
import Derived.Test.YtapjhjpibefooaaChainN
import Derived.Deep.RegionHeld3
namespace Go.Proofs.Ytapjhjpibefooaa
open Go.RowKit Go.Shelf

def chainR (L : List CueR) (i : Int) : List ByteArray × Bool := if (chainP (hangs L) i).2 then (namesOf L (chainP (hangs L) i).1, true) else ([], false)
/-- Where the reference's chain stands. -/
def RC (L : List CueR) (hs : List Int) (i0 : Int) (out : List ByteArray) (i : Int) : Prop :=
  (∃ I, ChainAt hs i0 I i ∧ (∀ x ∈ I, ig hs x.toNat ∈ I ∨ ig hs x.toNat = i) ∧ i ∉ I ∧ out = namesOf L I) ∨ ((chainP hs i0).2 = false ∧ ∃ C : List Int, i ∈ C ∧ (∀ x ∈ C, 0 ≤ x) ∧ ∀ x ∈ C, ig hs x.toNat ∈ C)
theorem RC.start (L : List CueR) {hs : List Int} {i0 : Int} (h0 : 0 ≤ i0) (h1 : i0 < hs.length) : RC L hs i0 [] i0 :=
  .inl ⟨[], ChainAt.start (by omega) h1, (fun _ h => by cases h), by simp, rfl⟩
theorem RC.ends {L : List CueR} {hs : List Int} {i0 i : Int} {out : List ByteArray} (hk : HangOK hs) (h0 : 0 ≤ i) (h : RC L hs i0 out i) (he : ig hs i.toNat < 0) : (chainP hs i0).2 = true ∧ namesOf L (chainP hs i0).1 = out ++ [(cg L i.toNat).name] := by
  rcases h with ⟨I, hc, _, hi, rfl⟩ | ⟨_, C, hi, h1, h2⟩
  · have := (hc.next hk (by omega) hi).ends he
    rw [this]
    refine ⟨rfl, ?_⟩
    unfold namesOf
    rw [List.map_append]
    rfl
  · have := h1 _ (h2 i hi)
    omega
theorem RC.next {L : List CueR} {hs : List Int} {i0 i : Int} {out : List ByteArray} (hk : HangOK hs) (h0 : 0 ≤ i) (h : RC L hs i0 out i) (he : 0 ≤ ig hs i.toNat) : RC L hs i0 (out ++ [(cg L i.toNat).name]) (ig hs i.toNat) := by
  rcases h with ⟨I, hc, hl, hi, rfl⟩ | ⟨hf, C, hi, h1, h2⟩
  · have hn := hc.next hk (by omega) hi
    have hl' : ∀ x ∈ I ++ [i], ig hs x.toNat ∈ I ++ [i] ∨ ig hs x.toNat = ig hs i.toNat := by
      intro x hx
      rcases List.mem_append.1 hx with h | h
      · rcases hl x h with h' | h'
        · exact .inl (List.mem_append_left _ h')
        · exact .inl (by rw [h']; simp)
      · obtain rfl : x = i := by simpa using h
        exact .inr rfl
    by_cases hm : ig hs i.toNat ∈ I ++ [i]
    · refine .inr ⟨by rw [hn.back (by omega) hm], I ++ [i], hm, fun x hx => (hn.inn x hx).1, fun x hx => ?_⟩
      rcases hl' x hx with h | h
      · exact h
      · rw [h]; exact hm
    · refine .inl ⟨I ++ [i], hn, hl', hm, ?_⟩
      unfold namesOf
      rw [List.map_append]
      rfl
  · exact .inr ⟨hf, C, h2 i hi, h1, h2⟩
theorem RC.long {L : List CueR} {hs : List Int} {i0 i : Int} {out : List ByteArray} (_h0 : 0 ≤ i) (h : RC L hs i0 out i) (hl : hs.length < out.length) : (chainP hs i0).2 = false := by
  rcases h with ⟨I, hc, _, hi, rfl⟩ | ⟨hf, _⟩
  · have := hc.len
    rw [namesOf_len] at hl
    omega
  · exact hf

set_option maxRecDepth 100000 in
set_option maxHeartbeats 8000000 in
theorem refchain_any (ca pa : Option Addr) (L : List CueR) (A : List (ByteArray × ByteArray)) (cc pc i0 : Nat) (w : World) (hlk : linkedB L A = true) (hi0 : i0 < L.length) (hI : Cues w.heap.size w ca L) :
    Calls Try.prog 18 #[.agg #[.slice ca L.length cc, .slice pa A.length pc], .int .i64 i0] w fun e w' => Hid (∃ v, e = .returned (.tuple #[v, .bool (chainR L i0).2]) ∧ w'.ownsRow w.heap.size 9 1 v (chainR L i0).1.length (sflat (chainR L i0).1) ∧ Below w.heap.size w w') := by
  have hlen := (linked_len hlk).1
  have HLK := Lib.hid hlk; clear hlk
  have hb0 : Below w.heap.size w (w.alloc (.cells #[.slice ca L.length cc, .slice pa A.length pc] 25)) := below_new w _
  have HI := Lib.hid (hI.grow hb0); clear hI
  have HX : Hid (∀ wr, Below (w.alloc (.cells #[.slice ca L.length cc, .slice pa A.length pc] 25)).heap.size (w.alloc (.cells #[.slice ca L.length cc, .slice pa A.length pc] 25)) wr → Below w.heap.size w wr ∧ wr.cell? ⟨w.heap.size, 0, none⟩ = some (.slice ca L.length cc) ∧ wr.cell? ⟨w.heap.size, 1, none⟩ = some (.slice pa A.length pc)) := Lib.hid fun wr h => ⟨mono_in _ h, box2 h⟩
  have hz0 : w.heap.size ≤ (w.alloc (.cells #[.slice ca L.length cc, .slice pa A.length pc] 25)).heap.size := hb0.size
  clear hb0
  have HK0 := hang_ok L
  have HRR : Hid (chainR L i0 = if (chainP (hangs L) i0).2 then (namesOf L (chainP (hangs L) i0).1, true) else ([], false)) := Lib.hid rfl
  have HAT0 : ∀ k, k < L.length → ig (hangs L) k = hangI L k := fun k hk => hangs_at L k hk
  have hhl := hangs_len L
  have HST := Lib.hid (RC.start L (hs := hangs L) (i0 := i0) (by omega) (by rw [hhl]; omega))
  obtain ⟨hs, HH⟩ : ∃ hs, Hid (hangs L = hs) := ⟨_, Lib.hid rfl⟩
  rw [HH.out] at HK0 HRR HAT0 HST hhl
  have HK := Lib.hid HK0
  have HAT := Lib.hid HAT0
  have HHL := Lib.hid hhl
  clear HK0 HAT0 hhl
  go_enter Try.func18, Try.ntmps18
  go_wp2
  generalize w.alloc (.cells #[.slice ca L.length cc, .slice pa A.length pc] 25) = W0 at *
  go_loopw [1, 6] (fun iv v wr => ∃ (i : Nat) (out : List ByteArray), i < L.length ∧ iv = .int .i64 i ∧ Hid (RC L hs i0 out i) ∧ Hid (∃ a' c', v = .slice a' out.length c') ∧ out.length ≤ L.length + 1 ∧ Hid (wr.ownsRow W0.heap.size 9 1 v out.length (sflat out)) ∧ Below W0.heap.size W0 wr) (fun _ v _ => (match v with | .slice _ n _ => L.length + 2 - n | _ => 0))
  case atStart => exact ⟨i0, [], hi0, rfl, HST, Lib.hid ⟨_, _, rfl⟩, by simp, Lib.hid (World.ownsRow_nil _ _ _ _), Below.refl _ _⟩
  case round =>
    obtain ⟨i, out, hi, rfl, HC, HV, hol, HR, hB⟩ := hrel
    obtain ⟨a', c', rfl⟩ := HV.out
    obtain ⟨_, z0, z1⟩ := HX.out _ hB
    have hbs := hB.size
    by_cases hlt : out.length ≤ L.length
    · obtain ⟨b, off, rfl, hbl, hc⟩ := HI.out (by omega)
      obtain ⟨c0, c1, _⟩ := hc i hi
      have d0 := (hB.cell (p := ⟨b, off + i * 7, none⟩) hbl).trans c0
      have HD1 := Lib.hid c1
      have hat := HAT.out i hi
      have hlc := (linked_cue HLK.out i hi).2.2.2
      clear hc c0 c1
      rcases hlc with ⟨l1, ha⟩ | ⟨_, l1, f, hf, hfa, _⟩
      · have hs1 : (cg L i).after.toList = [] := (nil_iff _).2 ha
        obtain ⟨e1, e2⟩ := HC.out.ends HK.out (by omega) (by rw [Int.toNat_natCast, hat, hang_manual l1]; decide)
        rw [Int.toNat_natCast] at e2
        have HP0 : Hid (chainR L i0 = (out ++ [(cg L i).name], true)) := Lib.hid (by rw [HRR.out, e1, e2]; rfl)
        clear hat l1 ha e1 e2
        go_wp2_with (at_builtin; refine str_append rfl _ _ rfl W0.heap.size _ out rfl (HR.out.alloc _) _ (cg L i).name rfl (by simp) (by omega) (by first | omega | (simp; omega)) ?_; intro v2 w2 hown2 hg2; have hB2 := grown_own (HR.out.alloc _) hg2 (hB.alloc hbs _) (by first | omega | (simp; omega)) (Nat.le_refl _); have d2 := (hB2.cell (p := ⟨b, off + i * 7 + 1, none⟩) hbl).trans HD1.out; obtain ⟨_, y0, y1⟩ := HX.out _ hB2)
        go_ret2
        rw [HP0.out]
        exact Lib.hid ⟨_, rfl, ownsRow_base hown2 hz0, (HX.out _ hB2).1⟩
      · have hs1 : (cg L i).after.toList.isEmpty = false := by
          cases he : (cg L i).after.toList with
          | nil =>
            exfalso
            have hnm := (linked_cue HLK.out f hf).1
            obtain ⟨_, h2, _⟩ := findI_name L (cg L i).after (by omega)
            rw [hfa, Int.toNat_natCast] at h2
            rw [h2, (nil_iff _).1 he] at hnm
            revert hnm; decide
          | cons x r => rfl
        have hn := HC.out.next HK.out (by omega) (by rw [Int.toNat_natCast, hat, hang_other l1, hfa]; omega)
        rw [Int.toNat_natCast, hat, hang_other l1, hfa] at hn
        have HN := Lib.hid hn
        have HFA := Lib.hid hfa
        clear hat l1 hfa hn
        go_wp2_with (at_builtin; refine str_append rfl _ _ rfl W0.heap.size _ out rfl (HR.out.alloc _) _ (cg L i).name rfl (by simp) (by omega) (by first | omega | (simp; omega)) ?_; intro v2 w2 hown2 hg2; have hB2 := grown_own (HR.out.alloc _) hg2 (hB.alloc hbs _) (by first | omega | (simp; omega)) (Nat.le_refl _); have d2 := (hB2.cell (p := ⟨b, off + i * 7 + 1, none⟩) hbl).trans HD1.out; obtain ⟨_, y0, y1⟩ := HX.out _ hB2)
        have hbr := Below.refl w2.heap.size w2
        have HCR := Lib.hid (HI.out.grow hB2)
        have HS : Hid (∀ w', Below w2.heap.size w2 w' → Below w2.heap.size w2 w' ∧ w'.cell? ⟨w.heap.size, 0, none⟩ = some (.slice (some ⟨b, off, none⟩) L.length cc) ∧ w'.cell? ⟨w.heap.size, 1, none⟩ = some (.slice pa A.length pc) ∧ w'.cell? ⟨b, off + i * 7 + 1, none⟩ = some (.string (cg L i).after)) := Lib.hid fun w' h =>
          ⟨h, (h.cell (p := ⟨w.heap.size, 0, none⟩) (World.block_lt_of_cell? _ _ y0)).trans y0, (h.cell (p := ⟨w.heap.size, 1, none⟩) (World.block_lt_of_cell? _ _ y1)).trans y1, (h.cell (p := ⟨b, off + i * 7 + 1, none⟩) (World.block_lt_of_cell? _ _ d2)).trans d2⟩
        go_region_held3 (fun w' => Below w2.heap.size w2 w' ∧ w'.cell? ⟨w.heap.size, 0, none⟩ = some (.slice (some ⟨b, off, none⟩) L.length cc) ∧ w'.cell? ⟨w.heap.size, 1, none⟩ = some (.slice pa A.length pc) ∧ w'.cell? ⟨b, off + i * 7 + 1, none⟩ = some (.string (cg L i).after))
          (first | exact HS.out _ hbn | exact HS.out _ hbr.drew | go_keep)
          (first
            | (go_at_call 17; go_split_ands; (with_reducible refine (reffind_any _ L _ _ (cg L i).after _ (by omega) ?_).mono ?_); (next => exact HCR.out.grow (by assumption)); rintro e w4 ⟨rfl, hb4⟩; rw [HFA.out]; have hbn := held_next (wr := w2) (by assumption) hb4))
        have HR4 := Lib.hid (ownsRow_below hown2 hbn)
        go_wp2_with fail
        go_roundw
        case rel => exact ⟨f, _, hf, rfl, HN, Lib.hid (by obtain ⟨a3, c3, e, _⟩ := str_of_row HR4.out; exact ⟨a3, c3, e⟩), by rw [List.length_append, List.length_singleton]; omega, HR4, hB2.trans (hbn.mono hB2.size)⟩
        case measure =>
          obtain ⟨a3, c3, e, _⟩ := str_of_row HR4.out
          rw [e]
          simp
          omega
    · have HP0 : Hid (chainR L i0 = ([], false)) := Lib.hid (by rw [HRR.out, HC.out.long (by omega) (by have := HHL.out; omega)]; rfl)
      go_wp2_with fail
      go_ret2
      rw [HP0.out]
      exact Lib.hid ⟨_, rfl, World.ownsRow_nil _ _ _ _, (HX.out _ hB).1⟩
end Go.Proofs.Ytapjhjpibefooaa
