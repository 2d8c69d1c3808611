/-
  THE WALKS of chain, names, order (package links).
-/
import Derived.Test.YtapjhjpibefooaaOrd
namespace Go.Proofs.Ytapjhjpibefooaa
open Go.RowKit Go.Shelf

set_option maxRecDepth 100000 in
set_option maxHeartbeats 4000000 in
theorem chain_any (a : Option Addr) (hs : List Int) (cap : Nat) (i0 : Int) (w : World) (hlen : hs.length ≤ 1000) (hI : Nums w.heap.size w a hs) (hk : HangOK hs) (h0 : -1 ≤ i0) (h1 : i0 < hs.length) :
    Calls Try.prog 54 #[.slice a hs.length cap, .int .i64 i0] w fun e w' => Hid (∃ v, e = .returned (.tuple #[v, .bool (chainP hs i0).2]) ∧ w'.ownsRow w.heap.size 3 1 v (chainP hs i0).1.length (nflat (chainP hs i0).1) ∧ Below w.heap.size w w') := by
  have HI := Lib.hid hI; clear hI
  have HK := Lib.hid hk; clear hk
  go_enter Try.func54, Try.ntmps54
  go_wp2
  go_loopw [1, 6] (fun i v wr => ∃ (j : Int) (out : List Int), i = .int .i64 j ∧ Hid (ChainAt hs i0 out j) ∧ Hid (∃ a' c', v = .slice a' out.length c') ∧ Hid (wr.ownsRow w.heap.size 3 1 v out.length (nflat out)) ∧ Below w.heap.size w wr) (fun i v _ => (match v with | .slice _ n _ => hs.length + 1 - n | _ => 0))
  case atStart => exact ⟨i0, [], rfl, Lib.hid (ChainAt.start h0 h1), Lib.hid ⟨_, _, rfl⟩, Lib.hid (World.ownsRow_nil _ _ _ _), Below.refl _ _⟩
  case round =>
    obtain ⟨j, out, rfl, HC, HV, HR, hB⟩ := hrel
    obtain ⟨a', c', rfl⟩ := HV.out
    have hl := HC.out.len
    have hlo := HC.out.lo
    have hhi := HC.out.hi
    have hbs := hB.size
    by_cases hj : j < 0
    · have HE := Lib.hid (HC.out.ends hj)
      go_wp2
      go_ret2
      rw [HE.out]
      exact Lib.hid ⟨_, rfl, HR.out, hB⟩
    · obtain ⟨m, rfl⟩ : ∃ m : Nat, j = m := ⟨j.toNat, by omega⟩
      obtain ⟨b, off, rfl, hbl, hc⟩ := HI.out (by omega)
      have c0 := hc m (by omega)
      have d0 := (hB.cell (p := ⟨b, off + m, none⟩) hbl).trans c0
      have HN : Hid (Nums wr.heap.size wr a' out) := Lib.hid (by
        obtain ⟨a2, c2, e, _, _, _, h⟩ := num_of_row HR.out
        cases e
        exact h)
      have hbw : b < wr.heap.size := by omega
      have HC0 := Lib.hid c0
      clear hc c0
      by_cases hm : (m : Int) ∈ out
      · have HE := Lib.hid (HC.out.back hj hm)
        have HM : Hid (num_any out (fun y => decide (y = (m : Int))) = true) := Lib.hid (by rw [num_any_mem]; exact decide_eq_true hm)
        clear hm
        go_wp2_with (go_at_call 68; (with_reducible refine (num_contains _ out _ (m : Int) _ _ (by omega) HN.out).mono ?_); rintro e w' ⟨rfl, rfl⟩; rw [HM.out])
        go_ret2
        rw [HE.out]
        exact Lib.hid ⟨_, rfl, HR.out, hB⟩
      · have HE := Lib.hid (HC.out.next HK.out hj hm)
        have HM : Hid (num_any out (fun y => decide (y = (m : Int))) = false) := Lib.hid (by rw [num_any_mem]; exact decide_eq_false hm)
        clear hm
        go_wp2_with (first
          | (go_at_call 68; (with_reducible refine (num_contains _ out _ (m : Int) _ _ (by omega) HN.out).mono ?_); rintro e w' ⟨rfl, rfl⟩; rw [HM.out])
          | (at_builtin; refine num_append rfl _ _ rfl w.heap.size _ out rfl (HR.out.alloc _) _ (m : Int) rfl (by simp) (by omega) (by simp; omega) ?_; intro v1 w2 hown2 hg2; have hB2 := grown_own (HR.out.alloc _) hg2 (hB.alloc hbs _) (by simp; omega) (Nat.le_refl _); have d2 := (hB2.cell (p := ⟨b, off + m, none⟩) hbl).trans HC0.out))
        go_roundw
        case rel => exact ⟨_, _, rfl, HE, Lib.hid (by obtain ⟨a3, c3, e, _⟩ := num_of_row hown2; exact ⟨a3, c3, e⟩), Lib.hid hown2, hB2⟩
        case measure =>
          obtain ⟨a3, c3, e, _⟩ := num_of_row hown2
          rw [e]
          simp
          omega

/-- The names of some cues. -/
def namesOf (L : List CueR) (I : List Int) : List ByteArray := I.map fun i => (cg L i.toNat).name
theorem namesOf_len (L : List CueR) (I : List Int) : (namesOf L I).length = I.length := by simp [namesOf]
theorem namesOf_succ (L : List CueR) (I : List Int) (k : Nat) (h : k < I.length) : namesOf L (I.take (k + 1)) = namesOf L (I.take k) ++ [(cg L (ig I k).toNat).name] := by
  unfold namesOf
  rw [List.take_add_one, List.map_append, ig_get h]
  rfl

set_option maxRecDepth 100000 in
set_option maxHeartbeats 4000000 in
theorem names_any (ca pa a : Option Addr) (L : List CueR) (A : List (ByteArray × ByteArray)) (cc pc cap : Nat) (I : List Int) (w : World) (hlen : L.length ≤ 1000) (hlI : I.length ≤ 1000) (hI : Cues w.heap.size w ca L) (hN : Nums w.heap.size w a I) (hin : ∀ x ∈ I, 0 ≤ x ∧ x < (L.length : Int)) :
    Calls Try.prog 56 #[.agg #[.slice ca L.length cc, .slice pa A.length pc], .slice a I.length cap] w fun e w' => Hid (∃ v, e = .returned v ∧ w'.ownsRow w.heap.size 9 1 v (namesOf L I).length (sflat (namesOf L I)) ∧ Below w.heap.size w w') := by
  have hb0 : Below w.heap.size w (w.alloc (.cells #[.slice ca L.length cc, .slice pa A.length pc] 25)) := below_new w _
  have HI := Lib.hid (hI.grow hb0); clear hI
  have HN := Lib.hid (hN.grow hb0); clear hN
  have HIN := Lib.hid hin; clear hin
  have HX : Hid (∀ wr, Below (w.alloc (.cells #[.slice ca L.length cc, .slice pa A.length pc] 25)).heap.size (w.alloc (.cells #[.slice ca L.length cc, .slice pa A.length pc] 25)) wr → Below w.heap.size w wr ∧ wr.cell? ⟨w.heap.size, 0, none⟩ = some (.slice ca L.length cc) ∧ wr.cell? ⟨w.heap.size, 1, none⟩ = some (.slice pa A.length pc)) := Lib.hid fun wr h => ⟨mono_in _ h, box2 h⟩
  have hz0 : w.heap.size ≤ (w.alloc (.cells #[.slice ca L.length cc, .slice pa A.length pc] 25)).heap.size := hb0.size
  clear hb0
  go_enter Try.func56, Try.ntmps56
  go_wp2
  generalize w.alloc (.cells #[.slice ca L.length cc, .slice pa A.length pc] 25) = W0 at *
  go_loopw [5, 10] (fun v i wr => ∃ k : Nat, k ≤ I.length ∧ i = .int .i64 k ∧ Below W0.heap.size W0 wr ∧ Hid (wr.ownsRow W0.heap.size 9 1 v (namesOf L (I.take k)).length (sflat (namesOf L (I.take k))))) (fun _ i _ => I.length - (intOf i).toNat)
  case atStart => exact ⟨0, Nat.zero_le _, rfl, Below.refl _ _, Lib.hid (World.ownsRow_nil _ _ _ _)⟩
  case round =>
    obtain ⟨k, hk, rfl, hB, HR⟩ := hrel
    obtain ⟨_, z0, z1⟩ := HX.out _ hB
    have hbs := hB.size
    by_cases hlt : k < I.length
    · obtain ⟨b, off, rfl, hbl, hc⟩ := HN.out (by omega)
      have d0 := (hB.cell (p := ⟨b, off + k, none⟩) hbl).trans (hc k hlt)
      have hm := HIN.out (ig I k) (by rw [ig_eq I k hlt]; exact List.getElem_mem hlt)
      obtain ⟨m, hm'⟩ : ∃ m : Nat, ig I k = m := ⟨(ig I k).toNat, by omega⟩
      rw [hm'] at d0 hm
      obtain ⟨b2, off2, rfl, hbl2, hc2⟩ := HI.out (by omega)
      obtain ⟨e0, _⟩ := hc2 m (by omega)
      have f0 := (hB.cell (p := ⟨b2, off2 + m * 7, none⟩) hbl2).trans e0
      have HS : Hid (namesOf L (I.take (k + 1)) = namesOf L (I.take k) ++ [(cg L m).name]) := Lib.hid (by rw [namesOf_succ L I k hlt, hm']; rfl)
      have HL : Hid ((namesOf L (I.take k)).length ≤ 1000000) := Lib.hid (by rw [namesOf_len, List.length_take]; omega)
      clear hc hc2 e0 hm'
      go_wp2_with (at_builtin; refine str_append rfl _ _ rfl W0.heap.size _ (namesOf L (I.take k)) rfl (HR.out.alloc _) _ (cg L m).name rfl (by simp) HL.out (by simp; omega) ?_; intro v1 w2 hown2 hg2; have hB2 := grown_own (HR.out.alloc _) hg2 (hB.alloc hbs _) (by simp; omega) (Nat.le_refl _))
      go_roundw
      case rel => exact ⟨k + 1, by omega, by go_num, hB2, Lib.hid (by rw [HS.out]; exact hown2)⟩
      case measure => simp [intOf]; omega
    · obtain rfl : k = I.length := by omega
      have HT : Hid (I.take I.length = I) := Lib.hid (List.take_length)
      go_wp2
      go_ret
      rw [HT.out] at HR
      exact Lib.hid ⟨_, rfl, ownsRow_base HR.out hz0, (HX.out _ hB).1⟩
end Go.Proofs.Ytapjhjpibefooaa
