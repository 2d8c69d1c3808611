/-
  PLAIN: the names of the loop that is found.
-/
import Derived.Test.YtapjhjpibefooaaAfterP
namespace Go.Proofs.Ytapjhjpibefooaa

theorem sg_names (L : List CueR) (I : List Int) (j : Nat) (h : j < I.length) : sg (namesOf L I) j = (cg L (ig I j).toNat).name := by
  unfold sg namesOf
  rw [List.getElem?_map, ig_get h]
  rfl
theorem loop_names {L : List CueR} {A : List (ByteArray × ByteArray)} (h : linkedB L A = true) {i : Nat} (hi : loopI (hangs L) = some i) :
    2 ≤ (namesOf L (chainP (hangs L) (i : Int)).1).length ∧ (namesOf L (chainP (hangs L) (i : Int)).1).length ≤ L.length ∧
      ∀ j, j < (namesOf L (chainP (hangs L) (i : Int)).1).length → ∃ m : Nat, m < L.length ∧ cue_first L (fun r => decide (r.name = sg (namesOf L (chainP (hangs L) (i : Int)).1) j)) = m ∧
        (cg L m).after = sg (namesOf L (chainP (hangs L) (i : Int)).1) ((j + 1) % (namesOf L (chainP (hangs L) (i : Int)).1).length) ∧
        str_first (namesOf L (chainP (hangs L) (i : Int)).1) (fun y => decide (y = sg (namesOf L (chainP (hangs L) (i : Int)).1) j)) = j := by
  obtain ⟨I, hI, h2, hn, hnd, hin, haf⟩ := loop_facts h hi
  rw [hI, namesOf_len]
  refine ⟨h2, hn, fun j hj => ?_⟩
  obtain ⟨a, b⟩ := hin _ (mem_of_ig hj)
  have hml : (ig I j).toNat < L.length := by omega
  refine ⟨(ig I j).toNat, hml, ?_, ?_, ?_⟩
  · rw [sg_names L I j hj]
    exact (linked_cue h _ hml).2.1
  · rw [haf j hj, sg_names L I _ (Nat.mod_lt _ (by omega))]
  · refine str_first_hit _ _ j (by rw [namesOf_len]; exact hj) (decide_eq_true rfl) fun s hs => decide_eq_false fun e => ?_
    rw [sg_names L I j hj, sg_names L I s (by omega)] at e
    obtain ⟨c, d⟩ := hin _ (mem_of_ig (show s < I.length by omega))
    have := name_inj h (show (ig I s).toNat < L.length by omega) hml e
    exact absurd (ig_inj hnd (show s < I.length by omega) hj (by omega)) (by omega)
end Go.Proofs.Ytapjhjpibefooaa
