/-
  PLAIN: where each cue stands in the order; how a loop hangs together.
-/
import Derived.Test.YtapjhjpibefooaaOrdLoop
namespace Go.Proofs.Ytapjhjpibefooaa

/-- Where x stands among the first t of l; -1 if nowhere. -/
def posTo (l : List Int) : Nat → Int → Int
  | 0, _ => -1
  | t + 1, x => if ig l t = x then (t : Int) else posTo l t x
theorem posTo_none {l : List Int} {t : Nat} {x : Int} (h : ∀ s, s < t → ig l s ≠ x) : posTo l t x = -1 := by
  induction t with
  | zero => rfl
  | succ t ih => simp only [posTo]; rw [if_neg (h t (by omega))]; exact ih fun s hs => h s (by omega)
theorem posTo_at {l : List Int} (hn : l.Nodup) {t s : Nat} (hs : s < t) (ht : t ≤ l.length) : posTo l t (ig l s) = s := by
  induction t with
  | zero => omega
  | succ t ih =>
    simp only [posTo]
    by_cases e : s = t
    · subst e; rw [if_pos rfl]
    · rw [if_neg (fun h => e (ig_inj hn (by omega) (by omega) h.symm))]
      exact ih (by omega) (by omega)
def posL (n : Nat) (l : List Int) (t : Nat) : List Int := (List.range n).map fun x : Nat => posTo l t x
theorem posL_len (n : Nat) (l : List Int) (t : Nat) : (posL n l t).length = n := by simp [posL]
theorem posL_at (n : Nat) (l : List Int) (t x : Nat) (h : x < n) : ig (posL n l t) x = posTo l t x := by
  unfold ig posL
  rw [List.getElem?_map, List.getElem?_range h]
  rfl
theorem posL_set (n : Nat) (l : List Int) (t k : Nat) (hk : k < n) (e : ig l t = k) : posL n l (t + 1) = (posL n l t).set k (t : Int) := by
  refine ig_ext _ _ (by simp [posL]) fun j hj => ?_
  rw [posL_len] at hj
  rw [ig_set _ _ _ _ (by rw [posL_len]; exact hk), posL_at _ _ _ _ hj, posL_at _ _ _ _ hj]
  simp only [posTo]
  rw [e]
  by_cases h : k = j
  · subst h; rw [if_pos rfl, if_pos rfl]
  · rw [if_neg (by omega), if_neg h]
/-- In a full order, what a cue hangs on comes earlier. -/
theorem pos_before {L : List CueR} {A : List (ByteArray × ByteArray)} (h : linkedB L A = true) (hl : ¬ (ordP (hangs L)).length < L.length) (i : Nat) (hi : i < L.length) (hl1 : (cg L i).link ≠ 1) :
    ∃ f : Nat, f < L.length ∧ findI L (cg L i).after = f ∧ posTo (ordP (hangs L)) L.length f < posTo (ordP (hangs L)) L.length i := by
  obtain ⟨hO, _⟩ := ord_at (hangs L)
  have hlen : (ordP (hangs L)).length = L.length := by have := ord_le L; omega
  rcases (linked_cue h i hi).2.2.2 with ⟨l1, _⟩ | ⟨_, _, f, hf, hfa, _⟩
  · exact absurd l1 hl1
  · refine ⟨f, hf, hfa, ?_⟩
    have hin := all_in L.length _ hO.nd (by have := hO.inn; rwa [hangs_len] at this) hlen i hi
    obtain ⟨t, ht, et⟩ := ig_of_mem hin
    obtain ⟨m, em, hnx⟩ := ord_next (hangs L) t ht
    obtain rfl : m = i := by have := em.symm.trans et; omega
    have hr := (ready_iff.1 (next_of hnx).2.1).2
    rw [hangs_at L m hi, hang_other hl1, hfa] at hr
    rcases hr with hr | hr
    · omega
    · obtain ⟨s, hs1, _, es⟩ := mem_take hr
      have a := posTo_at hO.nd (t := L.length) (s := s) (by omega) (by omega)
      have b := posTo_at hO.nd (t := L.length) (s := t) (by omega) (by omega)
      rw [es] at a
      rw [et] at b
      rw [a, b]
      omega

/-- How the loop that is found hangs together. -/
theorem loop_facts {L : List CueR} {A : List (ByteArray × ByteArray)} (h : linkedB L A = true) {i : Nat} (hi : loopI (hangs L) = some i) :
    ∃ I : List Int, (chainP (hangs L) (i : Int)).1 = I ∧ 2 ≤ I.length ∧ I.length ≤ L.length ∧ I.Nodup ∧ (∀ x ∈ I, 0 ≤ x ∧ x < (L.length : Int)) ∧
      ∀ j, j < I.length → (cg L (ig I j).toNat).after = (cg L (ig I ((j + 1) % I.length)).toNat).name := by
  obtain ⟨hil, hlb⟩ := loopI_of hi
  have hK := hang_ok L
  have hHL := hangs_len L
  obtain ⟨I, ii, hc, hq, hpos, hI1, hend⟩ := chain_ends (hangs L) hK (i : Int) (by omega) (by omega)
  have hinn : ∀ x ∈ I, 0 ≤ x ∧ x < (L.length : Int) := by have := hc.inn; rwa [hHL] at this
  unfold loopB at hlb
  simp only [Bool.and_eq_true, Bool.not_eq_true', decide_eq_true_eq] at hlb
  rw [hI1] at hlb
  have hlast : ig (hangs L) (ig I (I.length - 1)).toNat = (i : Int) := hlb.2
  have hhead : ig I 0 = (i : Int) := hq.head hpos
  -- one hangs on the next
  have hnext : ∀ j, j < I.length → ig (hangs L) (ig I j).toNat = ig I ((j + 1) % I.length) := by
    intro j hj
    rcases Nat.lt_or_ge (j + 1) I.length with l | l
    · rw [Nat.mod_eq_of_lt l]; exact hq.step j l
    · obtain rfl : j = I.length - 1 := by omega
      rw [show I.length - 1 + 1 = I.length by omega, Nat.mod_self, hhead]
      exact hlast
  have hnm : ∀ j, j < I.length → ∃ m f : Nat, ig I j = m ∧ m < L.length ∧ f < L.length ∧ ig I ((j + 1) % I.length) = f ∧ findI L (cg L m).after = f ∧ m ≠ f := by
    intro j hj
    obtain ⟨a, b⟩ := hinn _ (mem_of_ig hj)
    obtain ⟨m, hm⟩ : ∃ m : Nat, ig I j = m := ⟨(ig I j).toNat, by omega⟩
    have hml : m < L.length := by omega
    have hn := hnext j hj
    rw [hm, Int.toNat_natCast, hangs_at L m hml] at hn
    have hin := (hinn _ (mem_of_ig (show (j + 1) % I.length < I.length from Nat.mod_lt _ hpos))).1
    rcases (linked_cue h m hml).2.2.2 with ⟨l1, _⟩ | ⟨_, l1, f, hf, hfa, hne⟩
    · rw [hang_manual l1] at hn; omega
    · rw [hang_other l1, hfa] at hn
      exact ⟨m, f, hm, hml, hf, hn.symm, hfa, fun e => hne e.symm⟩
  refine ⟨I, hI1, ?_, by have := hc.len; omega, hc.nd, hinn, fun j hj => ?_⟩
  · rcases Nat.lt_or_ge I.length 2 with l | l
    · exfalso
      obtain ⟨m, f, hm, _, _, hf, _, hne⟩ := hnm 0 hpos
      rw [show I.length = 1 by omega] at hf
      have : ig I 0 = (f : Int) := hf
      omega
    · exact l
  · obtain ⟨m, f, hm, hml, hf, hnx, hfa, _⟩ := hnm j hj
    rw [hm, hnx, Int.toNat_natCast, Int.toNat_natCast]
    have := (findI_name L (cg L m).after (by omega)).2.1
    rw [hfa, Int.toNat_natCast] at this
    exact this.symm
/-- The names of different cues differ. -/
theorem name_inj {L : List CueR} {A : List (ByteArray × ByteArray)} (h : linkedB L A = true) {a b : Nat} (ha : a < L.length) (hb : b < L.length) (e : (cg L a).name = (cg L b).name) : a = b := by
  have x := (linked_cue h a ha).2.1
  have y := (linked_cue h b hb).2.1
  rw [e, y] at x
  omega
end Go.Proofs.Ytapjhjpibefooaa
