/-
  PLAIN: there is exactly one of an order and a loop.
-/
import Derived.Test.YtapjhjpibefooaaLoopP
namespace Go.Proofs.Ytapjhjpibefooaa

theorem ig_inj {l : List Int} (hn : l.Nodup) {i j : Nat} (hi : i < l.length) (hj : j < l.length) (h : ig l i = ig l j) : i = j := by
  rcases Nat.lt_trichotomy i j with l1 | l1 | l1
  · exact absurd h (nodup_at hn l1 hj)
  · exact l1
  · exact absurd h.symm (nodup_at hn l1 hi)
theorem ig_of_mem {l : List Int} {x : Int} (h : x ∈ l) : ∃ i, i < l.length ∧ ig l i = x := by
  obtain ⟨i, hi, e⟩ := List.getElem_of_mem h
  exact ⟨i, hi, by rw [ig_eq l i hi, e]⟩
theorem mem_of_ig {l : List Int} {i : Nat} (h : i < l.length) : ig l i ∈ l := by rw [ig_eq l i h]; exact List.getElem_mem h

/-- A chain that runs back into itself gives a loop where it comes back. -/
theorem loop_at {hs : List Int} (hk : HangOK hs) {i0 ii : Int} {I : List Int} (hc : ChainAt hs i0 I ii) (hq : Seq hs i0 I ii) (hm : ii ∈ I) : 0 ≤ ii ∧ loopB hs ii = true := by
  obtain ⟨p, hp, ep⟩ := ig_of_mem hm
  have h0 : 0 ≤ ii := (hc.inn ii hm).1
  have h1 : ii < hs.length := (hc.inn ii hm).2
  refine ⟨h0, ?_⟩
  obtain ⟨J, jj, hcJ, hqJ, hposJ, hJ1, hend⟩ := chain_ends hs hk ii h0 h1
  have hJ0 : ig J 0 = ii := hqJ.head hposJ
  have hlastI : ig hs (ig I (I.length - 1)).toNat = ii := hq.last (by omega)
  -- the two run alike
  have run : ∀ t, t < J.length → p + t < I.length → ig J t = ig I (p + t) := by
    intro t
    induction t with
    | zero => intro _ _; rw [hJ0, Nat.add_zero, ep]
    | succ t ih =>
      intro ht1 ht2
      have a := ih (by omega) (by omega)
      have b := hqJ.step t ht1
      have c := hq.step (p + t) (by omega)
      rw [← b, a, c]
      rfl
  have hle : J.length ≤ I.length - p := by
    rcases Nat.lt_or_ge (I.length - p) J.length with l | l
    · have a := run (I.length - p - 1) (by omega) (by omega)
      have b := hqJ.step (I.length - p - 1) (by omega)
      rw [a, show p + (I.length - p - 1) = I.length - 1 by omega, hlastI, ← hJ0] at b
      exact absurd b.symm (by
        intro e
        have := ig_inj hcJ.nd (by omega) (by omega) e
        omega)
    · exact l
  have hlastJ : ig hs (lastN J).toNat = jj := hqJ.last hposJ
  have ha := run (J.length - 1) (by omega) (by omega)
  have hjm : jj ∈ J := by
    rcases hend with ⟨hneg, _⟩ | ⟨h, _⟩
    · exfalso
      have hl2 : ig hs (ig J (J.length - 1)).toNat = jj := hlastJ
      rw [ha] at hl2
      rcases Nat.lt_or_ge (p + (J.length - 1) + 1) I.length with l | l
      · have b := hq.step (p + (J.length - 1)) l
        rw [hl2] at b
        have := (hc.inn _ (mem_of_ig l)).1
        omega
      · rw [show p + (J.length - 1) = I.length - 1 by omega, hlastI] at hl2
        omega
    · exact h
  have hb : (chainP hs ii).2 = false := by
    rcases hend with ⟨hneg, _⟩ | ⟨_, h⟩
    · have := (hcJ.inn _ hjm).1
      omega
    · exact h
  have hji : jj = ii := by
    have hl2 : ig hs (ig J (J.length - 1)).toNat = jj := hlastJ
    rw [ha] at hl2
    rcases Nat.lt_or_ge (p + (J.length - 1) + 1) I.length with l | l
    · exfalso
      have b := hq.step (p + (J.length - 1)) l
      obtain ⟨t, ht, et⟩ := ig_of_mem hjm
      have c := run t ht (by omega)
      rw [← hl2, b] at et
      rw [c] at et
      have := ig_inj hc.nd (by omega) l et
      omega
    · rw [show p + (J.length - 1) = I.length - 1 by omega, hlastI] at hl2
      exact hl2.symm
  unfold loopB
  rw [hb, hJ1, hlastJ, hji]
  simp
/-- An order that does not have all cues leaves a loop. -/
theorem loop_of_short {hs : List Int} (hk : HangOK hs) (h : (ordP hs).length < hs.length) : loopI hs ≠ none := by
  obtain ⟨hO, hn⟩ := ord_at hs
  have hnr : ∀ i : Nat, i < hs.length → (i : Int) ∉ ordP hs → 0 ≤ ig hs i ∧ ig hs i ∉ ordP hs := by
    intro i hi hm
    have hr : readyB hs (ordP hs) i = false := by
      cases e : readyB hs (ordP hs) i
      · rfl
      · unfold nextO at hn
        rw [List.find?_eq_none] at hn
        exact absurd e (hn i (by simpa using hi))
    have h2 : ¬ readyB hs (ordP hs) i = true := by rw [hr]; decide
    rw [ready_iff] at h2
    constructor
    · rcases (show ig hs i < 0 ∨ 0 ≤ ig hs i by omega) with l | l
      · exact absurd ⟨hm, .inl l⟩ h2
      · exact l
    · exact fun hx => h2 ⟨hm, .inr hx⟩
  -- a cue that is not done
  have hex : ∃ i : Nat, i < hs.length ∧ (i : Int) ∉ ordP hs := by
    refine Classical.byContradiction fun hno => ?_
    have hall : ∀ i : Nat, i < hs.length → (i : Int) ∈ ordP hs := fun i hi => Classical.byContradiction fun hm => hno ⟨i, hi, hm⟩
    have hin : ∀ x ∈ (List.range hs.length).map (fun i : Nat => (i : Int)), x ∈ ordP hs := by
      intro x hx
      obtain ⟨i, hi, rfl⟩ := List.mem_map.1 hx
      exact hall i (by simpa using hi)
    have hsub : ∀ (a b : List Int), a.Nodup → (∀ x ∈ a, x ∈ b) → a.length ≤ b.length := by
      intro a
      induction a with
      | nil => exact fun b _ _ => Nat.zero_le _
      | cons x r ih =>
        intro b hnd hsub
        have hxb := hsub x List.mem_cons_self
        rw [List.nodup_cons] at hnd
        have := ih (b.erase x) hnd.2 fun y hy => (List.mem_erase_of_ne (fun e => hnd.1 (by rw [← e]; exact hy))).2 (hsub y (List.mem_cons_of_mem _ hy))
        rw [List.length_erase_of_mem hxb] at this
        have hp := List.length_pos_of_mem hxb
        rw [List.length_cons]
        omega
    have := hsub _ _ (by
      rw [List.Nodup, List.pairwise_map]
      exact List.nodup_range.imp fun h e => h (by omega)) hin
    simp at this
    omega
  obtain ⟨i, hi, hm⟩ := hex
  obtain ⟨I, ii, hc, hq, hpos, hI1, hend⟩ := chain_ends hs hk (i : Int) (by omega) (by omega)
  have hstay : ∀ j, j < I.length → ig I j ∉ ordP hs := by
    intro j
    induction j with
    | zero => intro h0; rw [hq.head h0]; exact hm
    | succ j ih =>
      intro hj
      have a := ih (by omega)
      have hin := hc.inn _ (mem_of_ig (show j < I.length by omega))
      obtain ⟨m, hm'⟩ : ∃ m : Nat, ig I j = m := ⟨(ig I j).toNat, by omega⟩
      have b := hq.step j hj
      rw [hm', Int.toNat_natCast] at b
      rw [← b]
      rw [hm'] at a hin
      exact (hnr m (by omega) a).2
  have hback : ii ∈ I := by
    rcases hend with ⟨hneg, _⟩ | ⟨h, _⟩
    · exfalso
      have a := hstay (I.length - 1) (by omega)
      have hin := hc.inn _ (mem_of_ig (show I.length - 1 < I.length by omega))
      obtain ⟨m, hm'⟩ : ∃ m : Nat, ig I (I.length - 1) = m := ⟨(ig I (I.length - 1)).toNat, by omega⟩
      have b := hq.last hpos
      unfold lastN at b
      rw [hm', Int.toNat_natCast] at b
      rw [hm'] at a hin
      have := (hnr m (by omega) a).1
      omega
    · exact h
  obtain ⟨h0, hl⟩ := loop_at hk hc hq hback
  have hii := (hc.inn ii hback).2
  intro hnone
  unfold loopI at hnone
  rw [List.find?_eq_none] at hnone
  have := hnone ii.toNat (by simp; omega)
  rw [show ((ii.toNat : Nat) : Int) = ii by omega, hl] at this
  exact this rfl
/-- An order that has all cues leaves none. -/
theorem no_loop_of_full {hs : List Int} (hk : HangOK hs) (h : ¬ (ordP hs).length < hs.length) : loopI hs = none := by
  obtain ⟨hO, _⟩ := ord_at hs
  have hlen : (ordP hs).length = hs.length := by have := hO.len; omega
  refine loopI_none fun i hi => ?_
  cases e : loopB hs (i : Int)
  · rfl
  · exfalso
    obtain ⟨I, ii, hc, hq, hpos, hI1, hend⟩ := chain_ends hs hk (i : Int) (by omega) (by omega)
    unfold loopB at e
    simp only [Bool.and_eq_true, Bool.not_eq_true', decide_eq_true_eq] at e
    rw [hI1] at e
    have hin0 := all_in hs.length _ hO.nd hO.inn hlen i hi
    obtain ⟨t0, ht0, et0⟩ := ig_of_mem hin0
    -- what a cue hangs on comes earlier
    have early : ∀ t, t < (ordP hs).length → 0 ≤ ig hs (ig (ordP hs) t).toNat → ∃ s, s < t ∧ ig (ordP hs) s = ig hs (ig (ordP hs) t).toNat := by
      intro t ht hnn
      obtain ⟨m, em, hnx⟩ := ord_next hs t ht
      have hr := (ready_iff.1 (next_of hnx).2.1).2
      rw [em, Int.toNat_natCast] at hnn ⊢
      rcases hr with h | h
      · omega
      · obtain ⟨s, hs1, _, es⟩ := mem_take h
        exact ⟨s, hs1, es⟩
    have pos : ∀ j, j < I.length → ∃ t, t ≤ t0 ∧ ig (ordP hs) t = ig I j := by
      intro j
      induction j with
      | zero => intro h0; exact ⟨t0, Nat.le_refl _, by rw [et0, hq.head h0]⟩
      | succ j ih =>
        intro hj
        obtain ⟨t, ht, et⟩ := ih (by omega)
        have b := hq.step j hj
        have hin := (hc.inn _ (mem_of_ig hj)).1
        obtain ⟨s, hs1, es⟩ := early t (by omega) (by rw [et, b]; exact hin)
        exact ⟨s, by omega, by rw [es, et, b]⟩
    obtain ⟨t, ht, et⟩ := pos (I.length - 1) (by omega)
    have hl : ig hs (ig I (I.length - 1)).toNat = (i : Int) := e.2
    obtain ⟨s, hs1, es⟩ := early t (by omega) (by rw [et, hl]; omega)
    rw [et, hl, ← et0] at es
    have := ig_inj hO.nd (by omega) ht0 es
    omega
end Go.Proofs.Ytapjhjpibefooaa
