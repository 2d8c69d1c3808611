/-
  PLAIN: the loop that a chain comes back to; where the reference's search for it stands.
-/
import Derived.Test.YtapjhjpibefooaaStPlain
import Derived.Test.YtapjhjpibefooaaChainN
namespace Go.Proofs.Ytapjhjpibefooaa

def lastN (I : List Int) : Int := ig I (I.length - 1)
/-- The chain of i comes back to i. -/
def loopB (hs : List Int) (i : Int) : Bool := !(chainP hs i).2 && decide (ig hs (lastN (chainP hs i).1).toNat = i)
def loopI (hs : List Int) : Option Nat := (List.range hs.length).find? fun i => loopB hs (i : Int)
def loopP (L : List CueR) (A : List (ByteArray × ByteArray)) : List ByteArray × Int := if linkedB L A then (match loopI (hangs L) with
  | some i => (namesOf L (chainP (hangs L) (i : Int)).1, 0)
  | none => ([], 12)) else ([], 1)
def loopR (L : List CueR) : List ByteArray := match loopI (hangs L) with
  | some i => namesOf L (chainP (hangs L) (i : Int)).1
  | none => []
theorem loopI_none {hs : List Int} (h : ∀ i : Nat, i < hs.length → loopB hs i = false) : loopI hs = none := by
  unfold loopI
  rw [List.find?_eq_none]
  intro x hx
  simpa using h x (by simpa using hx)
theorem loopI_some {hs : List Int} (k : Nat) (hk : k < hs.length) (h : loopB hs k = true) (hn : ∀ i : Nat, i < k → loopB hs i = false) : loopI hs = some k := by
  unfold loopI
  rw [List.find?_eq_some_iff_getElem]
  refine ⟨by simpa using h, k, by simpa using hk, by simp, fun j hj => ?_⟩
  simpa using hn j hj
theorem loopI_of {hs : List Int} {k : Nat} (h : loopI hs = some k) : k < hs.length ∧ loopB hs k = true := by
  unfold loopI at h
  rw [List.find?_eq_some_iff_getElem] at h
  obtain ⟨h1, i, hi, e, h2⟩ := h
  have hi' : i < hs.length := by simpa using hi
  obtain rfl : i = k := by simpa using e
  exact ⟨hi', by simpa using h1⟩

/-- One hangs on the next. -/
structure Seq (hs : List Int) (i0 : Int) (I : List Int) (i : Int) : Prop where
  head : 0 < I.length → ig I 0 = i0
  step : ∀ j, j + 1 < I.length → ig hs (ig I j).toNat = ig I (j + 1)
  last : 0 < I.length → ig hs (lastN I).toNat = i
  start : I.length = 0 → i = i0
theorem Seq.nil (hs : List Int) (i0 : Int) : Seq hs i0 [] i0 := ⟨fun h => absurd h (Nat.lt_irrefl _), (fun _ h => absurd h (Nat.not_lt_zero _)), fun h => absurd h (Nat.lt_irrefl _), fun _ => rfl⟩
theorem lastN_snoc (I : List Int) (i : Int) : lastN (I ++ [i]) = i := by
  unfold lastN
  rw [List.length_append, List.length_singleton, Nat.add_sub_cancel, ig_new]
theorem Seq.next {hs I : List Int} {i0 i : Int} (h : Seq hs i0 I i) : Seq hs i0 (I ++ [i]) (ig hs i.toNat) := by
  refine ⟨fun _ => ?_, fun j hj => ?_, fun _ => by rw [lastN_snoc], fun hl => by simp at hl⟩
  · rcases Nat.eq_zero_or_pos I.length with e | e
    · obtain rfl : I = [] := List.eq_nil_of_length_eq_zero e
      rw [← h.start rfl]; rfl
    · rw [ig_old _ _ _ e]; exact h.head e
  · rw [List.length_append, List.length_singleton] at hj
    rw [ig_old _ _ _ (by omega)]
    rcases Nat.lt_or_ge (j + 1) I.length with l | l
    · rw [ig_old _ _ _ l]; exact h.step j l
    · have hlj : I.length = j + 1 := by omega
      have := h.last (by omega)
      unfold lastN at this
      rw [show I.length - 1 = j by omega] at this
      rw [this, show j + 1 = I.length by omega, ig_new]
/-- How a chain ends. -/
theorem chain_ends (hs : List Int) (hk : HangOK hs) (i0 : Int) (h0 : 0 ≤ i0) (h1 : i0 < hs.length) : ∃ I i, ChainAt hs i0 I i ∧ Seq hs i0 I i ∧ 0 < I.length ∧ (chainP hs i0).1 = I ∧ ((i < 0 ∧ (chainP hs i0).2 = true) ∨ (i ∈ I ∧ (chainP hs i0).2 = false)) := by
  have main : ∀ f I i, ChainAt hs i0 I i → Seq hs i0 I i → hs.length + 1 - I.length = f → (I.length = 0 → 0 ≤ i) → ∃ I i, ChainAt hs i0 I i ∧ Seq hs i0 I i ∧ 0 < I.length ∧ (chainP hs i0).1 = I ∧ ((i < 0 ∧ (chainP hs i0).2 = true) ∨ (i ∈ I ∧ (chainP hs i0).2 = false)) := by
    intro f
    induction f with
    | zero => intro I i h _ hf; have := h.len; omega
    | succ f ih =>
      intro I i h hs' hf hz
      by_cases hi : i < 0
      · exact ⟨I, i, h, hs', Nat.pos_of_ne_zero (fun e => by have := hz e; omega), by rw [h.ends hi], .inl ⟨hi, by rw [h.ends hi]⟩⟩
      · by_cases hm : i ∈ I
        · exact ⟨I, i, h, hs', List.length_pos_of_mem hm, by rw [h.back hi hm], .inr ⟨hm, by rw [h.back hi hm]⟩⟩
        · exact ih _ _ (h.next hk hi hm) hs'.next (by rw [List.length_append, List.length_singleton]; have := h.len; omega) (fun e => by simp at e)
  exact main _ [] i0 (ChainAt.start (by omega) h1) (Seq.nil _ _) rfl (fun _ => h0)

/-- Where the reference's search stands: at k, out behind it. -/
def RL (L : List CueR) (hs : List Int) (i0 : Int) (out : List ByteArray) (k : Int) : Prop :=
  (∃ I, ChainAt hs i0 I k ∧ Seq hs i0 I k ∧ k ∉ I ∧ out = namesOf L I) ∨ (loopB hs i0 = false ∧ ∃ C : List Int, k ∈ C ∧ (∀ x ∈ C, 0 ≤ x) ∧ (∀ x ∈ C, ig hs x.toNat ∈ C) ∧ i0 ∉ C)
theorem RL.start (L : List CueR) {hs : List Int} {i0 : Int} (h0 : 0 ≤ i0) (h1 : i0 < hs.length) : RL L hs i0 [] i0 := .inl ⟨[], ChainAt.start (by omega) h1, Seq.nil _ _, by simp, rfl⟩
theorem RL.breaks {L : List CueR} {hs : List Int} {i0 k : Int} {out : List ByteArray} (hk : HangOK hs) (h0 : 0 ≤ k) (h : RL L hs i0 out k) (he : ig hs k.toNat < 0) : loopB hs i0 = false := by
  rcases h with ⟨I, hc, _, hi, _⟩ | ⟨h, _⟩
  · unfold loopB
    rw [(hc.next hk (by omega) hi).ends he]
    rfl
  · exact h
theorem namesOf_snoc (L : List CueR) (I : List Int) (k : Int) : namesOf L (I ++ [k]) = namesOf L I ++ [(cg L k.toNat).name] := by
  unfold namesOf; rw [List.map_append]; rfl
theorem RL.found {L : List CueR} {hs : List Int} {i0 k : Int} {out : List ByteArray} (hk : HangOK hs) (h0 : 0 ≤ k) (hi0 : 0 ≤ i0) (h : RL L hs i0 out k) (he : ig hs k.toNat = i0) : loopB hs i0 = true ∧ namesOf L (chainP hs i0).1 = out ++ [(cg L k.toNat).name] := by
  rcases h with ⟨I, hc, hsq, hi, rfl⟩ | ⟨_, C, hkC, h1, h2, h3⟩
  · have hn := hc.next hk (by omega) hi
    have hq := hsq.next
    have hm : i0 ∈ I ++ [k] := by
      have := hq.head (by simp)
      rw [ig_eq _ 0 (by simp)] at this
      rw [← this]
      exact List.getElem_mem _
    rw [he] at hn
    have hb := hn.back (by omega) hm
    refine ⟨?_, ?_⟩
    · unfold loopB
      rw [hb, lastN_snoc, he]
      simp
    · rw [hb]; exact namesOf_snoc L I k
  · have := h2 k hkC
    rw [he] at this
    exact absurd this h3
theorem RL.goes {L : List CueR} {hs : List Int} {i0 k : Int} {out : List ByteArray} (hk : HangOK hs) (h0 : 0 ≤ k) (h : RL L hs i0 out k) (he : 0 ≤ ig hs k.toNat) (hne : ig hs k.toNat ≠ i0) : RL L hs i0 (out ++ [(cg L k.toNat).name]) (ig hs k.toNat) := by
  rcases h with ⟨I, hc, hsq, hi, rfl⟩ | ⟨hf, C, hkC, h1, h2, h3⟩
  · have hn := hc.next hk (by omega) hi
    have hq := hsq.next
    by_cases hm : ig hs k.toNat ∈ I ++ [k]
    · have hb := hn.back (by omega) hm
      obtain ⟨p, hp, ep⟩ := List.getElem_of_mem hm
      have hp0 : 0 < p := by
        rcases Nat.eq_zero_or_pos p with e | e
        · subst e
          have := hq.head (by simp)
          rw [ig_eq _ 0 (by simp), ep] at this
          exact absurd this hne
        · exact e
      refine .inr ⟨?_, (I ++ [k]).drop p, ?_, fun x hx => (hn.inn x (List.mem_of_mem_drop hx)).1, fun x hx => ?_, fun hx => ?_⟩
      · unfold loopB
        rw [hb, lastN_snoc, decide_eq_false hne, Bool.and_false]
      · rw [List.mem_iff_getElem?]
        exact ⟨0, by rw [List.getElem?_drop, Nat.add_zero, List.getElem?_eq_getElem hp, ep]⟩
      · obtain ⟨j, hj⟩ := List.mem_iff_getElem?.1 hx
        rw [List.getElem?_drop] at hj
        have hjl := (List.getElem?_eq_some_iff.1 hj).1
        have hxe : ig (I ++ [k]) (p + j) = x := by unfold ig; rw [hj]; rfl
        rw [List.mem_iff_getElem?]
        rcases Nat.lt_or_ge (p + j + 1) (I ++ [k]).length with l | l
        · have := hq.step (p + j) l
          rw [hxe] at this
          exact ⟨j + 1, by rw [List.getElem?_drop, this, ig_eq _ _ l, show p + (j + 1) = p + j + 1 by omega, List.getElem?_eq_getElem l]⟩
        · have hlast : lastN (I ++ [k]) = x := by unfold lastN; rw [show (I ++ [k]).length - 1 = p + j by omega]; exact hxe
          rw [lastN_snoc] at hlast
          rw [← hlast]
          exact ⟨0, by rw [List.getElem?_drop, Nat.add_zero, List.getElem?_eq_getElem hp, ep]⟩
      · obtain ⟨j, hj⟩ := List.mem_iff_getElem?.1 hx
        rw [List.getElem?_drop] at hj
        have hjl := (List.getElem?_eq_some_iff.1 hj).1
        have hxe : ig (I ++ [k]) (p + j) = i0 := by unfold ig; rw [hj]; rfl
        have hh := hq.head (by simp)
        exact nodup_at hn.nd (show 0 < p + j by omega) hjl (by rw [hh, hxe])
    · exact .inl ⟨I ++ [k], hn, hq, hm, (namesOf_snoc L I k).symm⟩
  · exact .inr ⟨hf, C, h2 k hkC, h1, h2, h3⟩
theorem RL.long {L : List CueR} {hs : List Int} {i0 k : Int} {out : List ByteArray} (h : RL L hs i0 out k) (hl : hs.length < out.length) : loopB hs i0 = false := by
  rcases h with ⟨I, hc, _, hi, rfl⟩ | ⟨hf, _⟩
  · have := hc.len
    rw [namesOf_len] at hl
    omega
  · exact hf
end Go.Proofs.Ytapjhjpibefooaa
