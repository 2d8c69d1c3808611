/-
  PLAIN: starts along a chain; where its last cue is among the roots.
-/
import Derived.Test.YtapjhjpibefooaaLaterP
import Derived.Test.YtapjhjpibefooaaAfterN
import Derived.Test.YtapjhjpibefooaaRoots
namespace Go.Proofs.Ytapjhjpibefooaa

/-- Starts as they hang together: a Manual cue. -/
theorem startsV_manual {L : List CueR} (N G : List Int) (m : Nat) (hm : m < L.length) (hl : (cg L m).link = 1) : ig (startsV L N G) m = ig G (manTo L m) + (cg L m).delay :=
  pass2_manual N G _ (Nat.le_refl _) m hm hl
/-- .. and any other one. -/
theorem startsV_other {L : List CueR} (hl : ¬ (ordP (hangs L)).length < L.length) (N G : List Int) (m f : Nat) (hm : m < L.length) (hf : f < L.length) (hl1 : (cg L m).link ≠ 1) (hfa : findI L (cg L m).after = f) :
    ig (startsV L N G) m = ig (startsV L N G) f + (cg L m).delay + if (cg L m).link = 2 then ig N f else 0 := by
  obtain ⟨hO, _⟩ := ord_at (hangs L)
  have hlen : (ordP (hangs L)).length = L.length := by have := ord_le L; omega
  -- what stands in the order stays
  have stay : ∀ d k x, k + d = (ordP (hangs L)).length → x < L.length → ((cg L x).link = 1 ∨ (x : Int) ∈ (ordP (hangs L)).take k) → ig (startsV L N G) x = ig (pass2 L N G k) x := by
    intro d
    induction d with
    | zero => intro k x hk _ _; obtain rfl : k = (ordP (hangs L)).length := by omega
              rfl
    | succ d ih =>
      intro k x hk hx hc
      obtain ⟨j, em, hnx⟩ := ord_next (hangs L) k (by omega)
      have hjL : j < L.length := by have := (next_of hnx).1; rwa [hangs_len] at this
      have hnot := (ready_iff.1 (next_of hnx).2.1).1
      have htk : (ordP (hangs L)).take (k + 1) = (ordP (hangs L)).take k ++ [(j : Int)] := by rw [List.take_add_one, ig_get (by omega), em]; rfl
      rw [ih (k + 1) x (by omega) hx (by
        rcases hc with c | c
        · exact .inl c
        · exact .inr (by rw [htk]; exact List.mem_append_left _ c)), pass2_succ L N G k (by omega), em]
      unfold stepS
      rw [Int.toNat_natCast]
      split
      · rfl
      · next hj1 =>
        rw [ig_set _ _ _ _ (by rw [pass2_len]; exact hjL), if_neg (fun e => ?_)]
        subst e
        rcases hc with c | c
        · exact hj1 c
        · exact hnot c
  have hin := all_in L.length _ hO.nd (by have := hO.inn; rwa [hangs_len] at this) hlen m hm
  obtain ⟨k, hk, ek⟩ := ig_of_mem hin
  obtain ⟨m', em, hnx⟩ := ord_next (hangs L) k hk
  obtain rfl : m' = m := by have := em.symm.trans ek; omega
  have hrd := (ready_iff.1 (next_of hnx).2.1).2
  rw [hangs_at L m' hm, hang_other hl1, hfa] at hrd
  have hfin : (f : Int) ∈ (ordP (hangs L)).take k := by
    rcases hrd with c | c
    · omega
    · exact c
  have htk : (ordP (hangs L)).take (k + 1) = (ordP (hangs L)).take k ++ [(m' : Int)] := by rw [List.take_add_one, ig_get hk, em]; rfl
  rw [stay ((ordP (hangs L)).length - (k + 1)) (k + 1) m' (by omega) hm (.inr (by rw [htk]; simp)), stay ((ordP (hangs L)).length - k) k f (by omega) hf (.inr hfin), pass2_succ L N G k hk, em]
  unfold stepS
  rw [Int.toNat_natCast, if_neg hl1, hfa, Int.toNat_natCast, ig_set _ _ _ _ (by rw [pass2_len]; exact hm), if_pos rfl]

/-- How a chain that ends hangs together. -/
theorem chain_facts {L : List CueR} {A : List (ByteArray × ByteArray)} (h : linkedB L A = true) (i0 : Nat) (hi : i0 < L.length) (hok : (chainP (hangs L) (i0 : Int)).2 = true) :
    ∃ I : List Int, (chainP (hangs L) (i0 : Int)).1 = I ∧ 0 < I.length ∧ I.length ≤ L.length ∧ ig I 0 = i0 ∧
      (∀ j, j < I.length → ∃ m : Nat, m < L.length ∧ ig I j = m ∧ (j + 1 < I.length → (cg L m).link ≠ 1 ∧ ∃ f : Nat, f < L.length ∧ ig I (j + 1) = f ∧ findI L (cg L m).after = f ∧ (cg L m).after = (cg L f).name) ∧ (¬ j + 1 < I.length → (cg L m).link = 1)) := by
  have hK := hang_ok L
  have hHL := hangs_len L
  obtain ⟨I, ii, hc, hq, hpos, hI1, hend⟩ := chain_ends (hangs L) hK (i0 : Int) (by omega) (by omega)
  have hinn : ∀ x ∈ I, 0 ≤ x ∧ x < (L.length : Int) := by have := hc.inn; rwa [hHL] at this
  have hneg : ii < 0 := by
    rcases hend with ⟨a, _⟩ | ⟨_, b⟩
    · exact a
    · rw [hok] at b; cases b
  refine ⟨I, hI1, hpos, by have := hc.len; omega, hq.head hpos, fun j hj => ?_⟩
  obtain ⟨a, b⟩ := hinn _ (mem_of_ig hj)
  obtain ⟨m, hm⟩ : ∃ m : Nat, ig I j = m := ⟨(ig I j).toNat, by omega⟩
  have hml : m < L.length := by omega
  refine ⟨m, hml, hm, fun hj1 => ?_, fun hj1 => ?_⟩
  · have hn := hq.step j hj1
    rw [hm, Int.toNat_natCast, hangs_at L m hml] at hn
    have hin := (hinn _ (mem_of_ig hj1)).1
    rcases (linked_cue h m hml).2.2.2 with ⟨l1, _⟩ | ⟨_, l1, f, hf, hfa, _⟩
    · rw [hang_manual l1] at hn; omega
    · rw [hang_other l1, hfa] at hn
      refine ⟨l1, f, hf, hn.symm, hfa, ?_⟩
      have := (findI_name L (cg L m).after (by omega)).2.1
      rw [hfa, Int.toNat_natCast] at this
      exact this.symm
  · have hn := hq.last hpos
    unfold lastN at hn
    rw [show I.length - 1 = j by omega, hm, Int.toNat_natCast, hangs_at L m hml] at hn
    rcases (linked_cue h m hml).2.2.2 with ⟨l1, _⟩ | ⟨_, l1, f, _, hfa, _⟩
    · exact l1
    · rw [hang_other l1, hfa] at hn; omega

/-- The sum along the first j cues of a chain; ok: lengths are added. -/
def addAt (L : List CueR) (N I : List Int) (ok : Bool) (j : Nat) : Int := (cg L (ig I j).toNat).delay + if ok = true ∧ j + 1 < I.length ∧ (cg L (ig I j).toNat).link = 2 then ig N (ig I (j + 1)).toNat else 0
def sumTo (L : List CueR) (N I : List Int) (ok : Bool) : Nat → Int
  | 0 => 0
  | j + 1 => sumTo L N I ok j + addAt L N I ok j
/-- The start of the chain's cue j is the given time of the last one, and what follows. -/
theorem start_along {L : List CueR} (hl : ¬ (ordP (hangs L)).length < L.length) (N G I : List Int)
    (hI : ∀ j, j < I.length → ∃ m : Nat, m < L.length ∧ ig I j = m ∧ (j + 1 < I.length → (cg L m).link ≠ 1 ∧ ∃ f : Nat, f < L.length ∧ ig I (j + 1) = f ∧ findI L (cg L m).after = f ∧ (cg L m).after = (cg L f).name) ∧ (¬ j + 1 < I.length → (cg L m).link = 1)) :
    ∀ d j, j + d + 1 = I.length → ig (startsV L N G) (ig I j).toNat = ig G (manTo L (ig I (I.length - 1)).toNat) + (sumTo L N I true I.length - sumTo L N I true j) := by
  intro d
  induction d with
  | zero =>
    intro j hj
    obtain ⟨m, hm, em, _, h1⟩ := hI j (by omega)
    have l1 := h1 (by omega)
    rw [show I.length - 1 = j by omega, ← hj]
    simp only [sumTo, addAt]
    rw [em, Int.toNat_natCast, startsV_manual N G m hm l1, if_neg (fun e => by omega)]
    omega
  | succ d ih =>
    intro j hj
    obtain ⟨m, hm, em, h0, _⟩ := hI j (by omega)
    obtain ⟨l1, f, hf, ef, hfa, _⟩ := h0 (by omega)
    have := ih (j + 1) (by omega)
    rw [ef, Int.toNat_natCast] at this
    rw [em, Int.toNat_natCast, startsV_other hl N G m f hm hf l1 hfa, this]
    simp only [sumTo, addAt]
    rw [em, ef, Int.toNat_natCast, Int.toNat_natCast]
    by_cases l2 : (cg L m).link = 2
    · rw [if_pos l2, if_pos ⟨trivial, by omega, l2⟩]; omega
    · rw [if_neg l2, if_neg (fun e => l2 e.2.2)]; omega

theorem sg_app_old (R : List ByteArray) (x : ByteArray) (j : Nat) (h : j < R.length) : sg (R ++ [x]) j = sg R j := by
  unfold sg; rw [List.getElem?_append_left h]
theorem sg_app_new (R : List ByteArray) (x : ByteArray) : sg (R ++ [x]) R.length = x := by
  unfold sg; rw [List.getElem?_append_right (Nat.le_refl _), Nat.sub_self]; rfl
/-- The roots: how many, and where a Manual cue's name is. -/
theorem roots_len (L : List CueR) (k : Nat) : (rootsTo L k).length = manTo L k := by
  induction k with
  | zero => rfl
  | succ k ih =>
    simp only [rootsTo, manTo]
    split
    · rw [List.length_append, ih]; rfl
    · exact ih
theorem roots_at (L : List CueR) (k m : Nat) (hm : m < k) (l1 : (cg L m).link = 1) : sg (rootsTo L k) (manTo L m) = (cg L m).name := by
  induction k with
  | zero => omega
  | succ k ih =>
    simp only [rootsTo]
    rcases Nat.lt_or_ge m k with l | l
    · have hlt := manTo_lt L m k l l1
      split
      · rw [sg_app_old _ _ _ (by rw [roots_len]; exact hlt)]; exact ih l
      · exact ih l
    · obtain rfl : m = k := by omega
      rw [if_pos l1, ← roots_len L m]
      exact sg_app_new _ _
theorem roots_from (L : List CueR) (k j : Nat) (hj : j < manTo L k) : ∃ m, m < k ∧ (cg L m).link = 1 ∧ manTo L m = j := by
  induction k with
  | zero => simp only [manTo] at hj; omega
  | succ k ih =>
    simp only [manTo] at hj
    rcases Nat.lt_or_ge j (manTo L k) with l | l
    · obtain ⟨m, a, b, c⟩ := ih l
      exact ⟨m, by omega, b, c⟩
    · split at hj
      · next l1 => exact ⟨k, by omega, l1, by omega⟩
      · omega
theorem roots_first {L : List CueR} {A : List (ByteArray × ByteArray)} (h : linkedB L A = true) (m : Nat) (hm : m < L.length) (l1 : (cg L m).link = 1) : str_first (rootsTo L L.length) (fun y => decide (y = (cg L m).name)) = manTo L m := by
  refine str_first_hit _ _ _ (by rw [roots_len]; exact manTo_lt L m _ hm l1) (by rw [roots_at L _ m hm l1]; exact decide_eq_true rfl) fun j hj => decide_eq_false fun e => ?_
  obtain ⟨m2, a, b, c⟩ := roots_from L L.length j (by have := manTo_lt L m _ hm l1; omega)
  have := roots_at L L.length m2 a b
  rw [c, e] at this
  have := name_inj h hm a this
  subst this
  omega
/-- Sums stay small. -/
theorem sumTo_small {L : List CueR} {A : List (ByteArray × ByteArray)} (h : linkedB L A = true) (N I : List Int) (ok : Bool) (hN : ok = true → ∀ x, x < L.length → 0 ≤ ig N x ∧ ig N x ≤ 2147483648)
    (hI : ∀ j, j < I.length → ∃ m : Nat, m < L.length ∧ ig I j = m) : ∀ j, j ≤ I.length → 0 ≤ sumTo L N I ok j ∧ sumTo L N I ok j ≤ 4294967296 * j := by
  intro j
  induction j with
  | zero => intro _; exact ⟨Int.le_refl _, Int.le_refl _⟩
  | succ j ih =>
    intro hj
    have h1 := ih (by omega)
    obtain ⟨m, hm, em⟩ := hI j (by omega)
    have hd := (linked_cue h m hm).2.2.1
    simp only [sumTo, addAt]
    rw [em, Int.toNat_natCast]
    split
    · next c =>
      obtain ⟨m2, hm2, em2⟩ := hI (j + 1) c.2.1
      rw [em2, Int.toNat_natCast]
      have := hN c.1 m2 hm2
      omega
    · omega
end Go.Proofs.Ytapjhjpibefooaa
