/-
  PLAIN: the starts of cues as they are made; the closure of Starts.
-/
import Derived.Test.YtapjhjpibefooaaClashP
import Derived.Test.YtapjhjpibefooaaOrder
namespace Go.Proofs.Ytapjhjpibefooaa
open Go.RowKit Go.Shelf

def wrongT (n : Int) : Bool := !timeB n
/-- The number of Manual cues before an index. -/
def manTo (L : List CueR) : Nat → Nat
  | 0 => 0
  | k + 1 => manTo L k + if (cg L k).link = 1 then 1 else 0
theorem manTo_le (L : List CueR) (k : Nat) : manTo L k ≤ k := by
  induction k with
  | zero => exact Nat.le_refl _
  | succ k ih => simp only [manTo]; split <;> omega
theorem manTo_mono (L : List CueR) (k n : Nat) (h : k ≤ n) : manTo L k ≤ manTo L n := by
  induction n with
  | zero => obtain rfl : k = 0 := by omega
            exact Nat.le_refl _
  | succ n ih =>
    rcases Nat.eq_or_lt_of_le h with e | l
    · rw [e]; exact Nat.le_refl _
    · have := ih (by omega)
      simp only [manTo]
      omega
theorem manTo_lt (L : List CueR) (k n : Nat) (h : k < n) (hl : (cg L k).link = 1) : manTo L k < manTo L n := by
  have := manTo_mono L (k + 1) n h
  simp only [manTo] at this
  rw [if_pos hl] at this
  omega
/-- The starts behind k cues of the first pass. -/
def pass1 (L : List CueR) (G : List Int) (k : Nat) : List Int := (List.range L.length).map fun i => if i < k ∧ (cg L i).link = 1 then ig G (manTo L i) + (cg L i).delay else 0
theorem pass1_len (L : List CueR) (G : List Int) (k : Nat) : (pass1 L G k).length = L.length := by simp [pass1]
theorem pass1_at (L : List CueR) (G : List Int) (k i : Nat) (h : i < L.length) : ig (pass1 L G k) i = if i < k ∧ (cg L i).link = 1 then ig G (manTo L i) + (cg L i).delay else 0 := by
  unfold ig pass1
  rw [List.getElem?_map, List.getElem?_range h]
  rfl
theorem ig_set (s : List Int) (i j : Nat) (x : Int) (hi : i < s.length) : ig (s.set i x) j = if i = j then x else ig s j := by
  unfold ig
  rw [List.getElem?_set]
  by_cases h : i = j
  · rw [if_pos h, if_pos h]
    subst h
    rw [if_pos hi]; rfl
  · rw [if_neg h, if_neg h]
theorem nflat_set (s : List Int) (i : Nat) (x : Int) : (nflat s).set i (.int .i64 x) = nflat (s.set i x) := by
  have e : ∀ l : List Int, nflat l = l.map (Value.int .i64) := fun l => by
    induction l with
    | nil => rfl
    | cons x r ih => rw [List.map_cons, ← ih]; rfl
  rw [e, e, List.map_set]
theorem pass1_skip (L : List CueR) (G : List Int) (k : Nat) (hl : (cg L k).link ≠ 1) : pass1 L G (k + 1) = pass1 L G k := by
  unfold pass1
  refine List.map_congr_left fun i hi => ?_
  by_cases e : i = k
  · subst e; rw [if_neg (fun h => hl h.2), if_neg (fun h => hl h.2)]
  · have : (i < k + 1 ∧ (cg L i).link = 1) ↔ (i < k ∧ (cg L i).link = 1) := by
      constructor <;> rintro ⟨a, b⟩ <;> exact ⟨by omega, b⟩
    simp only [this]
theorem pass1_put (L : List CueR) (G : List Int) (k : Nat) (hk : k < L.length) (hl : (cg L k).link = 1) : pass1 L G (k + 1) = (pass1 L G k).set k (ig G (manTo L k) + (cg L k).delay) := by
  refine ig_ext _ _ (by simp [pass1]) fun j hj => ?_
  rw [pass1_len] at hj
  rw [ig_set _ _ _ _ (by rw [pass1_len]; exact hk), pass1_at _ _ _ _ hj, pass1_at _ _ _ _ hj]
  by_cases e : k = j
  · subst e; rw [if_pos ⟨by omega, hl⟩, if_pos rfl]
  · rw [if_neg e]
    have : (j < k + 1 ∧ (cg L j).link = 1) ↔ (j < k ∧ (cg L j).link = 1) := by
      constructor <;> rintro ⟨a, b⟩ <;> exact ⟨by omega, b⟩
    simp only [this]
theorem pass1_zero (L : List CueR) (G : List Int) : nflat (pass1 L G 0) = List.replicate L.length (.int .i64 0) := by
  have e : ∀ l : List Int, nflat l = l.map (Value.int .i64) := fun l => by
    induction l with
    | nil => rfl
    | cons x r ih => rw [List.map_cons, ← ih]; rfl
  rw [e]
  unfold pass1
  rw [List.map_map]
  refine List.ext_getElem? fun i => ?_
  by_cases h : i < L.length
  · simp [h]
  · simp [h]

/-- One cue of the second pass. -/
def stepS (L : List CueR) (N : List Int) (s : List Int) (i : Int) : List Int :=
  if (cg L i.toNat).link = 1 then s else s.set i.toNat (ig s (findI L (cg L i.toNat).after).toNat + (cg L i.toNat).delay + if (cg L i.toNat).link = 2 then ig N (findI L (cg L i.toNat).after).toNat else 0)
def pass2 (L : List CueR) (N G : List Int) (k : Nat) : List Int := ((ordP (hangs L)).take k).foldl (stepS L N) (pass1 L G L.length)
theorem pass2_succ (L : List CueR) (N G : List Int) (k : Nat) (h : k < (ordP (hangs L)).length) : pass2 L N G (k + 1) = stepS L N (pass2 L N G k) (ig (ordP (hangs L)) k) := by
  unfold pass2
  rw [List.take_add_one, ig_get h, List.foldl_append]
  rfl
theorem stepS_len (L : List CueR) (N s : List Int) (i : Int) : (stepS L N s i).length = s.length := by
  unfold stepS; split <;> simp
theorem pass2_len (L : List CueR) (N G : List Int) (k : Nat) : (pass2 L N G k).length = L.length := by
  have main : ∀ (l s : List Int), s.length = L.length → (l.foldl (stepS L N) s).length = L.length := by
    intro l
    induction l with
    | nil => exact fun s h => h
    | cons x r ih => exact fun s h => ih _ (by rw [stepS_len]; exact h)
  exact main _ _ (pass1_len _ _ _)
def startsV (L : List CueR) (N G : List Int) : List Int := pass2 L N G (ordP (hangs L)).length
def startsP (L : List CueR) (A : List (ByteArray × ByteArray)) (N G : List Int) : List Int × Int :=
  if linkedB L A then (if N.length = L.length ∧ G.length = manTo L L.length then (if N.any wrongT || G.any wrongT then ([], 2) else if (ordP (hangs L)).length < L.length then ([], 23) else (startsV L N G, 0)) else ([], 3)) else ([], 1)
theorem wrongT_no {S : List Int} (h : S.any wrongT = false) (k : Nat) (hk : k < S.length) : 0 ≤ ig S k ∧ ig S k ≤ 2147483648 := by
  rw [List.any_eq_false] at h
  have := h (ig S k) (by rw [ig_eq S k hk]; exact List.getElem_mem hk)
  simp [wrongT, timeB] at this
  exact this

/-! ### What a linked sheet gives -/
theorem linked_cue {L : List CueR} {A : List (ByteArray × ByteArray)} (h : linkedB L A = true) (k : Nat) (hk : k < L.length) :
    isNameB (cg L k).name = true ∧ findI L (cg L k).name = k ∧ (0 ≤ (cg L k).delay ∧ (cg L k).delay ≤ 2147483648) ∧
      (((cg L k).link = 1 ∧ (cg L k).after = ⟨#[]⟩) ∨ (((cg L k).link = 2 ∨ (cg L k).link = 3) ∧ (cg L k).link ≠ 1 ∧ ∃ m : Nat, m < L.length ∧ findI L (cg L k).after = m ∧ m ≠ k)) := by
  unfold linkedB at h
  simp only [Bool.and_eq_true] at h
  have h1 := okTo_at L _ h.1.2 k hk
  unfold cueOK at h1
  simp only [Bool.and_eq_true, beq_iff_eq] at h1
  obtain ⟨⟨⟨h2, h3⟩, h4⟩, h5⟩ := h1
  refine ⟨h2, h3, by simpa [timeB] using h4, ?_⟩
  by_cases l1 : (cg L k).link = 1
  · rw [if_pos l1] at h5
    exact .inl ⟨l1, of_decide_eq_true h5⟩
  · rw [if_neg l1] at h5
    by_cases l2 : (cg L k).link = 2 ∨ (cg L k).link = 3
    · rw [if_pos l2] at h5
      simp only [Bool.and_eq_true, decide_eq_true_eq, Bool.not_eq_true', beq_eq_false_iff_ne, ne_eq] at h5
      obtain ⟨a1, _, a2⟩ := findI_name L (cg L k).after h5.1
      refine .inr ⟨l2, l1, _, a1, a2, fun e => h5.2 (by rw [a2, e])⟩
    · rw [if_neg l2] at h5; cases h5
theorem hang_manual {L : List CueR} {k : Nat} (h : (cg L k).link = 1) : hangI L k = -1 := by unfold hangI; rw [if_pos h]
theorem hang_other {L : List CueR} {k : Nat} (h : (cg L k).link ≠ 1) : hangI L k = findI L (cg L k).after := by unfold hangI; rw [if_neg h]
theorem ord_at (hs : List Int) : OrdAt hs (ordP hs) ∧ nextO hs (ordP hs) = none := by
  have main : ∀ f out, OrdAt hs out → hs.length - out.length = f → OrdAt hs (ordP hs) ∧ nextO hs (ordP hs) = none := by
    intro f
    induction f with
    | zero =>
      intro out h hf
      cases hn : nextO hs out with
      | none => rw [h.ends hn]; exact ⟨h, hn⟩
      | some k => have := (h.next k hn).2; omega
    | succ f ih =>
      intro out h hf
      cases hn : nextO hs out with
      | none => rw [h.ends hn]; exact ⟨h, hn⟩
      | some k =>
        obtain ⟨h1, h2⟩ := h.next k hn
        exact ih _ h1 (by rw [List.length_append, List.length_singleton]; omega)
  exact main _ [] (OrdAt.start hs) rfl
theorem ord_in (L : List CueR) (k : Nat) (hk : k < (ordP (hangs L)).length) : ∃ m : Nat, m < L.length ∧ ig (ordP (hangs L)) k = m := by
  have h := (ord_at (hangs L)).1.inn (ig (ordP (hangs L)) k) (by rw [ig_eq _ k hk]; exact List.getElem_mem hk)
  rw [hangs_len] at h
  exact ⟨(ig (ordP (hangs L)) k).toNat, by omega, by omega⟩
theorem ord_le (L : List CueR) : (ordP (hangs L)).length ≤ L.length := by
  have := (ord_at (hangs L)).1.len
  rwa [hangs_len] at this
/-- The starts stay small. -/
def Small (s : List Int) (b : Int) : Prop := ∀ i, i < s.length → 0 ≤ ig s i ∧ ig s i ≤ b
theorem pass1_small {L : List CueR} {A : List (ByteArray × ByteArray)} (h : linkedB L A = true) {G : List Int} (hG : G.any wrongT = false) (hl : G.length = manTo L L.length) (k : Nat) : Small (pass1 L G k) 4294967296 := by
  intro i hi
  rw [pass1_len] at hi
  rw [pass1_at _ _ _ _ hi]
  split
  · next hh =>
    have a := wrongT_no hG (manTo L i) (by rw [hl]; exact manTo_lt L i _ hi hh.2)
    have b := (linked_cue h i hi).2.2.1
    omega
  · omega
theorem pass2_small {L : List CueR} {A : List (ByteArray × ByteArray)} (h : linkedB L A = true) {N G : List Int} (hG : G.any wrongT = false) (hl : G.length = manTo L L.length) (hN : N.any wrongT = false) (hlN : N.length = L.length) (k : Nat) (hk : k ≤ (ordP (hangs L)).length) : Small (pass2 L N G k) (4294967296 * (k + 1)) := by
  induction k with
  | zero => intro i hi; exact ⟨(pass1_small h hG hl L.length i hi).1, by have := (pass1_small h hG hl L.length i hi).2; show ig (pass1 L G L.length) i ≤ _; omega⟩
  | succ k ih =>
    have ih' := ih (by omega)
    obtain ⟨m, hm, e⟩ := ord_in L k (by omega)
    intro i hi
    rw [pass2_len] at hi
    rw [pass2_succ L N G k (by omega), e]
    unfold stepS
    rw [Int.toNat_natCast]
    rcases (linked_cue h m hm).2.2.2 with ⟨l1, _⟩ | ⟨_, l1, f, hf, ef, _⟩
    · rw [if_pos l1]
      have := ih' i (by rw [pass2_len]; exact hi)
      omega
    · rw [if_neg l1, ef, Int.toNat_natCast, ig_set _ _ _ _ (by rw [pass2_len]; exact hm)]
      have hd := (linked_cue h m hm).2.2.1
      have a := ih' f (by rw [pass2_len]; exact hf)
      have b := ih' i (by rw [pass2_len]; exact hi)
      have c := wrongT_no hN f (by rw [hlN]; exact hf)
      split
      · split <;> omega
      · omega

set_option maxHeartbeats 400000 in
theorem asks_wrongT (n₀ : Nat) (w : World) : AsksN 49 #[] n₀ w wrongT := by
  intro W r hB
  show Calls _ _ #[numV r] _ _
  unfold numV
  go_enter Try.func49, Try.ntmps49
  go_wp2_with (go_at_call 50; (with_reducible refine (time_any _ _).mono ?_); rintro e w' ⟨rfl, rfl⟩)
  all_goals (go_ret; exact ⟨rfl, Below.refl _ _⟩)
theorem ent_wrongT (args : Array Value) (w : World) : (callFunc 49 args).run Try.prog w = .ok (.enter 49 args) w := enters_of Try.func49 (by kernel_rfl) rfl args w
end Go.Proofs.Ytapjhjpibefooaa
