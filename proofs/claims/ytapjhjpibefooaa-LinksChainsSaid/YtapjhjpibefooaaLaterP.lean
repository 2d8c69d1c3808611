/-
  PLAIN: starts of a sheet with later given times, longer lengths, longer delays.
-/
import Derived.Test.YtapjhjpibefooaaStPlain
namespace Go.Proofs.Ytapjhjpibefooaa

/-- What two sheets that differ in their delays alone share. -/
structure Alike (L L' : List CueR) : Prop where
  len : L'.length = L.length
  name : ∀ i, (cg L' i).name = (cg L i).name
  after : ∀ i, (cg L' i).after = (cg L i).after
  link : ∀ i, (cg L' i).link = (cg L i).link
theorem Alike.refl (L : List CueR) : Alike L L := ⟨rfl, fun _ => rfl, fun _ => rfl, fun _ => rfl⟩
theorem Alike.find {L L' : List CueR} (h : Alike L L') (x : ByteArray) : findI L' x = findI L x := by
  unfold findI cue_first
  rw [h.len]
  simp only [h.name]
theorem Alike.hangs {L L' : List CueR} (h : Alike L L') : hangs L' = hangs L := by
  unfold Go.Proofs.Ytapjhjpibefooaa.hangs hangsTo
  rw [h.len]
  refine List.map_congr_left fun k _ => ?_
  unfold hangI
  rw [h.link, h.after, h.find]
theorem Alike.man {L L' : List CueR} (h : Alike L L') (k : Nat) : manTo L' k = manTo L k := by
  induction k with
  | zero => rfl
  | succ k ih => simp only [manTo]; rw [ih, h.link]

/-- Cues of a full order: any relation of differences that goes along the order holds of all starts. -/
theorem along {L L' : List CueR} {A : List (ByteArray × ByteArray)} (hA : Alike L L') (h : linkedB L A = true) (hl : ¬ (ordP (hangs L)).length < L.length) (N N' G G' : List Int) (P : Int → Prop)
    (hm : ∀ i, i < L.length → (cg L i).link = 1 → P ((ig G' (manTo L i) + (cg L' i).delay) - (ig G (manTo L i) + (cg L i).delay)))
    (hs : ∀ i f d, i < L.length → f < L.length → P d → P (d + ((cg L' i).delay - (cg L i).delay) + if (cg L i).link = 2 then ig N' f - ig N f else 0)) :
    ∀ i, i < L.length → P (ig (startsV L' N' G') i - ig (startsV L N G) i) := by
  obtain ⟨hO, _⟩ := ord_at (hangs L)
  have hlen : (ordP (hangs L)).length = L.length := by have := ord_le L; omega
  have key : ∀ k, k ≤ (ordP (hangs L)).length → ∀ i, i < L.length → ((cg L i).link = 1 ∨ (i : Int) ∈ (ordP (hangs L)).take k) → P (ig (pass2 L' N' G' k) i - ig (pass2 L N G k) i) := by
    intro k
    induction k with
    | zero =>
      intro _ i hi hc
      rcases hc with l1 | hin
      · show P (ig (pass1 L' G' L'.length) i - ig (pass1 L G L.length) i)
        rw [pass1_at _ _ _ _ (by rw [hA.len]; exact hi), pass1_at _ _ _ _ hi, if_pos ⟨by rw [hA.len]; exact hi, by rw [hA.link]; exact l1⟩, if_pos ⟨hi, l1⟩, hA.man]
        exact hm i hi l1
      · simp at hin
    | succ k ih =>
      intro hk i hi hc
      obtain ⟨m, em, hnx⟩ := ord_next (hangs L) k (by omega)
      have hmL : m < L.length := by have := (next_of hnx).1; rwa [hangs_len] at this
      rw [pass2_succ L' N' G' k (by rw [hA.hangs]; omega), pass2_succ L N G k (by omega), hA.hangs, em]
      unfold stepS
      rw [Int.toNat_natCast, hA.link, hA.after, hA.find]
      have hrd := (ready_iff.1 (next_of hnx).2.1).2
      rw [hangs_at L m hmL] at hrd
      have htk : (ordP (hangs L)).take (k + 1) = (ordP (hangs L)).take k ++ [(m : Int)] := by rw [List.take_add_one, ig_get (by omega), em]; rfl
      rw [htk] at hc
      rcases (linked_cue h m hmL).2.2.2 with ⟨l1, _⟩ | ⟨_, l1, f, hf, hfa, _⟩
      · rw [if_pos l1, if_pos l1]
        refine ih (by omega) i hi ?_
        rcases hc with c | c
        · exact .inl c
        · rcases List.mem_append.1 c with c | c
          · exact .inr c
          · have : i = m := by have := List.mem_singleton.1 c; omega
            subst this
            exact .inl l1
      · rw [if_neg l1, if_neg l1, hfa, Int.toNat_natCast]
        rw [hang_other l1, hfa] at hrd
        rw [ig_set _ _ _ _ (by rw [pass2_len, hA.len]; exact hmL), ig_set _ _ _ _ (by rw [pass2_len]; exact hmL)]
        by_cases e : m = i
        · subst e
          rw [if_pos rfl, if_pos rfl]
          have hp := hs m f _ hmL hf (ih (by omega) f hf (by
            rcases hrd with c | c
            · omega
            · exact .inr c))
          have e2 : ∀ (a b c d x y : Int), (a + b + x) - (c + d + y) = (a - c) + (b - d) + (x - y) := by intros; omega
          rw [e2]
          split at hp
          · next c => rw [if_pos c, if_pos c]; exact hp
          · next c => rw [if_neg c, if_neg c]; exact hp
        · rw [if_neg e, if_neg e]
          refine ih (by omega) i hi ?_
          rcases hc with c | c
          · exact .inl c
          · rcases List.mem_append.1 c with c | c
            · exact .inr c
            · exact absurd (by have := List.mem_singleton.1 c; omega) e
  intro i hi
  have hin := all_in L.length _ hO.nd (by have := hO.inn; rwa [hangs_len] at this) hlen i hi
  have := key (ordP (hangs L)).length (Nat.le_refl _) i hi (.inr (by rw [List.take_length]; exact hin))
  unfold startsV
  rw [hA.hangs]
  exact this

theorem starts_ok {L : List CueR} {A : List (ByteArray × ByteArray)} {N G V : List Int} (h : startsP L A N G = (V, 0)) :
    linkedB L A = true ∧ N.length = L.length ∧ G.length = manTo L L.length ∧ N.any wrongT = false ∧ G.any wrongT = false ∧ ¬ (ordP (hangs L)).length < L.length ∧ V = startsV L N G := by
  unfold startsP at h
  cases hl : linkedB L A with
  | false => rw [hl] at h; cases h
  | true =>
    rw [hl, if_pos rfl] at h
    by_cases h1 : N.length = L.length ∧ G.length = manTo L L.length
    · rw [if_pos h1] at h
      cases h2 : (N.any wrongT || G.any wrongT) with
      | true => rw [h2, if_pos rfl] at h; cases h
      | false =>
        rw [h2, if_neg (by decide)] at h
        by_cases h3 : (ordP (hangs L)).length < L.length
        · rw [if_pos h3] at h; cases h
        · rw [if_neg h3] at h
          rw [Bool.or_eq_false_iff] at h2
          exact ⟨rfl, h1.1, h1.2, h2.1, h2.2, h3, (congrArg Prod.fst h).symm⟩
    · rw [if_neg h1] at h; cases h
theorem starts_bad {L : List CueR} {A : List (ByteArray × ByteArray)} {N G V : List Int} {e : Int} (h : startsP L A N G = (V, e)) (he : e ≠ 0) : V = [] := by
  unfold startsP at h
  split at h
  · split at h
    · split at h
      · exact (congrArg Prod.fst h).symm
      · split at h
        · exact (congrArg Prod.fst h).symm
        · exact absurd (congrArg Prod.snd h).symm he
    · exact (congrArg Prod.fst h).symm
  · exact (congrArg Prod.fst h).symm
/-- The starts of an alike sheet whose lists have the same lengths: they are all there, or an error of its own. -/
theorem starts_alike {L L' : List CueR} {A : List (ByteArray × ByteArray)} {N N' G G' V V' : List Int} {e : Int} (hA : Alike L L') (h : startsP L A N G = (V, 0)) (hN : N'.length = N.length) (hG : G'.length = G.length) (h' : startsP L' A N' G' = (V', e)) :
    (e = 0 ∧ V' = startsV L' N' G') ∨ (e = 2 ∧ V' = []) ∨ (linkedB L' A = false ∧ e = 1 ∧ V' = []) := by
  obtain ⟨_, h1, h2, _, _, h3, _⟩ := starts_ok h
  unfold startsP at h'
  cases hl : linkedB L' A with
  | false => rw [hl] at h'; exact .inr (.inr ⟨rfl, (congrArg Prod.snd h').symm, (congrArg Prod.fst h').symm⟩)
  | true =>
    rw [hl, if_pos rfl, if_pos ⟨by rw [hN, hA.len]; exact h1, by rw [hG, hA.man, hA.len]; exact h2⟩] at h'
    split at h'
    · exact .inr (.inl ⟨(congrArg Prod.snd h').symm, (congrArg Prod.fst h').symm⟩)
    · rw [hA.hangs, hA.len, if_neg h3] at h'
      exact .inl ⟨(congrArg Prod.snd h').symm, (congrArg Prod.fst h').symm⟩

/-! ### All given times later -/
def allBy (b : Int) (G : List Int) : List Int := G.map (· + b)
theorem allBy_len (b : Int) (G : List Int) : (allBy b G).length = G.length := by simp [allBy]
theorem allBy_at (b : Int) (G : List Int) (i : Nat) (h : i < G.length) : ig (allBy b G) i = ig G i + b := by
  unfold ig allBy
  rw [List.getElem?_map, List.getElem?_eq_getElem h]
  rfl
theorem all_later {L : List CueR} {A : List (ByteArray × ByteArray)} {N G V V' : List Int} {b e : Int} (h : startsP L A N G = (V, 0)) (h' : startsP L A N (allBy b G) = (V', e)) :
    (e = 0 ∧ V'.length = V.length ∧ ∀ i, i < V.length → ig V' i = ig V i + b) ∨ (e = 2 ∧ V' = []) := by
  obtain ⟨hl, h1, h2, _, _, h3, rfl⟩ := starts_ok h
  have vl : ∀ G, (startsV L N G).length = L.length := fun G => pass2_len _ _ _ _
  rcases starts_alike (Alike.refl L) h rfl (allBy_len b G) h' with ⟨rfl, rfl⟩ | ⟨rfl, rfl⟩ | ⟨h0, _⟩
  · refine .inl ⟨rfl, by rw [vl, vl], fun i hi => ?_⟩
    rw [vl] at hi
    have := along (Alike.refl L) hl h3 N N G (allBy b G) (fun d => d = b) (fun i hi l1 => by
      rw [allBy_at b G _ (by rw [h2]; exact manTo_lt L i _ hi l1)]
      omega) (fun i f d _ _ hd => by
      have : (if (cg L i).link = 2 then ig N f - ig N f else 0 : Int) = 0 := by split <;> omega
      rw [this]; omega) i hi
    omega
  · exact .inr ⟨rfl, rfl⟩
  · rw [hl] at h0; cases h0

/-! ### One length longer, one given time later, one cue with a longer delay -/
def setDelay (L : List CueR) (k : Nat) (d : Int) : List CueR := L.set k { cg L k with delay := d }
theorem cg_set (L : List CueR) (k j : Nat) (r : CueR) (hk : k < L.length) : cg (L.set k r) j = if k = j then r else cg L j := by
  unfold cg
  rw [List.getElem?_set]
  by_cases h : k = j
  · rw [if_pos h, if_pos h]; subst h; rw [if_pos hk]; rfl
  · rw [if_neg h, if_neg h]
theorem setDelay_alike (L : List CueR) (k : Nat) (d : Int) (hk : k < L.length) : Alike L (setDelay L k d) := by
  have hc := fun j => cg_set L k j { cg L k with delay := d } hk
  refine ⟨by simp [setDelay], fun i => ?_, fun i => ?_, fun i => ?_⟩ <;> (unfold setDelay; rw [hc]; split <;> first | rfl | (next e => subst e; rfl))
theorem setDelay_at (L : List CueR) (k j : Nat) (d : Int) (hk : k < L.length) : (cg (setDelay L k d) j).delay = if k = j then d else (cg L j).delay := by
  unfold setDelay; rw [cg_set _ _ _ _ hk]; split <;> rfl
def lateBy (b : Int) (G : List Int) (c : Nat) : List Int := G.set c (ig G c + b)
theorem lateBy_len (b : Int) (G : List Int) (c : Nat) : (lateBy b G c).length = G.length := by simp [lateBy]
theorem lateBy_ge (b : Int) (G : List Int) (c i : Nat) (hb : 0 ≤ b) : ig G i ≤ ig (lateBy b G c) i := by
  unfold lateBy
  by_cases hc : c < G.length
  · rw [ig_set _ _ _ _ hc]; split
    · next e => subst e; omega
    · omega
  · rw [List.set_eq_of_length_le (by omega)]; omega
theorem some_later {L : List CueR} {A : List (ByteArray × ByteArray)} {N G V V' : List Int} {b e : Int} (hb : 0 ≤ b) (k a c : Nat) (hk : k < L.length) (h : startsP L A N G = (V, 0)) (h' : startsP (setDelay L k ((cg L k).delay + b)) A (lateBy b N a) (lateBy b G c) = (V', e)) :
    (e = 0 ∧ V'.length = V.length ∧ ∀ i, i < V.length → ig V i ≤ ig V' i) ∨ (e = 2 ∧ V' = []) ∨ (e = 1 ∧ V' = []) := by
  obtain ⟨hl, h1, h2, _, _, h3, rfl⟩ := starts_ok h
  have hA := setDelay_alike L k ((cg L k).delay + b) hk
  have vl : ∀ L N G, (startsV L N G).length = L.length := fun L N G => pass2_len _ _ _ _
  rcases starts_alike hA h (lateBy_len b N a) (lateBy_len b G c) h' with ⟨rfl, rfl⟩ | ⟨rfl, rfl⟩ | ⟨_, rfl, rfl⟩
  · refine .inl ⟨rfl, by rw [vl, vl, hA.len], fun i hi => ?_⟩
    rw [vl] at hi
    have hd : ∀ i, 0 ≤ (cg (setDelay L k ((cg L k).delay + b)) i).delay - (cg L i).delay := fun i => by
      rw [setDelay_at _ _ _ _ hk]; split
      · next e => subst e; omega
      · omega
    have := along hA hl h3 N (lateBy b N a) G (lateBy b G c) (fun d => 0 ≤ d) (fun i hi l1 => by
      have x := lateBy_ge b G c (manTo L i) hb
      have y := hd i
      omega) (fun i f d _ _ h0 => by
      have x := lateBy_ge b N a f hb
      have y := hd i
      split <;> omega) i hi
    omega
  · exact .inr (.inl ⟨rfl, rfl⟩)
  · exact .inr (.inr ⟨rfl, rfl⟩)
end Go.Proofs.Ytapjhjpibefooaa
