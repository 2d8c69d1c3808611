/-
  THE MAP of the changes, as it reads; the keys that were collected.
-/
import Derived.Test.YtfllfabinfmogaaSpotR
import Derived.Test.YtfllfabinfmogaaSortP
import Derived.Maps.OwnOps
import Derived.Maps.Views
import Derived.Maps.RangeWalk
namespace Go.Proofs.Ytfllfabinfmogaa
open Go.RowKit Go.Maps

/-- The map of the changes. -/
def ChgMap {H : Type} (L : List (Int × Int)) (D : DataW H) : Prop := IsMap D ∧ (∀ x : Int, has D (.int .i64 x) = true ↔ x ∈ keysF L) ∧ ∀ x : Int, D.atKey (.int .i64 x) (.lit (.int .i64 0)) = .lit (.int .i64 (chg L x))
theorem keyLit (x : Int) : WideAt.IsKeyLit (.int .i64 x) := trivial
theorem put_map {H : Type} (D : DataW H) (h : IsMap D) (k : Lit) (d : DataW H) : IsMap (D.put k d) := by
  obtain ⟨es, rfl⟩ := h
  exact ⟨_, rfl⟩
theorem lit_ne {x y : Int} (h : x ≠ y) : (Lit.int .i64 x) ≠ Lit.int .i64 y := fun e => h (by injection e)
theorem chg_start {H : Type} : ChgMap [] ((.map [] : DataW H).put (.int .i64 0) (.lit (.int .i64 0))) := by
  have hm : IsMap (.map [] : DataW H) := isMap_empty
  refine ⟨put_map _ hm _ _, fun x => ?_, fun x => ?_⟩
  · by_cases h : x = 0
    · subst h
      rw [has_put_same hm (keyLit 0)]
      simp [keysF]
    · rw [has_put_other (lit_ne h)]
      simp [keysF, has, h]
  · by_cases h : x = 0
    · subst h
      rw [atKey_put_same hm (keyLit 0)]
      rfl
    · rw [atKey_put_other (lit_ne h)]
      rfl
theorem chg_put {H : Type} {L : List (Int × Int)} {D : DataW H} {s : Int × Int} (h : ChgMap L D) (hs : s.1 < s.2) :
    ChgMap (L ++ [s]) ((D.put (.int .i64 s.1) (.lit (.int .i64 (chg L s.1 + 1)))).put (.int .i64 s.2) (.lit (.int .i64 (chg L s.2 - 1)))) := by
  obtain ⟨hm, hh, ha⟩ := h
  have hm1 := put_map D hm (.int .i64 s.1) (.lit (.int .i64 (chg L s.1 + 1)))
  have memk : ∀ x, x ∈ keysF (L ++ [s]) ↔ x = s.1 ∨ x = s.2 ∨ x ∈ keysF L := fun x => by
    rw [keysF_mem, keysF_mem]
    constructor
    · rintro (h | ⟨r, hr, h⟩)
      · exact .inr (.inr (.inl h))
      · rcases List.mem_append.1 hr with hr | hr
        · exact .inr (.inr (.inr ⟨r, hr, h⟩))
        · obtain rfl : r = s := by simpa using hr
          rcases h with h | h
          · exact .inl h.symm
          · exact .inr (.inl h.symm)
    · rintro (h | h | h | ⟨r, hr, h⟩)
      · exact .inr ⟨s, by simp, .inl h.symm⟩
      · exact .inr ⟨s, by simp, .inr h.symm⟩
      · exact .inl h
      · exact .inr ⟨r, List.mem_append_left _ hr, h⟩
  refine ⟨put_map _ hm1 _ _, fun x => ?_, fun x => ?_⟩
  · rw [memk]
    by_cases h2 : x = s.2
    · subst h2
      rw [has_put_same hm1 (keyLit _)]
      simp
    · rw [has_put_other (lit_ne h2)]
      by_cases h1 : x = s.1
      · subst h1
        rw [has_put_same hm (keyLit _)]
        simp
      · rw [has_put_other (lit_ne h1), hh]
        simp [h1, h2]
  · rw [chg_snoc]
    by_cases h2 : x = s.2
    · rw [h2, atKey_put_same hm1 (keyLit _), if_neg (by omega), if_pos rfl]
      congr 2
      omega
    · rw [atKey_put_other (lit_ne h2)]
      by_cases h1 : x = s.1
      · rw [h1, atKey_put_same hm (keyLit _), if_pos rfl, if_neg (by omega)]
        congr 2
        omega
      · rw [atKey_put_other (lit_ne h1), ha, if_neg (fun e => h1 e.symm), if_neg (fun e => h2 e.symm)]
        congr 2
        omega
theorem chg_at {H : Type} {L : List (Int × Int)} {D : DataW H} (h : ChgMap L D) {x c : Int} (hat : D.atKey (.int .i64 x) (.lit (.int .i64 0)) = .lit (.int .i64 c)) : c = chg L x := by
  rw [h.2.2] at hat
  injection hat with e
  injection e with _ e2
  exact e2.symm
theorem chg_at2 {H : Type} {L : List (Int × Int)} {D : DataW H} {s : Int × Int} {d : DataW H} (h : ChgMap L D) (hs : s.1 < s.2) {c : Int} (hat : (D.put (.int .i64 s.1) d).atKey (.int .i64 s.2) (.lit (.int .i64 0)) = .lit (.int .i64 c)) : c = chg L s.2 := by
  rw [atKey_put_other (lit_ne (by omega))] at hat
  exact chg_at h hat

/-- The keys met so far: each once, and just those that are no longer to come. -/
def Coll {H : Type} (D : DataW H) (left : Lit → Bool) (ks : List Int) : Prop := ks.Nodup ∧ ∀ x : Int, x ∈ ks ↔ (has D (.int .i64 x) = true ∧ left (.int .i64 x) = false)
theorem coll_start {H : Type} (D : DataW H) : Coll D (has D) [] := ⟨List.nodup_nil, fun x => by simp⟩
theorem coll_step {H : Type} {D : DataW H} {left : Lit → Bool} {ks : List Int} {x : Int} (h : Coll D left ks) (hl : left (.int .i64 x) = true) (hh : has D (.int .i64 x) = true) : Coll D (fun z => left z && !z.sameKey (.int .i64 x)) (ks ++ [x]) := by
  obtain ⟨h1, h2⟩ := h
  have same : ∀ y : Int, (Lit.int .i64 y).sameKey (.int .i64 x) = decide (y = x) := fun y => by
    by_cases e : y = x
    · subst e; simp [Lit.sameKey]
    · rw [sameKey_ne (lit_ne e)]; simp [e]
  refine ⟨?_, fun y => ?_⟩
  · rw [List.nodup_append]
    refine ⟨h1, by simp, fun a ha b hb => ?_⟩
    obtain rfl : b = x := by simpa using hb
    intro e
    subst e
    have := ((h2 a).1 ha).2
    rw [hl] at this
    cases this
  · simp only [List.mem_append, List.mem_singleton, h2, same]
    by_cases e : y = x
    · subst e
      simp [hh]
    · simp [e]
theorem coll_end {H : Type} {D : DataW H} {left : Lit → Bool} {ks : List Int} {L : List (Int × Int)} (h : Coll D left ks) (hD : ChgMap L D) (hl : ∀ kl, left kl = false) : sortI ks = keysF L := by
  refine incr_ext (sortI_incr h.1) (keysF_incr L) fun z => ?_
  rw [sortI_mem, h.2, hD.2.1]
  simp [hl]
end Go.Proofs.Ytfllfabinfmogaa
