/-
  PLAIN: the nearest sum, the sums in order, going through the choices as the reference does.
-/
import Derived.Test.YtfkmnneieglolaaGreatDoorBrickP
namespace Go.Proofs.YtfkmnneieglolaaGreatDoor

/-! ### The nearest sum -/
def farN (w n : Int) : Int := if n < w then w - n else n - w
def nearer (w a b : Int) : Prop := farN w a < farN w b ∨ farN w a = farN w b ∧ a < b
instance (w a b : Int) : Decidable (nearer w a b) := by unfold nearer; exact inferInstance
def stepN (w : Int) (st : Option Int) (s : Int) : Option Int :=
  match st with
  | none => some s
  | some b => if nearer w s b then some s else some b
def visitN (w : Int) : List BrickR → Int → Option Int → Option Int
  | [], s, st => stepN w st s
  | b :: t, s, st => (upto b.count).foldl (fun st k => visitN w t (s + k * b.weight) st) st
theorem visitN_same (w : Int) : ∀ (L : List BrickR) (s b : Int), (∀ x, s ≤ x → x ≤ s + restC L → ¬ nearer w x b) → BrickOK L → visitN w L s (some b) = some b
  | [], s, b, h, _ => by
    unfold visitN stepN
    simp only []
    rw [if_neg (h s (Int.le_refl _) (by simp [restC]))]
  | y :: t, s, b, h, ok => by
    have hy := ok y (List.mem_cons_self ..)
    have ht : BrickOK t := fun x hx => ok x (List.mem_cons_of_mem _ hx)
    unfold visitN
    refine foldl_same _ _ _ fun k hk => ?_
    obtain ⟨k0, k1⟩ := upto_mem.1 hk
    have a1 : k * y.weight ≤ y.count * y.weight := Int.mul_le_mul_of_nonneg_right k1 (by omega)
    have a2 : 0 ≤ k * y.weight := Int.mul_nonneg k0 (by omega)
    have a3 : y.weight * y.count = y.count * y.weight := Int.mul_comm _ _
    refine visitN_same w t _ b (fun x h1 h2 => h x (by omega) ?_) ht
    simp only [restC]
    omega
/-- The search leaves off where nothing nearer can come. -/
theorem visitN_skip (w : Int) (L : List BrickR) (s b : Int) (ok : BrickOK L) (least : Int) (hl : least = max (max 0 (s - w)) (w - s - restC L)) (h : farN w b < least ∨ (least = farN w b ∧ b ≤ s)) : visitN w L s (some b) = some b := by
  refine visitN_same w L s b (fun x h1 h2 hn => ?_) ok
  have hf : least ≤ farN w x := by
    unfold farN
    split <;> omega
  unfold nearer at hn
  omega
def NearOf (w : Int) (S : Int → Prop) : Option Int → Prop
  | none => ∀ x, ¬ S x
  | some b => S b ∧ ∀ x, S x → ¬ nearer w x b
theorem nearer_trans {w a b c : Int} (h : nearer w a b) (h2 : ¬ nearer w c b) : ¬ nearer w c a := by
  unfold nearer at *
  omega
theorem near_visit (w : Int) : ∀ (L : List BrickR) (s : Int) (S : Int → Prop) (st : Option Int), NearOf w S st → NearOf w (fun x => S x ∨ ∃ c, IsC L c ∧ x = s + sumC L c) (visitN w L s st)
  | [], s, S, st, h => by
    have e : (fun x => S x ∨ ∃ c, IsC [] c ∧ x = s + sumC [] c) = (fun x => S x ∨ x = s) := by
      funext x
      simp only [eq_iff_iff]
      constructor
      · rintro (h | ⟨c, hc, rfl⟩)
        · exact Or.inl h
        · exact Or.inr (by simp [sumC])
      · rintro (h | rfl)
        · exact Or.inl h
        · exact Or.inr ⟨[], trivial, by simp [sumC]⟩
    rw [e]
    unfold visitN stepN
    cases st with
    | none => exact ⟨Or.inr rfl, fun x hx => by rcases hx with hx | rfl; exact absurd hx (h x); unfold nearer; omega⟩
    | some b =>
      simp only []
      split
      · rename_i hn
        refine ⟨Or.inr rfl, fun x hx => ?_⟩
        rcases hx with hx | rfl
        · exact nearer_trans hn (h.2 x hx)
        · unfold nearer; omega
      · rename_i hn
        refine ⟨Or.inl h.1, fun x hx => ?_⟩
        rcases hx with hx | rfl
        · exact h.2 x hx
        · exact hn
  | b :: t, s, S, st, h => by
    have key : ∀ (ks : List Int) (S : Int → Prop) (st : Option Int), NearOf w S st → NearOf w (fun x => S x ∨ ∃ k ∈ ks, ∃ c, IsC t c ∧ x = s + k * b.weight + sumC t c) (ks.foldl (fun st k => visitN w t (s + k * b.weight) st) st) := by
      intro ks
      induction ks with
      | nil =>
        intro S st h
        have e : (fun x => S x ∨ ∃ k ∈ ([] : List Int), ∃ c, IsC t c ∧ x = s + k * b.weight + sumC t c) = S := by funext x; simp
        rw [e]
        exact h
      | cons k ks ih =>
        intro S st h
        rw [List.foldl_cons]
        have h2 := ih _ _ (near_visit w t (s + k * b.weight) S st h)
        have e : (fun x => S x ∨ ∃ k' ∈ k :: ks, ∃ c, IsC t c ∧ x = s + k' * b.weight + sumC t c) = (fun x => (S x ∨ ∃ c, IsC t c ∧ x = s + k * b.weight + sumC t c) ∨ ∃ k' ∈ ks, ∃ c, IsC t c ∧ x = s + k' * b.weight + sumC t c) := by
          funext x
          simp only [List.mem_cons, eq_iff_iff]
          constructor
          · rintro (h | ⟨k', rfl | hk, c, hc⟩)
            · exact Or.inl (Or.inl h)
            · exact Or.inl (Or.inr ⟨c, hc⟩)
            · exact Or.inr ⟨k', hk, c, hc⟩
          · rintro ((h | ⟨c, hc⟩) | ⟨k', hk, c, hc⟩)
            · exact Or.inl h
            · exact Or.inr ⟨k, Or.inl rfl, c, hc⟩
            · exact Or.inr ⟨k', Or.inr hk, c, hc⟩
        rw [e]
        exact h2
    have h2 := key (upto b.count) S st h
    have e : (fun x => S x ∨ ∃ c, IsC (b :: t) c ∧ x = s + sumC (b :: t) c) = (fun x => S x ∨ ∃ k ∈ upto b.count, ∃ c, IsC t c ∧ x = s + k * b.weight + sumC t c) := by
      funext x
      simp only [eq_iff_iff]
      constructor
      · rintro (h | ⟨c, hc, rfl⟩)
        · exact Or.inl h
        · cases c with
          | nil => exact hc.elim
          | cons n r =>
            refine Or.inr ⟨n, upto_mem.2 hc.1, r, hc.2, ?_⟩
            simp only [sumC]
            rw [Int.mul_comm n]
            omega
      · rintro (h | ⟨k, hk, c, hc, rfl⟩)
        · exact Or.inl h
        · refine Or.inr ⟨k :: c, ⟨upto_mem.1 hk, hc⟩, ?_⟩
          simp only [sumC]
          rw [Int.mul_comm k]
          omega
    rw [e]
    unfold visitN
    exact h2
def IsSum (L : List BrickR) (x : Int) : Prop := ∃ c, IsC L c ∧ sumC L c = x
theorem isC_zero : ∀ {L : List BrickR}, BrickOK L → IsC L (List.replicate L.length 0)
  | [], _ => trivial
  | b :: t, ok => ⟨⟨Int.le_refl _, by have := ok b (List.mem_cons_self ..); omega⟩, isC_zero (fun x hx => ok x (List.mem_cons_of_mem _ hx))⟩
def nearO (w : Int) (L : List BrickR) : Option Int := visitN w L 0 none
theorem near_of (w : Int) (L : List BrickR) : NearOf w (IsSum L) (nearO w L) := by
  have h := near_visit w L 0 (fun _ => False) none (fun x hx => hx)
  have e : (fun x => False ∨ ∃ c, IsC L c ∧ x = 0 + sumC L c) = IsSum L := by
    funext x
    unfold IsSum
    simp only [false_or, Int.zero_add, eq_iff_iff]
    exact ⟨fun ⟨c, h1, h2⟩ => ⟨c, h1, h2.symm⟩, fun ⟨c, h1, h2⟩ => ⟨c, h1, h2.symm⟩⟩
  rw [e] at h
  exact h
def nearP (w : Int) (L : List BrickR) : Int := (nearO w L).getD 0
theorem nearP_some {w : Int} {L : List BrickR} (ok : BrickOK L) : nearO w L = some (nearP w L) := by
  have h := near_of w L
  unfold nearP
  cases hq : nearO w L with
  | none => rw [hq] at h; exact absurd ⟨_, isC_zero ok, rfl⟩ (h _)
  | some b => rfl
theorem nearP_spec {w : Int} {L : List BrickR} (ok : BrickOK L) : IsSum L (nearP w L) ∧ ∀ x, IsSum L x → ¬ nearer w x (nearP w L) := by
  have h := near_of w L
  rw [nearP_some ok] at h
  exact h
theorem nearP_unique {w : Int} {L : List BrickR} (ok : BrickOK L) {n : Int} (h1 : IsSum L n) (h2 : ∀ x, IsSum L x → ¬ nearer w x n) : n = nearP w L := by
  obtain ⟨a, b⟩ := nearP_spec (w := w) ok
  have := b n h1
  have := h2 _ a
  unfold nearer at *
  have e : farN w n = farN w (nearP w L) := by omega
  omega

/-! ### The sums in order -/
def insK (x : Int) : List Int → List Int
  | [] => [x]
  | y :: t => if x < y then x :: y :: t else if x = y then y :: t else y :: insK x t
theorem insK_mem (x z : Int) (K : List Int) : z ∈ insK x K ↔ z = x ∨ z ∈ K := by
  induction K with
  | nil => simp [insK]
  | cons y t ih =>
    unfold insK
    split
    · simp
    · split
      · rename_i h1 h2
        subst h2
        simp
      · simp only [List.mem_cons, ih]
        constructor
        · rintro (h | h | h)
          · exact .inr (.inl h)
          · exact .inl h
          · exact .inr (.inr h)
        · rintro (h | h | h)
          · exact .inr (.inl h)
          · exact .inl h
          · exact .inr (.inr h)
theorem insK_incr (x : Int) (K : List Int) (h : K.Pairwise (· < ·)) : (insK x K).Pairwise (· < ·) := by
  induction K with
  | nil => simp [insK]
  | cons y t ih =>
    unfold insK
    rw [List.pairwise_cons] at h
    split
    · rename_i h1
      rw [List.pairwise_cons]
      refine ⟨fun z hz => ?_, List.pairwise_cons.2 h⟩
      rcases List.mem_cons.1 hz with e | e
      · omega
      · have := h.1 z e; omega
    · split
      · exact List.pairwise_cons.2 h
      · rw [List.pairwise_cons]
        refine ⟨fun z hz => ?_, ih h.2⟩
        rcases (insK_mem x z t).1 hz with e | e
        · omega
        · exact h.1 z e
theorem insK_len (x : Int) (K : List Int) : (insK x K).length ≤ K.length + 1 := by
  induction K with
  | nil => simp [insK]
  | cons y t ih =>
    unfold insK
    split
    · simp
    · split
      · simp
      · simp only [List.length_cons]; omega
/-- Two strictly ascending lists with the same members are the same. -/
theorem incr_ext : ∀ {A B : List Int}, A.Pairwise (· < ·) → B.Pairwise (· < ·) → (∀ z, z ∈ A ↔ z ∈ B) → A = B
  | [], [], _, _, _ => rfl
  | [], b :: B, _, _, h => by have := (h b).2 (List.mem_cons_self ..); cases this
  | a :: A, [], _, _, h => by have := (h a).1 (List.mem_cons_self ..); cases this
  | a :: A, b :: B, hA, hB, h => by
    rw [List.pairwise_cons] at hA hB
    have e : a = b := by
      have h1 := (h a).1 (List.mem_cons_self ..)
      have h2 := (h b).2 (List.mem_cons_self ..)
      rcases List.mem_cons.1 h1 with e | e
      · exact e
      · rcases List.mem_cons.1 h2 with e' | e'
        · exact e'.symm
        · have := hB.1 a e; have := hA.1 b e'; omega
    subst e
    rw [incr_ext hA.2 hB.2]
    intro z
    constructor
    · intro hz
      rcases List.mem_cons.1 ((h z).1 (List.mem_cons_of_mem _ hz)) with e | e
      · have := hA.1 z hz; omega
      · exact e
    · intro hz
      rcases List.mem_cons.1 ((h z).2 (List.mem_cons_of_mem _ hz)) with e | e
      · have := hB.1 z hz; omega
      · exact e
def ordL (l : List Int) : List Int := l.foldr insK []
theorem ordL_mem (l : List Int) (z : Int) : z ∈ ordL l ↔ z ∈ l := by
  induction l with
  | nil => rfl
  | cons x l ih => simp only [ordL, List.foldr_cons, insK_mem, List.mem_cons]; rw [show z ∈ List.foldr insK [] l ↔ z ∈ l from ih]
theorem ordL_incr (l : List Int) : (ordL l).Pairwise (· < ·) := by
  induction l with
  | nil => exact List.Pairwise.nil
  | cons x l ih => exact insK_incr _ _ ih
theorem ordL_len (l : List Int) : (ordL l).length ≤ l.length := by
  induction l with
  | nil => exact Nat.le_refl _
  | cons x l ih =>
    have := insK_len x (ordL l)
    simp only [List.length_cons]
    exact Nat.le_trans this (by omega)
def sumsP (L : List BrickR) : List Int := ordL ((allC L).map (sumC L))
theorem sumsP_mem {L : List BrickR} {z : Int} : z ∈ sumsP L ↔ IsSum L z := by
  unfold sumsP
  rw [ordL_mem, List.mem_map]
  exact ⟨fun ⟨c, h, e⟩ => ⟨c, allC_mem.1 h, e⟩, fun ⟨c, h, e⟩ => ⟨c, allC_mem.2 h, e⟩⟩
theorem sumsP_incr (L : List BrickR) : (sumsP L).Pairwise (· < ·) := ordL_incr _
theorem sumsP_len (L : List BrickR) : (sumsP L).length ≤ countP L := by
  have := ordL_len ((allC L).map (sumC L))
  rw [List.length_map, allC_len] at this
  exact this
theorem isSum_snoc {L : List BrickR} {b : BrickR} {z : Int} : IsSum (L ++ [b]) z ↔ ∃ x n, IsSum L x ∧ 0 ≤ n ∧ n ≤ b.count ∧ z = x + n * b.weight := by
  constructor
  · rintro ⟨c, hc, rfl⟩
    have hl := isC_len hc
    rw [List.length_append, List.length_singleton] at hl
    obtain ⟨c1, n, rfl⟩ : ∃ c1 n, c = c1 ++ [n] := by
      have hne : c ≠ [] := by intro e; rw [e] at hl; simp at hl
      exact ⟨c.dropLast, c.getLast hne, (List.dropLast_concat_getLast hne).symm⟩
    have hl1 : c1.length = L.length := by simpa using hl
    have key : ∀ (L : List BrickR) (c1 : List Int), c1.length = L.length → IsC (L ++ [b]) (c1 ++ [n]) → IsC L c1 ∧ 0 ≤ n ∧ n ≤ b.count := by
      intro L
      induction L with
      | nil =>
        intro c1 h1 h2
        have : c1 = [] := List.length_eq_zero_iff.1 h1
        subst this
        exact ⟨trivial, h2.1⟩
      | cons x t ih =>
        intro c1 h1 h2
        cases c1 with
        | nil => simp at h1
        | cons y r =>
          obtain ⟨a, b⟩ := ih r (by simpa using h1) h2.2
          exact ⟨⟨h2.1, a⟩, b⟩
    obtain ⟨k1, k2, k3⟩ := key L c1 hl1 hc
    refine ⟨sumC L c1, n, ⟨c1, k1, rfl⟩, k2, k3, ?_⟩
    rw [sumC_append hl1]
    simp only [sumC]
    rw [Int.mul_comm n]
    omega
  · rintro ⟨x, n, ⟨c, hc, rfl⟩, h1, h2, rfl⟩
    refine ⟨c ++ [n], isC_append hc ⟨⟨h1, h2⟩, trivial⟩, ?_⟩
    rw [sumC_append (isC_len hc)]
    simp only [sumC]
    rw [Int.mul_comm n]
    omega
theorem isSum_nil {z : Int} : IsSum [] z ↔ z = 0 := by
  constructor
  · rintro ⟨c, hc, rfl⟩
    cases c with
    | nil => rfl
    | cons => exact hc.elim
  · rintro rfl
    exact ⟨[], trivial, rfl⟩
theorem countP_pos : ∀ {L : List BrickR}, BrickOK L → 1 ≤ countP L
  | [], _ => Nat.le_refl _
  | b :: t, ok => by
    have h := countP_pos (fun x hx => ok x (List.mem_cons_of_mem _ hx) : BrickOK t)
    have := ok b (List.mem_cons_self ..)
    exact Nat.mul_pos (by omega) h
theorem countP_append : ∀ (L M : List BrickR), countP (L ++ M) = countP L * countP M
  | [], M => by simp [countP]
  | b :: t, M => by simp only [List.cons_append, countP]; rw [countP_append t M, Nat.mul_assoc]
theorem countP_take {L : List BrickR} (ok : BrickOK L) (k : Nat) : countP (L.take k) ≤ countP L := by
  have h := countP_append (L.take k) (L.drop k)
  rw [List.take_append_drop] at h
  rw [h]
  exact Nat.le_mul_of_pos_right _ (countP_pos (fun x hx => ok x (List.mem_of_mem_drop hx)))

/-! ### Going through the choices, the first number fastest -/
def nextC : List BrickR → List Int → List Int × Bool
  | b :: t, n :: r => if n < b.count then ((n + 1) :: r, true) else (0 :: (nextC t r).1, (nextC t r).2)
  | _, c => (c, false)
def valC : List BrickR → List Int → Nat
  | b :: t, n :: r => n.toNat + (b.count + 1).toNat * valC t r
  | _, _ => 0
theorem valC_lt : ∀ {L : List BrickR} {c : List Int}, IsC L c → valC L c < countP L
  | [], [], _ => by simp [valC, countP]
  | b :: t, n :: r, h => by
    have i := valC_lt h.2
    obtain ⟨h1, h2⟩ := h.1
    simp only [valC, countP]
    have : (b.count + 1).toNat * (valC t r + 1) ≤ (b.count + 1).toNat * countP t := Nat.mul_le_mul_left _ i
    rw [Nat.mul_add] at this
    omega
  | [], _ :: _, h => h.elim
  | _ :: _, [], h => h.elim
theorem valC_inj : ∀ {L : List BrickR} {a c : List Int}, IsC L a → IsC L c → valC L a = valC L c → a = c
  | [], [], [], _, _, _ => rfl
  | b :: t, n :: r, m :: s, h, k, e => by
    obtain ⟨h1, h2⟩ := h.1
    obtain ⟨k1, k2⟩ := k.1
    simp only [valC] at e
    have hb : 0 < (b.count + 1).toNat := by omega
    have e1 : n.toNat = m.toNat := by
      have := congrArg (· % (b.count + 1).toNat) e
      simp only [Nat.add_mul_mod_self_left] at this
      rw [Nat.mod_eq_of_lt (by omega), Nat.mod_eq_of_lt (by omega)] at this
      exact this
    have e2 : valC t r = valC t s := by
      rw [e1] at e
      exact Nat.eq_of_mul_eq_mul_left hb (by omega)
    rw [valC_inj h.2 k.2 e2, show n = m by omega]
  | [], _ :: _, _, h, _, _ => h.elim
  | [], _, _ :: _, _, k, _ => k.elim
  | _ :: _, [], _, h, _, _ => h.elim
  | _ :: _, _, [], _, k, _ => k.elim
theorem nextC_spec : ∀ {L : List BrickR} {c : List Int}, BrickOK L → IsC L c → IsC L (nextC L c).1 ∧ (((nextC L c).2 = true ∧ valC L (nextC L c).1 = valC L c + 1) ∨ ((nextC L c).2 = false ∧ valC L c + 1 = countP L))
  | [], [], _, _ => ⟨trivial, Or.inr ⟨rfl, rfl⟩⟩
  | b :: t, n :: r, ok, h => by
    obtain ⟨h1, h2⟩ := h.1
    obtain ⟨i1, i2⟩ := nextC_spec (fun x hx => ok x (List.mem_cons_of_mem _ hx) : BrickOK t) h.2
    simp only [nextC]
    split
    · rename_i q
      refine ⟨⟨⟨by omega, by omega⟩, h.2⟩, Or.inl ⟨rfl, ?_⟩⟩
      simp only [valC]
      omega
    · rename_i q
      refine ⟨⟨⟨Int.le_refl _, by omega⟩, i1⟩, ?_⟩
      have e : n = b.count := by omega
      subst e
      rcases i2 with ⟨j1, j2⟩ | ⟨j1, j2⟩
      · refine Or.inl ⟨j1, ?_⟩
        simp only [valC, j2, Nat.mul_add]
        omega
      · refine Or.inr ⟨j1, ?_⟩
        simp only [valC, countP, ← j2, Nat.mul_add]
        omega
  | [], _ :: _, _, h => h.elim
  | _ :: _, [], _, h => h.elim
theorem valC_zero : ∀ (L : List BrickR), valC L (List.replicate L.length 0) = 0
  | [] => rfl
  | b :: t => by
    simp only [List.length_cons, List.replicate_succ, valC, valC_zero t]
    simp
end Go.Proofs.YtfkmnneieglolaaGreatDoor
