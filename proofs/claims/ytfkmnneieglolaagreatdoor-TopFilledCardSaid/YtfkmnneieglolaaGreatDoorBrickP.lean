/-
  PLAIN: bricks, their choices in order, the sums, the first choice in a window, the nearest sum.
-/
import Derived.Test.YtfkmnneieglolaaGreatDoorRows
namespace Go.Proofs.YtfkmnneieglolaaGreatDoor

structure BrickR where
  name : ByteArray
  weight : Int
  count : Int
/-- Numbers that are right for a search. -/
def BrickOK (L : List BrickR) : Prop := ∀ b ∈ L, 1 ≤ b.weight ∧ b.weight ≤ 1048576 ∧ 0 ≤ b.count ∧ b.count ≤ 60
def IsC : List BrickR → List Int → Prop
  | [], [] => True
  | b :: t, n :: r => (0 ≤ n ∧ n ≤ b.count) ∧ IsC t r
  | _, _ => False
def sumC : List BrickR → List Int → Int
  | b :: t, n :: r => b.weight * n + sumC t r
  | _, _ => 0
def numC : List Int → Int
  | [] => 0
  | n :: r => n + numC r
def restC : List BrickR → Int
  | [] => 0
  | b :: t => b.weight * b.count + restC t
theorem isC_len : ∀ {L : List BrickR} {c : List Int}, IsC L c → c.length = L.length
  | [], [], _ => rfl
  | _ :: _, _ :: _, h => by simp only [List.length_cons]; rw [isC_len h.2]
  | [], _ :: _, h => h.elim
  | _ :: _, [], h => h.elim
theorem isC_append : ∀ {L1 L2 : List BrickR} {c1 c2 : List Int}, IsC L1 c1 → IsC L2 c2 → IsC (L1 ++ L2) (c1 ++ c2)
  | [], _, [], _, _, h => h
  | _ :: _, _, _ :: _, _, h1, h2 => ⟨h1.1, isC_append h1.2 h2⟩
  | [], _, _ :: _, _, h, _ => h.elim
  | _ :: _, _, [], _, h, _ => h.elim
theorem sumC_append : ∀ {L1 L2 : List BrickR} {c1 c2 : List Int}, c1.length = L1.length → sumC (L1 ++ L2) (c1 ++ c2) = sumC L1 c1 + sumC L2 c2
  | [], _, [], _, _ => by simp [sumC]
  | _ :: _, _, _ :: _, _, h => by
    simp only [List.cons_append, sumC]
    rw [sumC_append (by simpa using h)]
    omega
  | [], _, _ :: _, _, h => by simp at h
  | _ :: _, _, [], _, h => by simp at h
theorem numC_append (c1 c2 : List Int) : numC (c1 ++ c2) = numC c1 + numC c2 := by
  induction c1 with
  | nil => simp [numC]
  | cons x r ih => simp only [List.cons_append, numC, ih]; omega
theorem isC_bd : ∀ {L : List BrickR} {c : List Int}, BrickOK L → IsC L c → 0 ≤ sumC L c ∧ sumC L c ≤ restC L ∧ 0 ≤ numC c ∧ numC c ≤ 60 * L.length
  | [], [], _, _ => by simp [sumC, restC, numC]
  | b :: t, n :: r, ok, h => by
    obtain ⟨i1, i2, i3, i4⟩ := isC_bd (fun x hx => ok x (List.mem_cons_of_mem _ hx)) h.2
    obtain ⟨w1, w2, w3, w4⟩ := ok b (List.mem_cons_self ..)
    obtain ⟨n1, n2⟩ := h.1
    have a1 : 0 ≤ b.weight * n := Int.mul_nonneg (by omega) n1
    have a2 : b.weight * n ≤ b.weight * b.count := Int.mul_le_mul_of_nonneg_left n2 (by omega)
    simp only [sumC, restC, numC, List.length_cons]
    omega
  | [], _ :: _, _, h => h.elim
  | _ :: _, [], _, h => h.elim
theorem rest_bd : ∀ {L : List BrickR}, BrickOK L → 0 ≤ restC L ∧ restC L ≤ 62914560 * L.length
  | [], _ => by simp [restC]
  | b :: t, ok => by
    obtain ⟨i1, i2⟩ := rest_bd (fun x hx => ok x (List.mem_cons_of_mem _ hx) : BrickOK t)
    obtain ⟨w1, w2, w3, w4⟩ := ok b (List.mem_cons_self ..)
    have a1 : 0 ≤ b.weight * b.count := Int.mul_nonneg (by omega) w3
    have a2 : b.weight * b.count ≤ 1048576 * 60 := Int.mul_le_mul w2 w4 w3 (by omega)
    simp only [restC, List.length_cons]
    omega

/-! ### All choices in lexicographic order -/
def upto (n : Int) : List Int := (List.range (n + 1).toNat).map fun k : Nat => (k : Int)
theorem upto_mem {n x : Int} : x ∈ upto n ↔ 0 ≤ x ∧ x ≤ n := by
  unfold upto
  rw [List.mem_map]
  constructor
  · rintro ⟨k, hk, rfl⟩
    have := List.mem_range.1 hk
    omega
  · rintro ⟨h1, h2⟩
    exact ⟨x.toNat, List.mem_range.2 (by omega), by omega⟩
def allC : List BrickR → List (List Int)
  | [] => [[]]
  | b :: t => (upto b.count).flatMap fun n => (allC t).map (n :: ·)
theorem allC_mem : ∀ {L : List BrickR} {c : List Int}, c ∈ allC L ↔ IsC L c
  | [], c => by cases c <;> simp [allC, IsC]
  | b :: t, c => by
    simp only [allC, List.mem_flatMap, List.mem_map]
    constructor
    · rintro ⟨n, hn, r, hr, rfl⟩
      exact ⟨upto_mem.1 hn, allC_mem.1 hr⟩
    · intro h
      cases c with
      | nil => exact h.elim
      | cons n r => exact ⟨n, upto_mem.2 h.1, r, allC_mem.2 h.2, rfl⟩
def countP : List BrickR → Nat
  | [] => 1
  | b :: t => (b.count + 1).toNat * countP t
theorem allC_len : ∀ (L : List BrickR), (allC L).length = countP L
  | [] => rfl
  | b :: t => by
    simp only [allC, countP, List.length_flatMap, List.length_map, allC_len t]
    rw [List.map_const', List.sum_replicate_nat]
    simp [upto]
def lexB : List Int → List Int → Bool
  | x :: a, y :: b => if x = y then lexB a b else decide (x < y)
  | _, _ => false
theorem lexB_irr : ∀ a, lexB a a = false
  | [] => rfl
  | x :: a => by simp [lexB, lexB_irr a]
theorem lexB_cons (n : Int) (a b : List Int) : lexB (n :: a) (n :: b) = lexB a b := by simp [lexB]
theorem upto_lt (n : Int) : (upto n).Pairwise (· < ·) := by
  unfold upto
  rw [List.pairwise_map]
  exact List.pairwise_lt_range.imp fun h => by omega
theorem allC_lex : ∀ (L : List BrickR), (allC L).Pairwise fun a b => lexB a b = true
  | [] => by simp [allC]
  | b :: t => by
    simp only [allC]
    rw [List.pairwise_flatMap]
    refine ⟨fun n _ => ?_, ?_⟩
    · rw [List.pairwise_map]
      exact (allC_lex t).imp fun h => by rw [lexB_cons]; exact h
    · refine (upto_lt b.count).imp fun {x y} hxy => ?_
      intro a ha c hc
      obtain ⟨a', _, rfl⟩ := List.mem_map.1 ha
      obtain ⟨c', _, rfl⟩ := List.mem_map.1 hc
      simp only [lexB]
      rw [if_neg (by omega)]
      simpa using hxy

/-! ### The first choice in a window -/
def winB (low high s : Int) : Bool := decide (low ≤ s) && decide (s ≤ high)
/-- One choice more: it is taken if it has fewer bricks. -/
def stepF (low high : Int) (st : Option (List Int × Int)) (c : List Int) (s n : Int) : Option (List Int × Int) :=
  if winB low high s = true then
    match st with
    | none => some (c, n)
    | some (b, m) => if n < m then some (c, n) else some (b, m)
  else st
/-- What the search does from a choice begun on. -/
def visitF (low high : Int) : List BrickR → List Int → Int → Int → Option (List Int × Int) → Option (List Int × Int)
  | [], pre, s, n, st => stepF low high st pre s n
  | b :: t, pre, s, n, st => (upto b.count).foldl (fun st k => visitF low high t (pre ++ [k]) (s + k * b.weight) (n + k) st) st
theorem foldl_same {α β : Type} (f : α → β → α) (a : α) : ∀ (l : List β), (∀ x ∈ l, f a x = a) → l.foldl f a = a
  | [], _ => rfl
  | x :: l, h => by
    rw [List.foldl_cons, h x (List.mem_cons_self ..)]
    exact foldl_same f a l fun y hy => h y (List.mem_cons_of_mem _ hy)
theorem visit_high (low high : Int) : ∀ (L : List BrickR) (pre : List Int) (s n : Int) (st), BrickOK L → high < s → visitF low high L pre s n st = st
  | [], pre, s, n, st, _, h => by
    unfold visitF stepF
    rw [if_neg]
    unfold winB
    simp
    omega
  | b :: t, pre, s, n, st, ok, h => by
    unfold visitF
    refine foldl_same _ _ _ fun k hk => visit_high low high t _ _ _ _ (fun x hx => ok x (List.mem_cons_of_mem _ hx)) ?_
    have := Int.mul_nonneg (upto_mem.1 hk).1 (show 0 ≤ b.weight by have := ok b (List.mem_cons_self ..); omega)
    omega
theorem visit_low (low high : Int) : ∀ (L : List BrickR) (pre : List Int) (s n : Int) (st), BrickOK L → s + restC L < low → visitF low high L pre s n st = st
  | [], pre, s, n, st, _, h => by
    unfold visitF stepF
    rw [if_neg]
    unfold winB
    simp [restC] at h ⊢
    omega
  | b :: t, pre, s, n, st, ok, h => by
    unfold visitF
    refine foldl_same _ _ _ fun k hk => visit_low low high t _ _ _ _ (fun x hx => ok x (List.mem_cons_of_mem _ hx)) ?_
    have a1 := (upto_mem.1 hk).2
    have a2 : k * b.weight ≤ b.count * b.weight := Int.mul_le_mul_of_nonneg_right a1 (by have := ok b (List.mem_cons_self ..); omega)
    have a3 : b.weight * b.count = b.count * b.weight := Int.mul_comm _ _
    simp only [restC] at h
    omega
theorem visit_many (low high : Int) : ∀ (L : List BrickR) (pre : List Int) (s n : Int) (b : List Int) (m : Int), m ≤ n → visitF low high L pre s n (some (b, m)) = some (b, m)
  | [], pre, s, n, b, m, h => by
    unfold visitF stepF
    split
    · simp only []
      rw [if_neg (by omega)]
    · rfl
  | x :: t, pre, s, n, b, m, h => by
    unfold visitF
    exact foldl_same _ _ _ fun k hk => visit_many low high t _ _ _ _ _ (by have := (upto_mem.1 hk).1; omega)
/-- The same as going through the list of all choices. -/
def stepL (low high : Int) (L : List BrickR) (st : Option (List Int × Int)) (c : List Int) : Option (List Int × Int) := stepF low high st c (sumC L c) (numC c)
theorem visit_all (low high : Int) (L0 : List BrickR) : ∀ (L L1 : List BrickR) (pre : List Int) (st), L0 = L1 ++ L → pre.length = L1.length →
    visitF low high L pre (sumC L1 pre) (numC pre) st = ((allC L).map (pre ++ ·)).foldl (stepL low high L0) st
  | [], L1, pre, st, h, hl => by
    rw [List.append_nil] at h
    subst h
    simp [visitF, allC, stepL]
  | b :: t, L1, pre, st, h, hl => by
    have key : ∀ (ks : List Int) (st), ks.foldl (fun st k => visitF low high t (pre ++ [k]) (sumC L1 pre + k * b.weight) (numC pre + k) st) st = ((ks.flatMap fun n => (allC t).map (n :: ·)).map (pre ++ ·)).foldl (stepL low high L0) st := by
      intro ks
      induction ks with
      | nil => intro st; rfl
      | cons k ks ih =>
        intro st
        rw [List.foldl_cons, ih, List.flatMap_cons, List.map_append, List.foldl_append]
        congr 1
        have h2 := visit_all low high L0 t (L1 ++ [b]) (pre ++ [k]) st (by rw [h]; simp) (by simp [hl])
        rw [sumC_append hl, numC_append] at h2
        simp only [sumC, numC] at h2
        rw [show sumC L1 pre + k * b.weight = sumC L1 pre + (b.weight * k + 0) by rw [Int.mul_comm]; omega, show numC pre + k = numC pre + (k + 0) by omega, h2]
        rw [List.map_map]
        congr 1
        apply List.map_congr_left
        intro c _
        simp
    unfold visitF
    exact key _ _
def firstP (low high : Int) (L : List BrickR) : Option (List Int × Int) := visitF low high L [] 0 0 none
theorem firstP_eq (low high : Int) (L : List BrickR) : firstP low high L = (allC L).foldl (stepL low high L) none := by
  have := visit_all low high L L [] [] none rfl rfl
  simpa [firstP, sumC, numC] using this

def beforeB (a b : List Int) : Bool := if numC a = numC b then lexB a b else decide (numC a < numC b)
/-- The best one of some choices. -/
def BestOf (low high : Int) (L : List BrickR) (S : List Int → Prop) : Option (List Int × Int) → Prop
  | none => ∀ c, S c → winB low high (sumC L c) = false
  | some (b, m) => S b ∧ winB low high (sumC L b) = true ∧ m = numC b ∧ ∀ c, S c → winB low high (sumC L c) = true → c = b ∨ beforeB b c = true
theorem best_step {low high : Int} {L : List BrickR} {S : List Int → Prop} {st : Option (List Int × Int)} {c : List Int} (h : BestOf low high L S st) (hl : ∀ a, S a → lexB a c = true) :
    BestOf low high L (fun a => S a ∨ a = c) (stepL low high L st c) := by
  unfold stepL stepF
  by_cases hw : winB low high (sumC L c) = true
  · rw [if_pos hw]
    cases st with
    | none =>
      refine ⟨Or.inr rfl, hw, rfl, fun a ha hwa => ?_⟩
      rcases ha with ha | ha
      · have := h a ha; rw [this] at hwa; cases hwa
      · exact Or.inl ha
    | some p =>
      obtain ⟨b, m⟩ := p
      obtain ⟨h1, h2, h3, h4⟩ := h
      simp only []
      split
      · rename_i hlt
        refine ⟨Or.inr rfl, hw, rfl, fun a ha hwa => ?_⟩
        rcases ha with ha | ha
        · refine Or.inr ?_
          have hnum : m ≤ numC a := by
            rcases h4 a ha hwa with e | e
            · rw [e, h3]; exact Int.le_refl _
            · unfold beforeB at e
              split at e
              · omega
              · have := of_decide_eq_true e; omega
          unfold beforeB
          rw [if_neg (by omega)]
          exact decide_eq_true (by omega)
        · exact Or.inl ha
      · rename_i hge
        refine ⟨Or.inl h1, h2, h3, fun a ha hwa => ?_⟩
        rcases ha with ha | ha
        · exact h4 a ha hwa
        · refine Or.inr ?_
          subst ha
          unfold beforeB
          split
          · exact hl b h1
          · exact decide_eq_true (by omega)
  · rw [if_neg hw]
    have hw' : winB low high (sumC L c) = false := by simpa using hw
    cases st with
    | none =>
      intro a ha
      rcases ha with ha | ha
      · exact h a ha
      · rw [ha]; exact hw'
    | some p =>
      obtain ⟨b, m⟩ := p
      obtain ⟨h1, h2, h3, h4⟩ := h
      refine ⟨Or.inl h1, h2, h3, fun a ha hwa => ?_⟩
      rcases ha with ha | ha
      · exact h4 a ha hwa
      · rw [ha, hw'] at hwa; cases hwa
theorem best_fold {low high : Int} {L : List BrickR} : ∀ (l : List (List Int)) (S : List Int → Prop) (st : Option (List Int × Int)), BestOf low high L S st → (∀ a, S a → ∀ c ∈ l, lexB a c = true) → l.Pairwise (fun a b => lexB a b = true) →
    BestOf low high L (fun a => S a ∨ a ∈ l) (l.foldl (stepL low high L) st)
  | [], S, st, h, _, _ => by
    have e : (fun a => S a ∨ a ∈ ([] : List (List Int))) = S := by funext a; simp
    rw [e]
    exact h
  | c :: l, S, st, h, hl, hp => by
    rw [List.pairwise_cons] at hp
    have h2 := best_fold l (fun a => S a ∨ a = c) (stepL low high L st c) (best_step h fun a ha => hl a ha c (List.mem_cons_self ..)) (fun a ha x hx => by
      rcases ha with ha | ha
      · exact hl a ha x (List.mem_cons_of_mem _ hx)
      · rw [ha]; exact hp.1 x hx) hp.2
    have e : (fun a => S a ∨ a ∈ c :: l) = (fun a => (S a ∨ a = c) ∨ a ∈ l) := by
      funext a
      simp only [List.mem_cons, eq_iff_iff]
      exact or_assoc.symm
    rw [e]
    exact h2
theorem first_best (low high : Int) (L : List BrickR) : BestOf low high L (IsC L) (firstP low high L) := by
  rw [firstP_eq]
  have h := best_fold (low := low) (high := high) (L := L) (allC L) (fun _ => False) none (fun c hc => hc.elim) (fun a ha => ha.elim) (allC_lex L)
  have e : (fun a => False ∨ a ∈ allC L) = IsC L := by funext a; simp [allC_mem]
  rw [e] at h
  exact h
theorem lexB_asymm : ∀ (a b : List Int), lexB a b = true → lexB b a = false
  | x :: a, y :: b, h => by
    simp only [lexB] at h ⊢
    by_cases e : x = y
    · rw [if_pos e] at h
      rw [if_pos e.symm]
      exact lexB_asymm a b h
    · rw [if_neg e] at h
      rw [if_neg (fun q => e q.symm)]
      have := of_decide_eq_true h
      exact decide_eq_false (by omega)
  | [], _, h => by simp [lexB] at h
  | _ :: _, [], h => by simp [lexB] at h
theorem before_asymm (a b : List Int) (h : beforeB a b = true) : beforeB b a = false := by
  unfold beforeB at *
  by_cases e : numC a = numC b
  · rw [if_pos e] at h
    rw [if_pos e.symm]
    exact lexB_asymm a b h
  · rw [if_neg e] at h
    rw [if_neg (fun q => e q.symm)]
    have := of_decide_eq_true h
    exact decide_eq_false (by omega)
theorem best_unique {low high : Int} {L : List BrickR} {S : List Int → Prop} {x y : Option (List Int × Int)} (hx : BestOf low high L S x) (hy : BestOf low high L S y) : x = y := by
  cases x with
  | none =>
    cases y with
    | none => rfl
    | some q => have := hx _ hy.1; rw [hy.2.1] at this; cases this
  | some p =>
    obtain ⟨b, m⟩ := p
    cases y with
    | none => have := hy _ hx.1; rw [hx.2.1] at this; cases this
    | some q =>
      obtain ⟨c, k⟩ := q
      obtain ⟨h1, h2, h3, h4⟩ := hx
      obtain ⟨k1, k2, k3, k4⟩ := hy
      have e : c = b := by
        rcases h4 c k1 k2 with e | e
        · exact e
        · rcases k4 b h1 h2 with e' | e'
          · exact e'.symm
          · have := before_asymm _ _ e; rw [e'] at this; cases this
      subst e
      rw [h3, k3]
end Go.Proofs.YtfkmnneieglolaaGreatDoor
