/-
  PLAIN: a place on the way changes neither travel nor turns.
-/
import Derived.Test.YtfllfabinfmogaaPlaces
namespace Go.Proofs.Ytfllfabinfmogaa
/-- A list with a number set in. -/
def insL (L : List Int) (i : Nat) (x : Int) : List Int := L.take i ++ x :: L.drop i
theorem ins_len {L : List Int} {i : Nat} {x : Int} (h : i ≤ L.length) : (insL L i x).length = L.length + 1 := by
  unfold insL
  rw [List.length_append, List.length_take, List.length_cons, List.length_drop]
  omega
theorem ins_lo {L : List Int} {i k : Nat} {x : Int} (h : i ≤ L.length) (hk : k < i) : ig (insL L i x) k = ig L k := by
  unfold ig insL
  rw [List.getElem?_append_left (by rw [List.length_take]; omega), List.getElem?_take_of_lt hk]
theorem ins_at {L : List Int} {i : Nat} {x : Int} (h : i ≤ L.length) : ig (insL L i x) i = x := by
  unfold ig insL
  rw [List.getElem?_append_right (by rw [List.length_take]; omega), List.length_take, Nat.min_eq_left h, Nat.sub_self]
  rfl
theorem ins_hi {L : List Int} {i k : Nat} {x : Int} (h : i ≤ L.length) (hk : i ≤ k) : ig (insL L i x) (k + 1) = ig L k := by
  unfold ig insL
  rw [List.getElem?_append_right (by rw [List.length_take]; omega), List.length_take, Nat.min_eq_left h, show k + 1 - i = (k - i) + 1 by omega, List.getElem?_cons_succ, List.getElem?_drop, show i + (k - i) = k by omega]
/-- Between two numbers. -/
def Btw (x a b : Int) : Prop := (a ≤ x ∧ x ≤ b) ∨ (b ≤ x ∧ x ≤ a)
theorem step_btw {s : Int × Int} {x a b : Int} (h : Btw x a b) : turnStep (turnStep s a x) x b = turnStep s a b := by
  obtain ⟨d, n⟩ := s
  unfold Btw at h
  unfold turnStep
  rcases Int.lt_trichotomy a b with c | c | c
  · rcases Int.lt_trichotomy a x with e | e | e
    · rw [if_pos e, if_pos c]
      rcases Int.lt_trichotomy x b with g | g | g
      · rw [if_pos g]
        simp
      · rw [if_neg (by omega), if_neg (by omega)]
      · omega
    · subst e
      rw [if_neg (Int.lt_irrefl a), if_neg (Int.lt_irrefl a)]
    · omega
  · subst c
    obtain rfl : x = a := by omega
    rw [if_neg (Int.lt_irrefl x), if_neg (Int.lt_irrefl x)]
  · rcases Int.lt_trichotomy x a with e | e | e
    · rw [if_neg (by omega : ¬ a < x), if_pos e, if_neg (by omega : ¬ a < b), if_pos c]
      rcases Int.lt_trichotomy b x with g | g | g
      · rw [if_neg (by omega), if_pos g]
        simp
      · rw [if_neg (by omega), if_neg (by omega)]
      · omega
    · subst e
      rw [if_neg (by omega : ¬ x < x), if_neg (by omega : ¬ x < x)]
    · omega
theorem travel_ins {L : List Int} {i : Nat} {x : Int} (hi : i + 1 < L.length) (h : Btw x (ig L i) (ig L (i + 1))) : ∀ k, k < L.length → (k ≤ i → travelTo (insL L (i + 1) x) k = travelTo L k) ∧ (i < k → travelTo (insL L (i + 1) x) (k + 1) = travelTo L k) := by
  have hl : i + 1 ≤ L.length := by omega
  intro k
  induction k with
  | zero => exact fun _ => ⟨fun _ => rfl, fun h => absurd h (by omega)⟩
  | succ k ih =>
    intro hk
    obtain ⟨i1, i2⟩ := ih (by omega)
    refine ⟨fun c => ?_, fun c => ?_⟩
    · rw [travelTo, travelTo, i1 (by omega), ins_lo hl (by omega), ins_lo hl (by omega)]
    · rw [travelTo, ins_hi (k := k + 1) hl (by omega)]
      rcases (show k = i ∨ i < k by omega) with e | e
      · subst e
        rw [travelTo, i1 (Nat.le_refl _), ins_at hl, ins_lo hl (by omega), travelTo]
        unfold Btw at h
        rw [Int.add_assoc]
        congr 1
        omega
      · rw [i2 e, ins_hi (k := k) hl (by omega), travelTo]
theorem turns_ins {L : List Int} {i : Nat} {x : Int} (hi : i + 1 < L.length) (h : Btw x (ig L i) (ig L (i + 1))) : ∀ k, k < L.length → (k ≤ i → turnsTo (insL L (i + 1) x) k = turnsTo L k) ∧ (i < k → turnsTo (insL L (i + 1) x) (k + 1) = turnsTo L k) := by
  have hl : i + 1 ≤ L.length := by omega
  intro k
  induction k with
  | zero => exact fun _ => ⟨fun _ => rfl, fun h => absurd h (by omega)⟩
  | succ k ih =>
    intro hk
    obtain ⟨i1, i2⟩ := ih (by omega)
    refine ⟨fun c => ?_, fun c => ?_⟩
    · rw [turnsTo, turnsTo, i1 (by omega), ins_lo hl (by omega), ins_lo hl (by omega)]
    · rw [turnsTo, ins_hi (k := k + 1) hl (by omega)]
      rcases (show k = i ∨ i < k by omega) with e | e
      · subst e
        rw [turnsTo, i1 (Nat.le_refl _), ins_at hl, ins_lo hl (by omega), turnsTo]
        exact step_btw h
      · rw [i2 e, ins_hi (k := k) hl (by omega), turnsTo]
theorem travelP_ins {L : List Int} {i : Nat} {x : Int} (hi : i + 1 < L.length) (h : Btw x (ig L i) (ig L (i + 1))) : travelP (insL L (i + 1) x) = travelP L := by
  unfold travelP
  rw [ins_len (by omega), show L.length + 1 - 1 = (L.length - 1) + 1 by omega]
  exact (travel_ins hi h (L.length - 1) (by omega)).2 (by omega)
theorem turnsP_ins {L : List Int} {i : Nat} {x : Int} (hi : i + 1 < L.length) (h : Btw x (ig L i) (ig L (i + 1))) : turnsP (insL L (i + 1) x) = turnsP L := by
  unfold turnsP
  rw [ins_len (by omega), show L.length + 1 - 1 = (L.length - 1) + 1 by omega, (turns_ins hi h (L.length - 1) (by omega)).2 (by omega)]
theorem travel_away (L : List Int) (k : Nat) : ig L k - ig L 0 ≤ travelTo L k ∧ ig L 0 - ig L k ≤ travelTo L k := by
  induction k with
  | zero => simp [travelTo]
  | succ k ih => rw [travelTo]; omega
theorem turns_few (L : List Int) (k : Nat) : (turnsTo L k).1 = 0 ∧ (turnsTo L k).2 = 0 ∨ ((turnsTo L k).1 = 1 ∨ (turnsTo L k).1 = -1) ∧ 0 ≤ (turnsTo L k).2 ∧ (turnsTo L k).2 + 1 ≤ k := by
  induction k with
  | zero => exact .inl ⟨rfl, rfl⟩
  | succ k ih =>
    rw [turnsTo]
    unfold turnStep
    split
    · right
      refine ⟨.inl rfl, ?_⟩
      simp only
      split <;> omega
    · split
      · right
        refine ⟨.inr rfl, ?_⟩
        simp only
        split <;> omega
      · rcases ih with h | ⟨a, b, c⟩
        · exact .inl h
        · exact .inr ⟨a, b, by omega⟩
/-- A part of the way between two numbers. -/
theorem part_btw {a b p : Int} (p0 : 0 ≤ p) (p1 : p ≤ 65535) : Btw (a + ((b - a) * p).tdiv 65535) a b := by
  rcases Int.le_total a b with c | c
  · left
    have h0 : 0 ≤ (b - a) * p := Int.mul_nonneg (by omega) p0
    have h1 : (b - a) * p ≤ (b - a) * 65535 := Int.mul_le_mul_of_nonneg_left p1 (by omega)
    rw [Int.tdiv_eq_ediv_of_nonneg h0]
    omega
  · right
    have e : (b - a) * p = -((a - b) * p) := by rw [show b - a = -(a - b) by omega, Int.neg_mul]
    have h0 : 0 ≤ (a - b) * p := Int.mul_nonneg (by omega) p0
    have h1 : (a - b) * p ≤ (a - b) * 65535 := Int.mul_le_mul_of_nonneg_left p1 (by omega)
    rw [e, Int.neg_tdiv, Int.tdiv_eq_ediv_of_nonneg h0]
    omega
theorem ins_places {L : List Int} {i : Nat} {x : Int} (hl : L.length ≤ 900) (hi : i + 1 < L.length) (h : Btw x (ig L i) (ig L (i + 1))) (e : placesE L = 0) : placesE (insL L (i + 1) x) = 0 := by
  have ok : ∀ y ∈ L, placeBad y = false := by
    intro y hy
    unfold placesE at e
    rw [if_neg (by omega)] at e
    cases c : placeBad y
    · rfl
    · rw [if_pos (List.any_eq_true.2 ⟨y, hy, c⟩)] at e; cases e
  have get : ∀ k, k < L.length → placeBad (ig L k) = false := fun k hk => ok _ (by rw [ig_eq L k hk]; exact List.getElem_mem hk)
  have a := get i (by omega)
  have b := get (i + 1) hi
  have bx : placeBad x = false := by
    unfold placeBad at a b ⊢
    simp only [Bool.or_eq_false_iff, decide_eq_false_iff_not] at a b ⊢
    unfold Btw at h
    omega
  unfold placesE
  rw [ins_len (by omega), if_neg (by omega), if_neg]
  intro q
  obtain ⟨y, hy, q⟩ := List.any_eq_true.1 q
  have : placeBad y = false := by
    unfold insL at hy
    rcases List.mem_append.1 hy with m | m
    · exact ok y (List.mem_of_mem_take m)
    · rcases List.mem_cons.1 m with m | m
      · rw [m]; exact bx
      · exact ok y (List.mem_of_mem_drop m)
  rw [this] at q
  cases q
theorem turnsP_bd {L : List Int} (h : 2 ≤ L.length) : 0 ≤ turnsP L ∧ turnsP L ≤ (L.length : Int) - 2 := by
  unfold turnsP
  rcases turns_few L (L.length - 1) with ⟨_, e⟩ | ⟨_, a, b⟩
  · rw [e]; omega
  · omega
theorem travelP_away {L : List Int} : max (ig L (L.length - 1) - ig L 0) (-(ig L (L.length - 1) - ig L 0)) ≤ travelP L := by
  unfold travelP
  have := travel_away L (L.length - 1)
  omega
/-- The numbers that the law reckons stay small. -/
theorem bet_small {a b p : Int} (ha : 0 ≤ a ∧ a ≤ 1048576) (hb : 0 ≤ b ∧ b ≤ 1048576) (p0 : 0 ≤ p) (p1 : p ≤ 65535) : -68719411200 ≤ (b - a) * p ∧ (b - a) * p ≤ 68719411200 := by
  have h1 := Int.mul_le_mul_of_nonneg_right (show b - a ≤ 1048576 by omega) p0
  have h2 := Int.mul_le_mul_of_nonneg_right (show -1048576 ≤ b - a by omega) p0
  omega
end Go.Proofs.Ytfllfabinfmogaa
