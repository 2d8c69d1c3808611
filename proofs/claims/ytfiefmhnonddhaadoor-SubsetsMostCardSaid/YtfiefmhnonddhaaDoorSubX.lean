/-
  PLAIN: what Parts picks is accepted by Check; no part of it can be divided.
-/
import Derived.Test.YtfiefmhnonddhaaDoorSubW
namespace Go.Proofs.YtfiefmhnonddhaaDoor
theorem sumN_cons (x : Int) (r : List Int) (s : Nat) : sumN (x :: r) s = if s % 2 = 1 then x + sumN r (s / 2) else sumN r (s / 2) := rfl
theorem idxN_succ (n k s : Nat) : idxN (n + 1) k s = if s % 2 = 1 then (k : Int) :: idxN n (k + 1) (s / 2) else idxN n (k + 1) (s / 2) := rfl
theorem sizN_succ (n s : Nat) : sizN (n + 1) s = s % 2 + sizN n (s / 2) := rfl
theorem idx_mem : ∀ (n k s : Nat) (x : Int), x ∈ idxN n k s ↔ ∃ j, j < n ∧ x = ((k + j : Nat) : Int) ∧ s.testBit j = true
  | 0, k, s, x => by simp [idxN]
  | n + 1, k, s, x => by
    have ih := idx_mem n (k + 1) (s / 2) x
    have e0 : s.testBit 0 = decide (s % 2 = 1) := Nat.testBit_zero s
    rw [idxN_succ]
    have tail : (∃ j, j < n ∧ x = ((k + 1 + j : Nat) : Int) ∧ (s / 2).testBit j = true) ↔ ∃ j, 0 < j ∧ j < n + 1 ∧ x = ((k + j : Nat) : Int) ∧ s.testBit j = true := by
      constructor
      · rintro ⟨j, h, e, b⟩
        exact ⟨j + 1, by omega, by omega, by omega, by rw [Nat.testBit_succ]; exact b⟩
      · rintro ⟨j, j0, h, e, b⟩
        obtain ⟨i, rfl⟩ : ∃ i, j = i + 1 := ⟨j - 1, by omega⟩
        exact ⟨i, by omega, by omega, by rw [Nat.testBit_succ] at b; exact b⟩
    by_cases c : s % 2 = 1
    · rw [if_pos c, List.mem_cons, ih, tail]
      constructor
      · rintro (h | ⟨j, _, h, e, b⟩)
        · exact ⟨0, by omega, by omega, by rw [e0]; exact decide_eq_true c⟩
        · exact ⟨j, h, e, b⟩
      · rintro ⟨j, h, e, b⟩
        rcases Nat.eq_zero_or_pos j with z | z
        · left; omega
        · exact .inr ⟨j, z, h, e, b⟩
    · rw [if_neg c, ih, tail]
      constructor
      · rintro ⟨j, _, h, e, b⟩; exact ⟨j, h, e, b⟩
      · rintro ⟨j, h, e, b⟩
        rcases Nat.eq_zero_or_pos j with z | z
        · rw [z, e0] at b
          exact absurd (of_decide_eq_true b) c
        · exact ⟨j, z, h, e, b⟩
theorem idx_asc : ∀ (n k s : Nat), (idxN n k s).Pairwise (· < ·)
  | 0, _, _ => List.Pairwise.nil
  | n + 1, k, s => by
    rw [idxN_succ]
    have ih := idx_asc n (k + 1) (s / 2)
    split
    · exact List.pairwise_cons.2 ⟨fun x hx => by have := idx_ge n (k + 1) (s / 2) x hx; omega, ih⟩
    · exact ih
theorem chkIn_yes (l : List Int) : ∀ (p : List Int) (st : Nat × Int × Int), -1 ≤ st.2.2 → p.Pairwise (· < ·) → (∀ x ∈ p, st.2.2 < x ∧ x < l.length ∧ st.1.testBit x.toNat = false) →
    ∃ st', chkIn l p st = some st' ∧ ∀ j, st'.1.testBit j = true ↔ st.1.testBit j = true ∨ (j : Int) ∈ p
  | [], st, _, _, _ => ⟨st, rfl, fun j => by simp⟩
  | k :: r, st, h0, ha, hp => by
    obtain ⟨a, b⟩ := List.pairwise_cons.1 ha
    obtain ⟨k1, k2, k3⟩ := hp k (by simp)
    obtain ⟨st', e, m⟩ := chkIn_yes l r (st.1 ||| 2 ^ k.toNat, st.2.1 + (l[k.toNat]?).getD 0, k) (by show -1 ≤ k; omega) b (fun x hx => by
      have := a x hx
      obtain ⟨x1, x2, x3⟩ := hp x (by simp [hx])
      refine ⟨this, x2, ?_⟩
      show (st.1 ||| 2 ^ k.toNat).testBit x.toNat = false
      rw [Nat.testBit_or, x3, Bool.false_or, Nat.testBit_two_pow]
      simp
      omega)
    refine ⟨st', ?_, fun j => ?_⟩
    · unfold chkIn
      rw [if_neg (by rw [not_or, not_or]; exact ⟨by omega, by omega, by rw [k3]; simp⟩)]
      exact e
    · rw [m j, Nat.testBit_or, Nat.testBit_two_pow, Bool.or_eq_true, List.mem_cons, decide_eq_true_eq]
      constructor
      · rintro ((h | h) | h)
        · exact .inl h
        · right; left; omega
        · exact .inr (.inr h)
      · rintro (h | h | h)
        · exact .inl (.inl h)
        · left; right; omega
        · exact .inr h
/-- Check takes a subset's list as one part. -/
theorem chkIn_idx {l : List Int} {s seen : Nat} (hs : s < 2 ^ l.length) (d : Dis seen s) : ∃ last, chkIn l (idxN l.length 0 s) (seen, 0, -1) = some (seen ||| s, sumN l s, last) := by
  obtain ⟨st', e, m⟩ := chkIn_yes l (idxN l.length 0 s) (seen, 0, -1) (by show (-1 : Int) ≤ -1; decide) (idx_asc _ _ _) (fun x hx => by
    obtain ⟨j, hj, ex, b⟩ := (idx_mem _ _ _ _).1 hx
    have : x.toNat = j := by omega
    refine ⟨by show -1 < x; omega, by omega, ?_⟩
    show seen.testBit x.toNat = false
    rw [this]
    cases c : seen.testBit j
    · rfl
    · exact absurd ⟨c, b⟩ (d j))
  obtain ⟨u, du, e1, e2, ul, _⟩ := chkIn_ok l _ _ st' (by show (-1 : Int) ≤ -1; decide) e
  have eu : u = s := bits_ext fun j => by
    have h1 := m j
    rw [e1, Nat.testBit_or, Bool.or_eq_true] at h1
    have h2 := du j
    have h3 := d j
    have h4 : (j : Int) ∈ idxN l.length 0 s ↔ s.testBit j = true := by
      rw [idx_mem]
      constructor
      · rintro ⟨i, _, e, b⟩
        have : i = j := by omega
        rw [← this]; exact b
      · intro b; exact ⟨j, bit_lt hs b, by omega, b⟩
    rw [h4] at h1
    simp only at h1 h2
    cases c1 : u.testBit j <;> cases c2 : s.testBit j <;> simp [c1, c2] at h1 h2 h3 ⊢
    · rw [h1] at h3; cases h3
    · rw [h1] at h2; cases h2
  rw [eu] at e1 e2
  simp only [Int.zero_add] at e2
  refine ⟨st'.2.2, ?_⟩
  rw [e, ← e1, ← e2]
/-- The first index of a subset's list. -/
theorem idx_head {n s : Nat} (hs : s < 2 ^ n) (s0 : s ≠ 0) : ∃ r, idxN n 0 s = ((bitLow s : Nat) : Int) :: r := by
  have h := idx_low n 0 s s0 hs (max n (s + 1)) (by omega)
  have e : Lib.ctzFrom (max n (s + 1)) s = bitLow s := by
    have := idx_low n 0 s s0 hs n (Nat.le_refl _)
    -- both are the lowest index
    have f : ∀ f g x, x ≠ 0 → x < 2 ^ f → x < 2 ^ g → Lib.ctzFrom f x = Lib.ctzFrom g x := by
      intro f
      induction f with
      | zero => intro g x x0 h _; simp at h; omega
      | succ f ih =>
        intro g x x0 h1 h2
        obtain ⟨g, rfl⟩ : ∃ k, g = k + 1 := ⟨g - 1, by
          rcases Nat.eq_zero_or_pos g with z | z
          · rw [z] at h2; simp at h2; omega
          · omega⟩
        rcases Nat.mod_two_eq_zero_or_one x with m | m
        · rw [ctz_even m, ctz_even m, ih g (x / 2) (by omega) (by rw [Nat.pow_succ] at h1; omega) (by rw [Nat.pow_succ] at h2; omega)]
        · rw [ctz_odd m, ctz_odd m]
    exact f _ _ s s0 (Nat.lt_of_lt_of_le hs (Nat.pow_le_pow_right (by decide) (by omega))) (Nat.lt_trans (Nat.lt_succ_self s) Nat.lt_two_pow_self)
  rw [e, Nat.zero_add] at h
  exact ⟨_, h⟩
theorem bitLow_le {s j : Nat} (h : s.testBit j = true) : bitLow s ≤ j := by
  have s0 : s ≠ 0 := fun q => by rw [q, Nat.zero_testBit] at h; cases h
  obtain ⟨m, hm, _⟩ := Lib.ctzFrom_spec (s + 1) s (by omega) (Nat.lt_trans (Nat.lt_succ_self s) Nat.lt_two_pow_self)
  rcases Nat.lt_or_ge j (bitLow s) with l | l
  · exfalso
    have e : s = (2 * m + 1) * 2 ^ bitLow s := by rw [Nat.mul_comm]; exact hm
    rw [e, Nat.testBit_mul_two_pow] at h
    simp at h
    omega
  · exact l
/-- The parts are accepted. -/
theorem parts_check {l : List Int} {M : Nat → Int} : ∀ (f left m seen : Nat) (begin : Int), left ≤ f → left < 2 ^ l.length → sumN l left = 0 → (∀ s, Sub s left → decide (sumN l s = 0) = true → ∃ k : Nat, M s = k ∧ MostOf (fun s => decide (sumN l s = 0) = true) s k) → MostOf (fun s => decide (sumN l s = 0) = true) left m →
    Dis seen left → (left ≠ 0 → begin < (bitLow left : Int)) → chkParts l ((partsTo l.length (fun s => decide (sumN l s = 0)) M f left).map (idxN l.length 0)) (seen, begin) = some (seen ||| left)
  | 0, left, m, seen, begin, h, _, _, _, _, _, _ => by
    have : left = 0 := by omega
    subst this
    simp [partsTo, chkParts]
  | f + 1, left, m, seen, begin, h, hlt, z, hM, hm, hd, hb => by
    have A : Adds fun s => decide (sumN l s = 0) = true := by
      have a := sum_adds l
      exact ⟨decide_eq_true a.zero, fun d x y => decide_eq_true (a.or d (of_decide_eq_true x) (of_decide_eq_true y)), fun d x y => decide_eq_true (a.rest d (of_decide_eq_true x) (of_decide_eq_true y))⟩
    unfold partsTo
    by_cases c : left = 0
    · subst c
      simp [chkParts]
    · rw [if_neg c]
      obtain ⟨s, es, s0, ss, sb, zs, zr, k, ek, hk⟩ := pick_part (n := l.length) A (bitLow_in c) (decide_eq_true z) hM hm
      rw [← es, List.map_cons]
      obtain ⟨eq, d, sx⟩ := xor_left ss
      have hs : s < 2 ^ l.length := Nat.lt_of_le_of_lt (sub_le ss) hlt
      have ds : Dis seen s := fun j ⟨a, b⟩ => hd j ⟨a, ss j b⟩
      obtain ⟨r, hr⟩ := idx_head hs s0
      obtain ⟨last, hc⟩ := chkIn_idx hs ds
      have bl : bitLow s = bitLow left := Nat.le_antisymm (bitLow_le sb) (bitLow_le (ss _ (bitLow_in s0)))
      rw [hr] at hc ⊢
      unfold chkParts
      have b0 := hb c
      rw [if_neg (by simp only; omega), hc]
      simp only
      rw [if_pos (of_decide_eq_true zs)]
      have lt : left ^^^ s ≤ f := by
        rw [sub_xor ss]
        have := sub_le ss
        omega
      have := parts_check f (left ^^^ s) k (seen ||| s) ((bitLow s : Nat) : Int) lt (Nat.lt_of_le_of_lt (sub_le sx) hlt) (of_decide_eq_true zr) (fun t ht zt => hM t (fun j hj => sx j (ht j hj)) zt) hk
        (or_dis.2 ⟨fun j ⟨a, b⟩ => hd j ⟨a, sx j b⟩, d⟩) (fun ne => by
          have h1 := bitLow_in ne
          have h2 := bitLow_le (sx _ h1)
          rw [bl]
          rcases Nat.lt_or_ge (bitLow left) (bitLow (left ^^^ s)) with q | q
          · omega
          · exfalso
            have : bitLow (left ^^^ s) = bitLow left := by omega
            rw [this] at h1
            exact d _ ⟨sb, h1⟩)
      rw [this, Nat.or_assoc, eq]
theorem siz_top : ∀ n : Nat, sizN n (2 ^ n - 1) = n
  | 0 => rfl
  | n + 1 => by
    have p := Nat.two_pow_pos n
    rw [sizN_succ, show (2 ^ (n + 1) - 1) / 2 = 2 ^ n - 1 by rw [Nat.pow_succ]; omega, siz_top n, show (2 ^ (n + 1) - 1) % 2 = 1 by rw [Nat.pow_succ]; omega]
    omega
/-- What is left without one of the parts. -/
theorem parts_without {Z : Nat → Bool} (A : Adds fun s => Z s = true) {M : Nat → Int} {n : Nat} : ∀ (f left m : Nat), left ≤ f → Z left = true → (∀ s, Sub s left → Z s = true → ∃ k : Nat, M s = k ∧ MostOf (fun s => Z s = true) s k) → MostOf (fun s => Z s = true) left m →
    ∀ s ∈ partsTo n Z M f left, ∃ k, m = k + 1 ∧ PartN (fun s => Z s = true) (left ^^^ s) k
  | 0, left, m, _, _, _, _ => fun s hs => by cases hs
  | f + 1, left, m, h, z, hM, hm => by
    unfold partsTo
    by_cases c : left = 0
    · rw [if_pos c]; exact fun s hs => by cases hs
    · rw [if_neg c]
      obtain ⟨p, ep, p0, ps, pb, zp, zr, k, ek, hk⟩ := pick_part (n := n) A (bitLow_in c) z hM hm
      rw [← ep]
      obtain ⟨eq, d, sx⟩ := xor_left ps
      intro s hs
      rcases List.mem_cons.1 hs with e | e
      · rw [e]; exact ⟨k, ek, (most_whole A zr hk).1⟩
      · have lt : left ^^^ p ≤ f := by
          rw [sub_xor ps]
          have := sub_le ps
          omega
        have hM' : ∀ t, Sub t (left ^^^ p) → Z t = true → ∃ k : Nat, M t = k ∧ MostOf (fun s => Z s = true) t k := fun t ht zt => hM t (fun j hj => sx j (ht j hj)) zt
        obtain ⟨k', e1, pk⟩ := parts_without A f (left ^^^ p) k lt zr hM' hk s e
        obtain ⟨_, ss, _⟩ := (parts_ok (n := n) A f (left ^^^ p) k lt zr hM' hk).2 s e
        refine ⟨k, ek, ?_⟩
        have dx : Dis p ((left ^^^ p) ^^^ s) := fun j ⟨a, b⟩ => d j ⟨a, (xor_left ss).2.2 j b⟩
        have q := PartN.cons p0 zp dx pk
        have e2 : p ||| ((left ^^^ p) ^^^ s) = left ^^^ s := bits_ext fun j => by
          rw [Nat.testBit_or, Nat.testBit_xor, Nat.testBit_xor, Nat.testBit_xor]
          have h1 := ps j
          have h2 := ss j
          have h3 := d j
          rw [Nat.testBit_xor] at h2 h3
          cases a1 : p.testBit j <;> cases a2 : s.testBit j <;> cases a3 : left.testBit j <;> simp [a1, a2, a3] at h1 h2 h3 ⊢
        rw [e2, ← e1] at q
        exact q
/-- No part can be divided. -/
theorem part_whole {Z : Nat → Bool} (A : Adds fun s => Z s = true) {left s t m k : Nat} (hm : MostOf (fun s => Z s = true) left m) (ss : Sub s left) (zs : Z s = true) (e : m = k + 1) (p : PartN (fun s => Z s = true) (left ^^^ s) k) (ts : Sub t s) (t0 : t ≠ 0) (zt : Z t = true) : t = s := by
  obtain ⟨e1, d1, s1⟩ := xor_left ts
  by_cases c : s ^^^ t = 0
  · rw [c, Nat.or_zero] at e1; exact e1
  · exfalso
    have zx : Z (s ^^^ t) = true := A.rest d1 (by rw [e1]; exact zs) zt
    obtain ⟨e2, d2, _⟩ := xor_left ss
    have q := (PartN.cons t0 zt d1 (PartN.one (Z := fun s => Z s = true) c zx)).union p (by rw [e1]; exact d2)
    rw [e1, e2] at q
    have := hm.2 left _ (fun _ h => h) q
    omega
/-- The numbers of a part. -/
def partL : List Int → Nat → List Int
  | [], _ => []
  | x :: r, s => if s % 2 = 1 then x :: partL r (s / 2) else partL r (s / 2)
theorem partL_cons (x : Int) (r : List Int) (s : Nat) : partL (x :: r) s = if s % 2 = 1 then x :: partL r (s / 2) else partL r (s / 2) := rfl
theorem partL_len : ∀ (l : List Int) (s : Nat), (partL l s).length = sizN l.length s
  | [], _ => rfl
  | x :: r, s => by
    rw [partL_cons, List.length_cons, sizN_succ, ← partL_len r (s / 2)]
    rcases Nat.mod_two_eq_zero_or_one s with e | e
    · rw [if_neg (by omega)]; omega
    · rw [if_pos e, List.length_cons]; omega
theorem partL_map : ∀ (l : List Int) (k s : Nat) (g : Int → Int), (∀ j, j < l.length → g ((k + j : Nat) : Int) = (l[j]?).getD 0) → (idxN l.length k s).map g = partL l s
  | [], _, _, _, _ => rfl
  | x :: r, k, s, g, h => by
    have ih := partL_map r (k + 1) (s / 2) g (fun j hj => by
      have := h (j + 1) (by simpa using hj)
      rw [show k + (j + 1) = k + 1 + j by omega, List.getElem?_cons_succ] at this
      exact this)
    rw [List.length_cons, idxN_succ, partL_cons]
    have h0 := h 0 (by simp)
    simp only [Nat.add_zero, List.getElem?_cons_zero, Option.getD_some] at h0
    split
    · rw [List.map_cons, ih, h0]
    · exact ih
/-- A subset of a part is a subset of the whole. -/
theorem part_sub : ∀ (l : List Int) (s t : Nat), t < 2 ^ (partL l s).length → ∃ u, Sub u s ∧ sumN (partL l s) t = sumN l u ∧ sizN l.length u = sizN (partL l s).length t ∧ (u = 0 → t = 0)
  | [], s, t, h => ⟨0, fun j hj => by simp at hj, rfl, rfl, fun _ => by simp [partL] at h; omega⟩
  | x :: r, s, t, h => by
    rw [partL_cons] at h ⊢
    rcases Nat.mod_two_eq_zero_or_one s with e | e
    · rw [if_neg (by omega)] at h ⊢
      obtain ⟨u, u1, u2, u3, u4⟩ := part_sub r (s / 2) t h
      refine ⟨2 * u, fun j hj => ?_, ?_, ?_, fun q => u4 (by omega)⟩
      · cases j with
        | zero => rw [Nat.testBit_zero] at hj; have := of_decide_eq_true hj; omega
        | succ j =>
          rw [Nat.testBit_succ, show 2 * u / 2 = u by omega] at hj
          rw [Nat.testBit_succ]; exact u1 j hj
      · rw [sumN_cons, if_neg (by omega), show 2 * u / 2 = u by omega]; exact u2
      · rw [List.length_cons, sizN_succ, show 2 * u / 2 = u by omega, u3]; omega
    · rw [if_pos e] at h ⊢
      rw [List.length_cons, Nat.pow_succ] at h
      obtain ⟨u, u1, u2, u3, u4⟩ := part_sub r (s / 2) (t / 2) (by omega)
      refine ⟨2 * u + t % 2, fun j hj => ?_, ?_, ?_, fun q => ?_⟩
      · cases j with
        | zero => rw [Nat.testBit_zero]; exact decide_eq_true e
        | succ j =>
          rw [Nat.testBit_succ, show (2 * u + t % 2) / 2 = u by omega] at hj
          rw [Nat.testBit_succ]; exact u1 j hj
      · rw [sumN_cons, sumN_cons, show (2 * u + t % 2) / 2 = u by omega, u2, show (2 * u + t % 2) % 2 = t % 2 by omega]
      · rw [List.length_cons, List.length_cons, sizN_succ, sizN_succ, show (2 * u + t % 2) / 2 = u by omega, u3, show (2 * u + t % 2) % 2 = t % 2 by omega]
      · have := u4 (by omega)
        omega
end Go.Proofs.YtfiefmhnonddhaaDoor
