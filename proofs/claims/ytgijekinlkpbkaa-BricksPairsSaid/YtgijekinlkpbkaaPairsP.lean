/-
  PLAIN: sums come in pairs; one brick more (layer 26).
-/
import Derived.Test.YtgijekinlkpbkaaFacts
namespace Go.Proofs.Ytgijekinlkpbkaa
open Go.RowKit Go.Shelf
theorem comp_sum : ∀ {L : List BrickR} {c : List Int}, IsC L c → ∃ d, IsC L d ∧ sumC L d = restC L - sumC L c
  | [], [], _ => ⟨[], trivial, rfl⟩
  | b :: t, n :: r, h => by
    obtain ⟨d, hd, e⟩ := comp_sum h.2
    have h1 := h.1
    refine ⟨(b.count - n) :: d, ⟨⟨by omega, by omega⟩, hd⟩, ?_⟩
    show b.weight * (b.count - n) + sumC t d = (b.weight * b.count + restC t) - (b.weight * n + sumC t r)
    rw [e, Int.mul_sub]
    omega
  | [], _ :: _, h => h.elim
  | _ :: _, [], h => h.elim
theorem isSum_comp {L : List BrickR} {z : Int} (h : IsSum L z) : IsSum L (restC L - z) := by
  obtain ⟨c, hc, e⟩ := h
  obtain ⟨d, hd, e2⟩ := comp_sum hc
  exact ⟨d, hd, by rw [e2, e]⟩
theorem isSum_zero {L : List BrickR} (ok : BrickOK L) : IsSum L 0 := by
  refine ⟨_, isC_zero ok, ?_⟩
  clear ok
  induction L with
  | nil => rfl
  | cons b t ih =>
    show b.weight * 0 + sumC t (List.replicate t.length 0) = 0
    rw [ih]; omega
theorem isSum_all {L : List BrickR} (ok : BrickOK L) : IsSum L (restC L) := by
  have := isSum_comp (isSum_zero ok)
  rwa [Int.sub_zero] at this
theorem sums_rev (L : List BrickR) : ((sumsP L).map fun z => restC L - z).reverse = sumsP L := by
  refine incr_ext ?_ (sumsP_incr L) fun z => ?_
  · rw [List.pairwise_reverse, List.pairwise_map]
    exact (sumsP_incr L).imp fun h => by omega
  · rw [List.mem_reverse, List.mem_map, sumsP_mem]
    constructor
    · rintro ⟨y, hy, rfl⟩
      exact isSum_comp (sumsP_mem.1 hy)
    · intro h
      exact ⟨restC L - z, sumsP_mem.2 (isSum_comp h), by omega⟩
theorem sums_pair {L : List BrickR} {i : Nat} (h : i < (sumsP L).length) : ig (sumsP L) ((sumsP L).length - 1 - i) = restC L - ig (sumsP L) i := by
  have e := sums_rev L
  have h1 : ((sumsP L).map fun z => restC L - z).reverse[(sumsP L).length - 1 - i]? = some (restC L - ig (sumsP L) i) := by
    rw [List.getElem?_reverse (by simp; omega), List.length_map, show (sumsP L).length - 1 - ((sumsP L).length - 1 - i) = i by omega, List.getElem?_map, ig_get h]
    rfl
  rw [e] at h1
  unfold ig
  rw [h1]
  rfl
theorem sums_lt {L : List BrickR} {i j : Nat} (h : i < j) (hj : j < (sumsP L).length) : ig (sumsP L) i < ig (sumsP L) j := by
  rw [ig_eq _ _ (by omega), ig_eq _ _ hj]
  exact List.pairwise_iff_getElem.1 (sumsP_incr L) i j _ _ h
theorem sums_first {L : List BrickR} (ok : BrickOK L) : ig (sumsP L) 0 = 0 := by
  obtain ⟨i, hi, e⟩ := List.getElem_of_mem (sumsP_mem.2 (isSum_zero ok))
  have h0 : 0 < (sumsP L).length := by omega
  have h1 : 0 ≤ ig (sumsP L) 0 := by
    rw [ig_eq _ _ h0]
    obtain ⟨c, hc, e⟩ := sumsP_mem.1 (List.getElem_mem h0)
    rw [← e]
    exact (isC_bd ok hc).1
  rcases Nat.eq_zero_or_pos i with h | h
  · subst h; rw [ig_eq _ _ h0]; exact e
  · have := sums_lt h hi
    rw [ig_eq _ i hi, e] at this
    omega
theorem sums_last {L : List BrickR} (ok : BrickOK L) (h0 : 0 < (sumsP L).length) : ig (sumsP L) ((sumsP L).length - 1) = restC L := by
  have := sums_pair h0
  rw [Nat.sub_zero] at this
  rw [this, sums_first ok, Int.sub_zero]
/-- One brick more of kind k. -/
def moreL : List BrickR → Nat → List BrickR
  | [], _ => []
  | b :: t, 0 => ⟨b.name, b.weight, b.count + 1⟩ :: t
  | b :: t, k + 1 => b :: moreL t k
theorem moreL_len : ∀ (L : List BrickR) (k : Nat), (moreL L k).length = L.length
  | [], _ => rfl
  | _ :: _, 0 => rfl
  | b :: t, k + 1 => by simp only [moreL, List.length_cons, moreL_len t k]
theorem moreL_isC : ∀ {L : List BrickR} {c : List Int} (k : Nat), IsC L c → IsC (moreL L k) c ∧ sumC (moreL L k) c = sumC L c
  | [], [], _, _ => ⟨trivial, rfl⟩
  | b :: t, n :: r, 0, h => ⟨⟨⟨h.1.1, by show n ≤ b.count + 1; have := h.1.2; omega⟩, h.2⟩, rfl⟩
  | b :: t, n :: r, k + 1, h => by
    obtain ⟨h1, h2⟩ := moreL_isC k h.2
    refine ⟨⟨h.1, h1⟩, ?_⟩
    show b.weight * n + sumC (moreL t k) r = b.weight * n + sumC t r
    rw [h2]
  | [], _ :: _, _, h => h.elim
  | _ :: _, [], _, h => h.elim
theorem moreL_rest : ∀ {L : List BrickR} {k : Nat}, k < L.length → restC (moreL L k) = restC L + (bg L k).weight
  | [], _, h => absurd h (Nat.not_lt_zero _)
  | b :: t, 0, _ => by
    show b.weight * (b.count + 1) + restC t = b.weight * b.count + restC t + b.weight
    rw [Int.mul_add]
    omega
  | b :: t, k + 1, h => by
    have := moreL_rest (L := t) (k := k) (by simpa using h)
    show b.weight * b.count + restC (moreL t k) = b.weight * b.count + restC t + (bg t k).weight
    rw [this]
    omega
theorem moreL_flat : ∀ {L : List BrickR} {k : Nat}, k < L.length → (kflat L).set (k * 3 + 2) (.int .i64 ((bg L k).count + 1)) = kflat (moreL L k)
  | [], _, h => absurd h (Nat.not_lt_zero _)
  | b :: t, 0, _ => rfl
  | b :: t, k + 1, h => by
    have := moreL_flat (L := t) (k := k) (by simpa using h)
    have e : kflat (b :: t) = .string b.name :: .int .i64 b.weight :: .int .i64 b.count :: kflat t := rfl
    have e2 : kflat (moreL (b :: t) (k + 1)) = .string b.name :: .int .i64 b.weight :: .int .i64 b.count :: kflat (moreL t k) := rfl
    rw [e, e2, ← this, show (k + 1) * 3 + 2 = k * 3 + 2 + 1 + 1 + 1 by omega, List.set_cons_succ, List.set_cons_succ, List.set_cons_succ]
    rfl
theorem moreL_sub {L : List BrickR} (k : Nat) : num_any (sumsP L) (fun n => !num_any (sumsP (moreL L k)) (fun y => decide (y = n))) = false := by
  rw [num_any_eq, Bool.eq_false_iff]
  intro h1
  rw [List.any_eq_true] at h1
  obtain ⟨x, hx, h2⟩ := h1
  obtain ⟨c, hc, e⟩ := sumsP_mem.1 hx
  obtain ⟨h3, h4⟩ := moreL_isC k hc
  have : num_any (sumsP (moreL L k)) (fun y => decide (y = x)) = true := by
    rw [num_any_mem, decide_eq_true_eq, sumsP_mem]
    exact ⟨c, h3, by rw [h4, e]⟩
  simp only [this] at h2
  cases h2
theorem moreL_all {L : List BrickR} {k : Nat} (h : k < L.length) (ok : BrickOK (moreL L k)) (x : Int) (hx : x = restC L + (bg L k).weight) : num_any (sumsP (moreL L k)) (fun y => decide (y = x)) = true := by
  rw [num_any_mem, decide_eq_true_eq, sumsP_mem, hx, ← moreL_rest h]
  exact isSum_all ok
end Go.Proofs.Ytgijekinlkpbkaa
