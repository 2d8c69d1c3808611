/-
  PLAIN: the picking of a part, one subset after the other; lists that lie in memory beside a row of lists.
-/
import Derived.Test.YtfiefmhnonddhaaDoorCompare
namespace Go.Proofs.YtfiefmhnonddhaaDoor
open Go.RowKit

theorem subsD_zero (left f : Nat) : subsD left f 0 = [] := by cases f <;> rfl
theorem fold_next {left f s p n : Nat} {cond : Nat → Bool} (hs : s ≠ 0) (hf : s ≤ f) : ∃ f', (s - 1) &&& left ≤ f' ∧ (subsD left f s).foldl (pickStep n cond) p = (subsD left f' ((s - 1) &&& left)).foldl (pickStep n cond) (pickStep n cond p s) := by
  obtain ⟨f', rfl⟩ : ∃ g, f = g + 1 := ⟨f - 1, by omega⟩
  refine ⟨f', by have := next_lt (left := left) hs; omega, ?_⟩
  rw [subsD, if_neg hs, List.foldl_cons]
theorem pick_no {n p s : Nat} {cond : Nat → Bool} (h : cond s = false) : pickStep n cond p s = p := by unfold pickStep; rw [if_neg (by rw [h]; simp)]
theorem pick_first {n s : Nat} {cond : Nat → Bool} (h : cond s = true) : pickStep n cond 0 s = s := by unfold pickStep; rw [if_pos ⟨h, .inl rfl⟩]
theorem pick_yes {n p s : Nat} {cond : Nat → Bool} (h : cond s = true) (h2 : earlB (idxN n 0 s) (idxN n 0 p) = true) : pickStep n cond p s = s := by unfold pickStep; rw [if_pos ⟨h, .inr h2⟩]
theorem pick_late {n p s : Nat} {cond : Nat → Bool} (h0 : p ≠ 0) (h2 : earlB (idxN n 0 s) (idxN n 0 p) = false) : pickStep n cond p s = p := by unfold pickStep; rw [if_neg (by rw [h2]; simp [h0])]
theorem parts_next {n f left : Nat} {Z : Nat → Bool} {M : Nat → Int} (h0 : left ≠ 0) (hf : left ≤ f) : ∃ f', f = f' + 1 ∧ partsTo n Z M f left = pick n left (condP Z M (bitLow left) left) :: partsTo n Z M f' (left ^^^ pick n left (condP Z M (bitLow left) left)) := by
  obtain ⟨f', rfl⟩ : ∃ g, f = g + 1 := ⟨f - 1, by omega⟩
  exact ⟨f', rfl, by rw [partsTo, if_neg h0]⟩
theorem parts_zero (n f : Nat) (Z : Nat → Bool) (M : Nat → Int) : partsTo n Z M f 0 = [] := by cases f <;> rfl
theorem clear_done {n left p c : Nat} (hl : left < 2 ^ n) (hs : Sub p left) (h : ∀ j, c.testBit j = (left.testBit j && !decide ((j : Int) ∈ idxN n 0 p))) : c = left ^^^ p := by
  refine Nat.eq_of_testBit_eq fun j => ?_
  rw [h j, Nat.testBit_xor]
  have hm : decide ((j : Int) ∈ idxN n 0 p) = (decide (j < n) && p.testBit j) := by
    rw [Bool.eq_iff_iff, decide_eq_true_eq, Bool.and_eq_true, decide_eq_true_eq, idx_mem]
    constructor
    · rintro ⟨i, hi, e, b⟩
      obtain rfl : i = j := by omega
      exact ⟨hi, b⟩
    · rintro ⟨hi, b⟩
      exact ⟨j, hi, by simp, b⟩
  rw [hm]
  have := hs j
  cases h1 : left.testBit j <;> cases h2 : p.testBit j <;> simp [h1, h2] at this ⊢
  exact bit_lt hl h1
theorem clear_step {left c d kk : Nat} {ks : List Int} (h : ∀ j, c.testBit j = (left.testBit j && !decide ((j : Int) ∈ ks))) (hd : ∀ j, d.testBit j = (c.testBit j && !decide (j = kk))) : ∀ j, d.testBit j = (left.testBit j && !decide ((j : Int) ∈ ks ++ [(kk : Int)])) := fun j => by
  rw [hd j, h j]
  have : decide ((j : Int) ∈ ks ++ [(kk : Int)]) = (decide ((j : Int) ∈ ks) || decide (j = kk)) := by
    rw [Bool.eq_iff_iff, decide_eq_true_eq, Bool.or_eq_true, decide_eq_true_eq, decide_eq_true_eq, List.mem_append, List.mem_singleton]
    constructor
    · rintro (h | h)
      · exact .inl h
      · exact .inr (by omega)
    · rintro (h | h)
      · exact .inl h
      · exact .inr (by omega)
  rw [this]
  cases left.testBit j <;> cases decide ((j : Int) ∈ ks) <;> cases decide (j = kk) <;> rfl
theorem xor_lt_of {s left : Nat} (h0 : s ≠ 0) (h : Sub s left) : left ^^^ s < left := by
  rw [sub_xor h]
  have := sub_le h
  omega
theorem idx_pos {n s : Nat} (h : s < 2 ^ n) (h0 : s ≠ 0) : 0 < (idxN n 0 s).length := by
  obtain ⟨j, hj⟩ := bit_some h0
  exact List.length_pos_of_mem ((idx_mem n 0 s _).2 ⟨j, bit_lt h hj, rfl, hj⟩)

/-- The best subset so far, in memory. -/
def BestZ (w : World) (n p : Nat) (v : Value) : Prop := (p = 0 ∧ v = .slice none 0 0) ∨ (p ≠ 0 ∧ ∃ b c, v = .slice (some ⟨b, 0, none⟩) (idxN n 0 p).length c ∧ Nums w.heap.size w (some ⟨b, 0, none⟩) (idxN n 0 p))
theorem BestZ.grow {w w' : World} {n p : Nat} {v : Value} (h : BestZ w n p v) (hb : Below w.heap.size w w') : BestZ w' n p v := by
  rcases h with h | ⟨h0, b, c, e, hn⟩
  · exact .inl h
  · exact .inr ⟨h0, b, c, e, hn.grow hb⟩
/-- Lists that are not empty, each at the head of a block. -/
def EachZ (w : World) (P : List LstR) : Prop := ∀ i, i < P.length → 0 < (lg P i).xs.length ∧ (lg P i).xs.length ≤ 16 ∧ ∃ b, (lg P i).a = some ⟨b, 0, none⟩ ∧ Nums w.heap.size w (some ⟨b, 0, none⟩) (lg P i).xs
theorem EachZ.grow {w w' : World} {P : List LstR} (h : EachZ w P) (hb : Below w.heap.size w w') : EachZ w' P := fun i hi => by
  obtain ⟨h1, h2, b, e, hn⟩ := h i hi
  exact ⟨h1, h2, b, e, hn.grow hb⟩
theorem EachZ.each {w : World} {P : List LstR} (h : EachZ w P) : Each w.heap.size w P := fun i hi => by
  obtain ⟨h1, h2, b, e, hn⟩ := h i hi
  rw [e]
  exact ⟨hn, by omega⟩
theorem nums_grown {w w' : World} {base b : Nat} {L : List LstR} {v : Value} {xs : List Int} (h : Nums w.heap.size w (some ⟨b, 0, none⟩) xs) (hx : 0 < xs.length) (hr : w.ownsRow base 22 1 v L.length (lflat L)) (hg : w.grownBy w' v.ownBlock) (hv : v = .slice none 0 0 ∨ 0 < L.length) : Nums w'.heap.size w' (some ⟨b, 0, none⟩) xs := by
  intro _
  obtain ⟨b', o', e, hlt, hc⟩ := h hx
  simp only [Option.some.injEq, Addr.mk.injEq, and_true] at e
  obtain ⟨rfl, rfl⟩ := e
  have hne : v.ownBlock ≠ some b := by
    intro eb
    rcases hv with rfl | hl
    · simp [Value.ownBlock] at eb
    · have c1 := hr.cells eb 0
      have hz := lflat_at L 0 hl
      have c2 := c1 _ hz
      rw [Go.WideShapes.add_plain] at c2
      have c3 := hc 0 hx
      rw [c3] at c2
      cases c2
  refine ⟨b, 0, rfl, Nat.lt_of_lt_of_le hlt hg.size, fun i hi => ?_⟩
  rw [← hc i hi]
  exact World.cell?_of_block (hg.block b hlt (fun e => hne e.symm))
end Go.Proofs.YtfiefmhnonddhaaDoor
