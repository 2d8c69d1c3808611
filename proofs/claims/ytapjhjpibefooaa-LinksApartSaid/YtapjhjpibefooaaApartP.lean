/-
  PLAIN: clashes of pairs that are turned; which pairs have one. What the closures of LinksApart ask.
-/
import Derived.Test.YtapjhjpibefooaaClash
import Derived.Test.YtapjhjpibefooaaChainsC
namespace Go.Proofs.Ytapjhjpibefooaa
open Go.RowKit Go.Shelf

def swp (A : List (ByteArray × ByteArray)) : List (ByteArray × ByteArray) := A.map fun r => (r.2, r.1)
theorem swp_len (A : List (ByteArray × ByteArray)) : (swp A).length = A.length := by simp [swp]
theorem swp_take (A : List (ByteArray × ByteArray)) (k : Nat) (h : k < A.length) : swp (A.take (k + 1)) = swp (A.take k) ++ [((pg A k).2, (pg A k).1)] := by
  unfold swp
  rw [List.take_add_one, pg_get h, List.map_append]
  rfl
theorem pg_swp (A : List (ByteArray × ByteArray)) (k : Nat) (h : k < A.length) : pg (swp A) k = ((pg A k).2, (pg A k).1) := by
  have e := pg_get h
  unfold pg swp at *
  rw [List.getElem?_map, e]
  rfl
theorem linked_swp (L : List CueR) (A : List (ByteArray × ByteArray)) : linkedB L (swp A) = linkedB L A := by
  have e : pair_any (swp A) (pairBad L) = pair_any A (pairBad L) := by
    rw [pair_any_eq, pair_any_eq]
    unfold swp
    rw [List.any_map]
    congr 1
    funext r
    have : decide (r.2 = r.1) = decide (r.1 = r.2) := decide_eq_decide.2 ⟨Eq.symm, Eq.symm⟩
    show (decide (r.2 = r.1) || decide (findI L r.2 < 0) || decide (findI L r.1 < 0)) = (decide (r.1 = r.2) || decide (findI L r.1 < 0) || decide (findI L r.2 < 0))
    rw [this, Bool.or_assoc, Bool.or_comm (decide (findI L r.2 < 0)), ← Bool.or_assoc]
  unfold linkedB
  rw [e, swp_len]
theorem hit_comm (S N : List Int) (a b : Nat) : hitB S N b a = hitB S N a b := by
  unfold hitB; rw [Bool.and_comm]
theorem clashTo_swp (L : List CueR) (A : List (ByteArray × ByteArray)) (S N : List Int) (k : Nat) (h : k ≤ A.length) : (clashTo L (swp A) S N k).length = (clashTo L A S N k).length := by
  induction k with
  | zero => rfl
  | succ k ih =>
    simp only [clashTo, clashAt]
    rw [List.length_append, List.length_append, ih (by omega), pg_swp A k (by omega), hit_comm]
    split <;> rfl
/-- Which pairs are among the findings. -/
theorem clash_kind (L : List CueR) (A : List (ByteArray × ByteArray)) (S N : List Int) (i k : Nat) : (clashTo L A S N k).any (fun r => decide (r.1 = (i : Int))) = (decide (i < k) && hitB S N (findI L (pg A i).1).toNat (findI L (pg A i).2).toNat) := by
  induction k with
  | zero => simp [clashTo]
  | succ k ih =>
    simp only [clashTo, clashAt]
    rw [List.any_append, ih]
    by_cases e : i = k
    · subst e
      rw [decide_eq_false (Nat.lt_irrefl _), decide_eq_true (Nat.lt_succ_self _)]
      cases hitB S N (findI L (pg A i).1).toNat (findI L (pg A i).2).toNat <;> simp
    · have h2 : (if hitB S N (findI L (pg A k).1).toNat (findI L (pg A k).2).toNat then [((k : Int), (cg L (later S (findI L (pg A k).1).toNat (findI L (pg A k).2).toNat)).name)] else []).any (fun r => decide (r.1 = (i : Int))) = false := by
        split
        · simp; omega
        · rfl
      rw [h2, Bool.or_false]
      congr 1
      exact decide_eq_decide.2 (by omega)
theorem clash_cases (L : List CueR) (A : List (ByteArray × ByteArray)) (S N : List Int) :
    (∃ e, e ≠ 0 ∧ clashP L A S N = ([], e) ∧ clashP L (swp A) S N = ([], e)) ∨
    (linkedB L A = true ∧ S.length = L.length ∧ N.length = L.length ∧ S.any wrongM = false ∧ N.any wrongM = false ∧ clashP L A S N = (clashTo L A S N A.length, 0) ∧ clashP L (swp A) S N = (clashTo L (swp A) S N A.length, 0)) := by
  unfold clashP
  rw [linked_swp, swp_len]
  cases hl : linkedB L A with
  | false => exact .inl ⟨1, by decide, by simp, by simp⟩
  | true =>
    by_cases h1 : S.length = L.length ∧ N.length = L.length
    · cases h2 : S.any wrongM with
      | true => exact .inl ⟨2, by decide, by simp [h1], by simp [h1]⟩
      | false =>
        cases h3 : N.any wrongM with
        | true => exact .inl ⟨2, by decide, by simp [h1], by simp [h1]⟩
        | false => exact .inr ⟨rfl, h1.1, h1.2, rfl, rfl, by simp [h1], by simp [h1]⟩
    · exact .inl ⟨3, by decide, by simp [h1], by simp [h1]⟩
theorem ent_kind2 (args : Array Value) (w : World) : (callFunc 27 args).run Try.prog w = .ok (.enter 27 args) w := enters_of Try.func27 (by kernel_rfl) rfl args w
set_option maxHeartbeats 1000000 in
theorem asks_kind2 (bx : Nat) (i : Int) (n₀ : Nat) (w : World) (hbx : bx < n₀) (hc : w.cell? ⟨bx, 0, none⟩ = some (.int .i64 i)) :
    AsksF 27 #[.pointer (some ⟨bx, 0, none⟩)] n₀ w (fun r => decide (r.1 = i)) := by
  intro W r hB
  have hc' := (hB.cell (p := ⟨bx, 0, none⟩) hbx).trans hc
  have hc2 : ∀ o, (W.alloc o).cell? ⟨bx, 0, none⟩ = some (.int .i64 i) := fun o => ((Below.refl W.heap.size W).alloc (Nat.le_refl _) o |>.cell (p := ⟨bx, 0, none⟩) (World.block_lt_of_cell? W _ hc')).trans hc'
  have H : Hid ((r.1 == i) = decide (r.1 = i)) := Lib.hid (by rw [Bool.eq_iff_iff]; simp)
  show Calls _ _ #[finV r, .pointer (some ⟨bx, 0, none⟩)] _ _
  unfold finV
  go_enter Try.func27, Try.ntmps27
  go_wp2
  go_ret
  exact ⟨ret_bool H.out, (Below.refl _ _).alloc (Nat.le_refl _) _⟩
theorem ent_kind3 (args : Array Value) (w : World) : (callFunc 28 args).run Try.prog w = .ok (.enter 28 args) w := enters_of Try.func28 (by kernel_rfl) rfl args w
set_option maxHeartbeats 1000000 in
theorem asks_kind3 (bx : Nat) (i : Int) (n₀ : Nat) (w : World) (hbx : bx < n₀) (hc : w.cell? ⟨bx, 0, none⟩ = some (.int .i64 i)) :
    AsksF 28 #[.pointer (some ⟨bx, 0, none⟩)] n₀ w (fun r => decide (r.1 = i)) := by
  intro W r hB
  have hc' := (hB.cell (p := ⟨bx, 0, none⟩) hbx).trans hc
  have hc2 : ∀ o, (W.alloc o).cell? ⟨bx, 0, none⟩ = some (.int .i64 i) := fun o => ((Below.refl W.heap.size W).alloc (Nat.le_refl _) o |>.cell (p := ⟨bx, 0, none⟩) (World.block_lt_of_cell? W _ hc')).trans hc'
  have H : Hid ((r.1 == i) = decide (r.1 = i)) := Lib.hid (by rw [Bool.eq_iff_iff]; simp)
  show Calls _ _ #[finV r, .pointer (some ⟨bx, 0, none⟩)] _ _
  unfold finV
  go_enter Try.func28, Try.ntmps28
  go_wp2
  go_ret
  exact ⟨ret_bool H.out, (Below.refl _ _).alloc (Nat.le_refl _) _⟩
theorem clash_n (ca pa sa na : Option Addr) (L : List CueR) (A : List (ByteArray × ByteArray)) (S N : List Int) (an cc pc sc nc : Nat) (w : World) (han : an = A.length) (hlen : L.length ≤ 1000) (hlS : S.length ≤ 1000) (hlN : N.length ≤ 1000) (hI : Cues w.heap.size w ca L) (hP : Pairs w.heap.size w pa A) (hS : Nums w.heap.size w sa S) (hN : Nums w.heap.size w na N) :
    Calls Try.prog 20 #[.agg #[.slice ca L.length cc, .slice pa an pc], .slice sa S.length sc, .slice na N.length nc] w fun e w' => Hid (∃ v, e = .returned (.tuple #[v, .int .i64 (clashP L A S N).2]) ∧ w'.ownsRow w.heap.size 50 2 v (clashP L A S N).1.length (flat (clashP L A S N).1) ∧ Below w.heap.size w w') := by
  subst han
  exact clash_any ca pa sa na L A S N cc pc sc nc w hlen hlS hlN hI hP hS hN
end Go.Proofs.Ytapjhjpibefooaa
