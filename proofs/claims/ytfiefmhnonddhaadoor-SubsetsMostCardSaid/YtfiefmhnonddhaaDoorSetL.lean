/-
  THE WALK of set.list.
-/
import Derived.Test.YtfiefmhnonddhaaDoorPop
namespace Go.Proofs.YtfiefmhnonddhaaDoor
open Go.RowKit Go.Shelf

set_option maxHeartbeats 4000000 in
theorem list_any (n s : Nat) (hn : n ≤ 16) (hs : s < 2 ^ n) (w : World) (hT : Tabs w) :
    Calls Tryd.prog 45 #[.int .u32 s] w fun e w' => Hid (∃ v, e = .returned v ∧ w'.ownsRow w.heap.size 3 1 v (idxN n 0 s).length (nflat (idxN n 0 s)) ∧ Below w.heap.size w w') := by
  have h16 : 2 ^ n ≤ 65536 := Nat.pow_le_pow_right (by decide) hn
  have HT := Lib.hid hT
  have HN := Lib.hid hs
  clear hT
  go_enter Tryd.func45, Tryd.ntmps45
  go_wp2
  go_loopw [0, 3] (fun sv ov wr => ∃ x : Nat, ∃ out : List Int, sv = .int .u32 x ∧ Hid (x < 2 ^ n) ∧ Hid (out ++ idxN n 0 x = idxN n 0 s) ∧ Hid (∃ a c, ov = .slice a out.length c) ∧ Hid (wr.ownsRow w.heap.size 3 1 ov out.length (nflat out)) ∧ Below w.heap.size w wr ∧ out.length ≤ 16) (fun sv _ _ => (intOf sv).toNat)
  case atStart => exact ⟨s, [], rfl, HN, Lib.hid rfl, Lib.hid ⟨_, _, rfl⟩, Lib.hid (World.ownsRow_nil _ _ _ _), Below.refl _ _, by simp⟩
  case round =>
    clear HN
    obtain ⟨x, out, rfl, HX, HO, HV, HR, hB, hol⟩ := hrel
    obtain ⟨a', c', rfl⟩ := HV.out
    have hx := HX.out
    have hx32 : x < 65536 := by omega
    clear hs
    by_cases h0 : x = 0
    · have g0 : ((x : Int) != 0) = false := bne_eq_false_iff_eq.2 (by omega)
      have g1 : ((x : Int) == 0) = true := beq_iff_eq.2 (by omega)
      have HE : Hid (out = idxN n 0 s) := Lib.hid (by rw [← HO.out, h0, idx_zero, List.append_nil])
      clear h0
      go_wp2_with fail
      go_ret
      rw [← HE.out]
      exact Lib.hid ⟨_, rfl, HR.out, hB⟩
    · have g0 : ((x : Int) != 0) = true := bne_iff_ne.2 (by omega)
      have g1 : ((x : Int) == 0) = false := beq_eq_false_iff_ne.2 (by omega)
      have g3 : bits .and .u32 (x : Int) ((x : Int) - 1) = ((lowN x : Nat) : Int) := by
        rw [show (x : Int) - 1 = ((x - 1 : Nat) : Int) by omega]
        exact u32_and x (x - 1) (by omega) (by omega)
      have hll := low_lt h0
      have HC := Lib.hid (tz32_any x h0 (by omega) wr (HT.out.grow hB))
      have hst := idx_low n 0 x h0 hx 32 (by omega)
      rw [Nat.zero_add] at hst
      have HS := Lib.hid hst
      obtain ⟨k, hk⟩ : ∃ k : Nat, Lib.ctzFrom 32 x = k := ⟨_, rfl⟩
      rw [hk] at HC HS
      have hsz : out.length + 1 ≤ 16 := by
        have := congrArg List.length HO.out
        rw [List.length_append, HS.out, List.length_cons, idx_len n 0 s] at this
        have := siz_le n s
        omega
      have hwr := hB.size
      clear h0 hst hk
      go_wp2_with (first
        | (go_at_call 60; (with_reducible refine HC.out.mono ?_); rintro e w1 ⟨rfl, rfl⟩)
        | (at_builtin; refine num_append rfl _ _ rfl w.heap.size _ out rfl (HR.out.alloc _) _ (k : Int) rfl (by exact cell_of_row _ _ 0 #[_] _ (0, 0) (heap_alloc_new _ _)) (by omega) (by first | omega | (simp; omega)) ?_; intro v3 w3 hown3 hg3))
      go_roundw
      case rel =>
        refine ⟨lowN x, out ++ [(k : Int)], rfl, Lib.hid (by have := HX.out; omega), Lib.hid ?_, Lib.hid ?_, Lib.hid hown3, ?_, by simp; omega⟩
        · rw [← HO.out, HS.out, List.append_assoc]; rfl
        · obtain ⟨a3, c3, e, _⟩ := num_of_row hown3
          exact ⟨a3, c3, e⟩
        · exact grown_own (HR.out.alloc _) hg3 (hB.alloc hwr _) (by simp; omega) (Nat.le_refl _)
      case measure =>
        simp [intOf]
        omega
end Go.Proofs.YtfiefmhnonddhaaDoor
