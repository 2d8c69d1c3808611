/-
  THE WALK of the laws' awake: the chapter's example holds.
-/
import Derived.Test.YtfiefmhnonddhaaDoorEx
import Derived.Test.YtfiefmhnonddhaaDoorSame
namespace Go.Proofs.YtfiefmhnonddhaaDoor
open Go.RowKit Go.Shelf

theorem nums_new (w : World) (n : Nat) (F : List Int) (cs : Array Value) (hn : F.length = n) (hc : ∀ i, i < n → cs[i]? = some (.int .i64 (ig F i))) (t : TypeId) : Nums (w.alloc (.cells cs t)).heap.size (w.alloc (.cells cs t)) (some ⟨w.heap.size, 0, none⟩) F := fun _ => by
  refine ⟨w.heap.size, 0, rfl, by simp, fun i hi => ?_⟩
  rw [Nat.zero_add, cell_of_row _ w.heap.size i cs t (0, 0) (heap_alloc_new _ _)]
  exact hc i (by omega)
def exQ (a b : Nat) : List LstR := [⟨some ⟨a, 0, none⟩, [0, 1, 2], 3⟩, ⟨some ⟨b, 0, none⟩, [3, 4], 2⟩]
theorem sums_ex (a : Option Addr) (w : World) (h : Nums w.heap.size w a [3, -1]) (hT : Tabs w) :
    Calls Tryd.prog 20 #[.slice a 2 2] w fun e w' => Hid (∃ v c, e = .returned (.tuple #[.slice v 4 c, .int .i64 0]) ∧ Nums w'.heap.size w' v [-1, 0, 2, 3]) ∧ Below w.heap.size w w' := by
  refine (Sums_any a [3, -1] 2 w (by decide) h hT).mono fun e w' ⟨h, hb⟩ => ⟨?_, hb⟩
  obtain ⟨v, c, he, h1⟩ := h.out
  rw [ex_sums] at he h1
  rw [ex_given.1] at he
  exact Lib.hid ⟨v, c, he, h1⟩
theorem zero_ex (a : Option Addr) (w : World) (h : Nums w.heap.size w a [5, -2, -3, 4, -4]) (hT : Tabs w) :
    Calls Tryd.prog 12 #[.slice a 5 5] w fun e w' => Hid (∃ v c, e = .returned (.tuple #[.slice v 2 c, .int .i64 0]) ∧ Nums w'.heap.size w' v [3, 4]) ∧ Below w.heap.size w w' := by
  refine (Zero_any a [5, -2, -3, 4, -4] 5 w (by decide) h hT).mono fun e w' ⟨h, hb⟩ => ⟨?_, hb⟩
  obtain ⟨v, c, he, h1⟩ := h.out
  rw [ex_zero.1] at he h1
  rw [ex_zero.2] at he
  exact Lib.hid ⟨v, c, he, h1⟩
theorem parts_ex (a : Option Addr) (w : World) (h : Nums w.heap.size w a [5, -2, -3, 4, -4]) (hT : Tabs w) :
    Calls Tryd.prog 21 #[.slice a 5 5] w fun e w' => Hid (∃ v c P, e = .returned (.tuple #[.slice v 2 c, .int .i64 0]) ∧ P.length = 2 ∧ xsOf P = [[0, 1, 2], [3, 4]] ∧ Lsts w'.heap.size w' v P ∧ Each w'.heap.size w' P) ∧ Below w.heap.size w w' := by
  refine (Parts_any a [5, -2, -3, 4, -4] 5 w (by decide) h hT).mono fun e w' ⟨h, hb⟩ => ⟨?_, hb⟩
  obtain ⟨v, c, P, he, h1, h2, h3⟩ := h.out
  rw [ex_parts.1] at h1
  rw [ex_parts.2] at he
  have hl : P.length = 2 := by rw [← xsOf_len, h1]; rfl
  rw [hl] at he
  exact Lib.hid ⟨v, c, P, he, hl, h1, h2, h3⟩
theorem eq_ex (a1 a2 : Option Addr) (F : List Int) (c1 c2 n : Nat) (w : World) (hn : F.length = n) (hl : n ≤ 1100) (h1 : Nums w.heap.size w a1 F) (h2 : Nums w.heap.size w a2 F) :
    Calls Tryd.prog 15 #[.slice a1 n c1, .slice a2 n c2] w fun e w' => e = .returned (.bool true) ∧ Below w.heap.size w w' := by
  subst hn
  exact (num_equal a1 a2 F F c1 c2 w hl h1 h2 hl).mono fun e w' h => by rw [decide_eq_true rfl] at h; exact h
theorem same_ex (a1 a2 : Option Addr) (P Q : List LstR) (c1 c2 : Nat) (w : World) (hp : P.length = 2) (hq : Q.length = 2) (he : xsOf P = xsOf Q) (h1 : Lsts w.heap.size w a1 P) (h2 : Lsts w.heap.size w a2 Q) (h3 : Each w.heap.size w P) (h4 : Each w.heap.size w Q) :
    Calls Tryd.prog 22 #[.slice a1 2 c1, .slice a2 2 c2] w fun e w' => e = .returned (.bool true) ∧ Below w.heap.size w w' := by
  have := same_any a1 a2 P Q c1 c2 w (by omega) h1 h2 h3 h4
  rw [hp, hq, decide_eq_true he] at this
  exact this

def exW (w : World) : World := ((w.alloc (.cells #[.int .i64 0, .int .i64 1, .int .i64 2] 3)).alloc (.cells #[.int .i64 3, .int .i64 4] 3)).alloc (.cells #[.slice (some ⟨w.heap.size, 0, none⟩) 3 3, .slice (some ⟨w.heap.size + 1, 0, none⟩) 2 2] 22)
theorem exW_below (w : World) : Below w.heap.size w (exW w) := by
  unfold exW
  exact ((below_new w _).alloc (by simp) _).alloc (by simp; omega) _
theorem exW_lists (w : World) : Lsts (exW w).heap.size (exW w) (some ⟨w.heap.size + 1 + 1, 0, none⟩) (exQ w.heap.size (w.heap.size + 1)) ∧ Each (exW w).heap.size (exW w) (exQ w.heap.size (w.heap.size + 1)) := by
  have e1 : (w.alloc (.cells #[.int .i64 0, .int .i64 1, .int .i64 2] 3)).heap.size = w.heap.size + 1 := by simp
  have e2 : ((w.alloc (.cells #[.int .i64 0, .int .i64 1, .int .i64 2] 3)).alloc (.cells #[.int .i64 3, .int .i64 4] 3)).heap.size = w.heap.size + 1 + 1 := by simp
  have n1 : Nums (w.alloc (.cells #[.int .i64 0, .int .i64 1, .int .i64 2] 3)).heap.size (w.alloc (.cells #[.int .i64 0, .int .i64 1, .int .i64 2] 3)) (some ⟨w.heap.size, 0, none⟩) [0, 1, 2] := nums_new w 3 [0, 1, 2] _ rfl (by intro i hi; match i, hi with | 0, _ => rfl | 1, _ => rfl | 2, _ => rfl) _
  have n2 := nums_new (w.alloc (.cells #[.int .i64 0, .int .i64 1, .int .i64 2] 3)) 2 [3, 4] #[.int .i64 3, .int .i64 4] rfl (by intro i hi; match i, hi with | 0, _ => rfl | 1, _ => rfl) 3
  rw [e1] at n2
  have m1 := (n1.grow (below_new _ (.cells #[.int .i64 3, .int .i64 4] 3))).grow (below_new _ (.cells #[.slice (some ⟨w.heap.size, 0, none⟩) 3 3, .slice (some ⟨w.heap.size + 1, 0, none⟩) 2 2] 22))
  have hb := below_new ((w.alloc (.cells #[.int .i64 0, .int .i64 1, .int .i64 2] 3)).alloc (.cells #[.int .i64 3, .int .i64 4] 3)) (.cells #[.slice (some ⟨w.heap.size, 0, none⟩) 3 3, .slice (some ⟨w.heap.size + 1, 0, none⟩) 2 2] 22)
  have m2 : Nums (exW w).heap.size (exW w) (some ⟨w.heap.size + 1, 0, none⟩) [3, 4] := by
    have n3 : Nums ((w.alloc (.cells #[.int .i64 0, .int .i64 1, .int .i64 2] 3)).alloc (.cells #[.int .i64 3, .int .i64 4] 3)).heap.size ((w.alloc (.cells #[.int .i64 0, .int .i64 1, .int .i64 2] 3)).alloc (.cells #[.int .i64 3, .int .i64 4] 3)) (some ⟨w.heap.size + 1, 0, none⟩) [3, 4] := n2
    exact n3.grow hb
  refine ⟨fun _ => ⟨w.heap.size + 1 + 1, 0, rfl, by unfold exW; simp, fun i hi => ?_⟩, fun i hi => ?_⟩
  · have hc := cell_of_row (exW w) (w.heap.size + 1 + 1) i #[.slice (some ⟨w.heap.size, 0, none⟩) 3 3, .slice (some ⟨w.heap.size + 1, 0, none⟩) 2 2] 22 (0, 0) (by
      have := heap_alloc_new ((w.alloc (.cells #[.int .i64 0, .int .i64 1, .int .i64 2] 3)).alloc (.cells #[.int .i64 3, .int .i64 4] 3)) (.cells #[.slice (some ⟨w.heap.size, 0, none⟩) 3 3, .slice (some ⟨w.heap.size + 1, 0, none⟩) 2 2] 22)
      rw [e2] at this
      exact this)
    rw [Nat.zero_add, hc]
    match i, hi with
    | 0, _ => rfl
    | 1, _ => rfl
  · match i, hi with
    | 0, _ => exact ⟨m1, show (3 : Nat) ≤ 1000000 by decide⟩
    | 1, _ => exact ⟨m2, show (2 : Nat) ≤ 1000000 by decide⟩

set_option maxRecDepth 100000 in
set_option maxHeartbeats 8000000 in
theorem awake_any (w : World) (hT : Tabs w) : Calls Tryd.prog 9 #[] w fun e w' => e = .returned (.bool true) ∧ Below w.heap.size w w' := by
  have HN2 : Hid (∀ (w : World) (x y : Int), Nums (w.alloc (.cells #[.int .i64 x, .int .i64 y] 3)).heap.size (w.alloc (.cells #[.int .i64 x, .int .i64 y] 3)) (some ⟨w.heap.size, 0, none⟩) [x, y]) := Lib.hid fun w x y => nums_new w 2 [x, y] _ rfl (by intro i hi; match i, hi with | 0, _ => rfl | 1, _ => rfl) _
  have HN4 : Hid (∀ (w : World) (x y z u : Int), Nums (w.alloc (.cells #[.int .i64 x, .int .i64 y, .int .i64 z, .int .i64 u] 3)).heap.size (w.alloc (.cells #[.int .i64 x, .int .i64 y, .int .i64 z, .int .i64 u] 3)) (some ⟨w.heap.size, 0, none⟩) [x, y, z, u]) := Lib.hid fun w x y z u => nums_new w 4 [x, y, z, u] _ rfl (by intro i hi; match i, hi with | 0, _ => rfl | 1, _ => rfl | 2, _ => rfl | 3, _ => rfl) _
  have HN5 : Hid (∀ (w : World), Nums (w.alloc (.cells #[.int .i64 5, .int .i64 (-2), .int .i64 (-3), .int .i64 4, .int .i64 (-4)] 3)).heap.size (w.alloc (.cells #[.int .i64 5, .int .i64 (-2), .int .i64 (-3), .int .i64 4, .int .i64 (-4)] 3)) (some ⟨w.heap.size, 0, none⟩) [5, -2, -3, 4, -4]) := Lib.hid fun w => nums_new w 5 [5, -2, -3, 4, -4] _ rfl (by intro i hi; match i, hi with | 0, _ => rfl | 1, _ => rfl | 2, _ => rfl | 3, _ => rfl | 4, _ => rfl) _
  have HT := Lib.hid hT
  have HSA : Hid (∀ (w0 w : World) (P : List LstR) (pc : Nat) {pa : Option Addr}, Below w0.heap.size w0 w → P.length = 2 ∧ xsOf P = [[0, 1, 2], [3, 4]] ∧ Lsts w0.heap.size w0 pa P ∧ Each w0.heap.size w0 P → Calls Tryd.prog 22 #[.slice pa 2 pc, .slice (some ⟨w.heap.size + 1 + 1, 0, none⟩) 2 2] (((w.alloc (.cells #[.int .i64 0, .int .i64 1, .int .i64 2] 3)).alloc (.cells #[.int .i64 3, .int .i64 4] 3)).alloc (.cells #[.slice (some ⟨w.heap.size, 0, none⟩) 3 3, .slice (some ⟨w.heap.size + 1, 0, none⟩) 2 2] 22)) fun e w' => e = .returned (.bool true) ∧ Below w.heap.size w w') := Lib.hid fun w0 w P pc pa hb ⟨h1, h2, h3, h4⟩ => by
    have hb2 := hb.trans ((exW_below w).mono hb.size)
    exact (same_ex pa _ P (exQ w.heap.size (w.heap.size + 1)) pc 2 (exW w) h1 rfl (by rw [h2]; rfl) (h3.grow hb2) (exW_lists w).1 (h4.grow hb2) (exW_lists w).2).mono fun e w' ⟨he, hb3⟩ => ⟨he, (exW_below w).trans (hb3.mono (exW_below w).size)⟩
  clear hT
  go_enter Tryd.func9, Tryd.ntmps9
  go_upto_region 5 with (first
    | (go_at_call 20; (with_reducible refine (sums_ex _ _ (HN2.out _ 3 (-1)) (HT.out.grow (below_new _ _))).mono ?_); rintro e w1 ⟨hx, hb1⟩; obtain ⟨sa, sc, rfl, hS⟩ := hx.out; have HS1 := Lib.hid hS; have hB1 := mono_in _ hb1; have HT1 := Lib.hid (HT.out.grow hB1); clear hx hS hb1)
    | (go_at_call 12; (with_reducible refine (zero_ex _ _ (HN5.out _) (HT1.out.grow (below_new _ _))).mono ?_); rintro e w2 ⟨hx, hb2⟩; obtain ⟨za, zc, rfl, hS⟩ := hx.out; have HZ1 := Lib.hid hS; have HL := Lib.hid ((HN5.out w1).grow hb2); have hb3 := mono_in _ hb2; have HS2 := Lib.hid (HS1.out.grow hb3); have HT2 := Lib.hid (HT1.out.grow hb3); have hB2 := hB1.trans (hb3.mono hB1.size); clear hx hS hb2 hb3)
    | (go_at_call 21; (with_reducible refine (parts_ex _ _ HL.out HT2.out).mono ?_); rintro e w4 ⟨hx, hb4⟩; obtain ⟨pa, pc, P, rfl, hP⟩ := hx.out; have HP := Lib.hid hP; have HS3 := Lib.hid (HS2.out.grow hb4); have HZ3 := Lib.hid (HZ1.out.grow hb4); have hB3 := hB2.trans (hb4.mono hB2.size); clear hx hP hb4))
  go_wp2_with (first
    | (go_at_call 15; (with_reducible refine (eq_ex _ _ [-1, 0, 2, 3] _ _ 4 _ rfl (by decide) (HS3.out.grow (below_new _ _)) (HN4.out _ (-1) 0 2 3)).mono ?_); rintro e w5 ⟨rfl, hb5⟩; have hb6 := mono_in _ hb5; have HZ4 := Lib.hid (HZ3.out.grow hb6); have hB4 := hB3.trans (hb6.mono hB3.size); clear hb5)
    | (go_at_call 15; (with_reducible refine (eq_ex _ _ [3, 4] _ _ 2 _ rfl (by decide) (HZ4.out.grow (below_new _ _)) (HN2.out _ 3 4)).mono ?_); rintro e w7 ⟨rfl, hb7⟩; have hb8 := mono_in _ hb7; have HB5 := Lib.hid (hb6.trans (hb8.mono hb6.size)); have hB5 := hB4.trans (hb8.mono hB4.size); clear hb7)
    | (go_at_call 22; (with_reducible refine (HSA.out _ _ _ _ HB5.out HP.out).mono ?_); rintro e w9 ⟨rfl, hb9⟩; have hB6 := hB5.trans (hb9.mono hB5.size)))
  go_ret
  exact ⟨rfl, hB6⟩
end Go.Proofs.YtfiefmhnonddhaaDoor
