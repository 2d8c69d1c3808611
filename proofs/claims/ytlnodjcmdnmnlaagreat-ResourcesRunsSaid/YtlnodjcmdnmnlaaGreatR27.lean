/-
  THE WALKS of slices.IndexFunc, ContainsFunc at numbers and tasks; Equal at loads; Clone at numbers; append of one element.
  PLAIN: the times of uses, their sums, the short steps.
  THE WALKS of the reference's at and next (layer 42).
  THE WALK of the reference's Steps (layer 42).
  slices.Sort and slices.Compact at a row of numbers of the call's own.
  THE WALK of the program's steps (package resources).
  THE WALKS of tasks, Energy (package resources), Tasks, Energy (reference 42).
-/
import Derived.Lib.SlicesCompact
import Derived.Sort.OwnSortedInts
import Derived.Lib.RowBridge
import Derived.Outline
import Derived.Test.YtlnodjcmdnmnlaaGreatR26
import Derived.Test.YtlnodjcmdnmnlaaGreatR2
import Derived.Test.YtlnodjcmdnmnlaaGreatR5
namespace Go.Proofs.YtlnodjcmdnmnlaaGreat
open Go.RowKit Go.Shelf
set_option maxHeartbeats 2000000 in
theorem task_indexFunc (a : Option Addr) (L : List (TaskR)) (cap n₀ g : Nat) (cb : Array Value) (p : TaskR → Bool) (w : World) (eg : ∀ args w, (callFunc g args).run Tryz.prog w = .ok (.enter g args) w)
  (hl : L.length ≤ 1100) (hn₀ : n₀ ≤ w.heap.size) (hI : Tasks n₀ w a L) (hp : AsksTasks g cb n₀ w p) :
  Calls Tryz.prog 81 #[.slice a L.length cap, .func (.func g) #[] cb] w fun e w' => e = .returned (.int .i64 (task_first L p)) ∧ Below w.heap.size w w' := by
 have HI := Lib.hid hI; clear hI
 have HP := Lib.hid hp; clear hp
 go_enter Tryz.func81, Tryz.ntmps81
 go_wp2
 go_loopw [8] (fun i wr => ∃ k : Nat, k ≤ L.length ∧ i = .int .i64 k ∧ Below w.heap.size w wr ∧ Hid (∀ j, j < k → p (tkg L j) = false)) (fun i _ => L.length - (intOf i).toNat)
 case atStart => exact ⟨0, Nat.zero_le _, rfl, Below.refl _ _, Lib.hid (fun _ h => absurd h (Nat.not_lt_zero _))⟩
 case round =>
  obtain ⟨k, hk, rfl, hB, HA⟩ := hrel
  by_cases hlt : k < L.length
  ·obtain ⟨b, off, rfl, hb, hc⟩ := HI.out (by omega)
   obtain ⟨c0, c1, c2, c3, c4⟩ := hc k hlt
   have d0 := (hB.cell (p := ⟨b, off + k * 5, none⟩) (show b < w.heap.size by omega)).trans c0
   have d1 := (hB.cell (p := ⟨b, off + k * 5 + 1, none⟩) (show b < w.heap.size by omega)).trans c1
   have d2 := (hB.cell (p := ⟨b, off + k * 5 + 2, none⟩) (show b < w.heap.size by omega)).trans c2
   have d3 := (hB.cell (p := ⟨b, off + k * 5 + 3, none⟩) (show b < w.heap.size by omega)).trans c3
   have d4 := (hB.cell (p := ⟨b, off + k * 5 + 4, none⟩) (show b < w.heap.size by omega)).trans c4
   clear c0 c1 c2 c3 c4 hc
   have HC := Lib.hid (show Calls Tryz.prog g (#[.agg #[.string (tkg L k).name, .int .i64 (tkg L k).length, .int .i64 (tkg L k).crew, .int .i64 (tkg L k).power, .slice (tkg L k).ba (tkg L k).bl (tkg L k).bc]] ++ cb) wr _ from HP.out wr (tkg L k) (hB.mono hn₀))
   obtain ⟨bv, hbv⟩ : ∃ bv, p (tkg L k) = bv := ⟨_, rfl⟩
   rw [hbv] at HC
   cases bv
   ·have HB : Hid (∀ j, j < k + 1 → p (tkg L j) = false) := Lib.hid fun j hj => by
     rcases Nat.lt_or_ge j k with l | l
     ·exact HA.out j l
     ·obtain rfl : j = k := by omega
      exact hbv
    clear hbv
    go_wp2_with ((with_reducible refine HC.out.mono ?_); rintro e w1 ⟨rfl, hb1⟩)
    go_roundw
    case rel => exact ⟨k + 1, by omega, by go_num, hB.trans (hb1.mono hB.size), HB⟩
    case measure => simp [intOf]; omega
   ·have H := Lib.hid (task_first_hit L p k hlt hbv HA.out)
    clear hbv
    go_wp2_with ((with_reducible refine HC.out.mono ?_); rintro e w1 ⟨rfl, hb1⟩)
    go_ret
    exact ⟨ret_int H.out.symm, hB.trans (hb1.mono hB.size)⟩
  ·obtain rfl : k = L.length := by omega
   have H := Lib.hid (task_first_miss L p HA.out)
   go_wp2
   go_ret
   exact ⟨ret_int H.out.symm, hB⟩

set_option maxHeartbeats 1000000 in
theorem task_containsFunc (a : Option Addr) (L : List (TaskR)) (cap n₀ g : Nat) (cb : Array Value) (p : TaskR → Bool) (w : World) (eg : ∀ args w, (callFunc g args).run Tryz.prog w = .ok (.enter g args) w)
  (hl : L.length ≤ 1100) (hn₀ : n₀ ≤ w.heap.size) (hI : Tasks n₀ w a L) (hp : AsksTasks g cb n₀ w p) :
  Calls Tryz.prog 47 #[.slice a L.length cap, .func (.func g) #[] cb] w fun e w' => e = .returned (.bool (task_any L p)) ∧ Below w.heap.size w w' := by
 have HC := Lib.hid (task_indexFunc a L cap n₀ g cb p w eg hl hn₀ hI hp)
 clear hI hp eg
 go_enter Tryz.func47, Tryz.ntmps47
 go_wp2_with (go_at_call 81; (with_reducible refine HC.out.mono ?_); rintro e w1 ⟨rfl, hb1⟩)
 go_ret
 exact ⟨rfl, hb1⟩

set_option maxHeartbeats 4000000 in
theorem load_equal (a1 a2 : Option Addr) (F1 F2 : List (Int × Int)) (cap1 cap2 : Nat) (w : World) (hl : F1.length ≤ 1100) (h1 : Loads w.heap.size w a1 F1) (h2 : Loads w.heap.size w a2 F2) (hl2 : F2.length ≤ 1100) :
  Calls Tryz.prog 10 #[.slice a1 F1.length cap1, .slice a2 F2.length cap2] w fun e w' => e = .returned (.bool (decide (F1 = F2))) ∧ Below w.heap.size w w' := by
 have H1 := Lib.hid h1
 have H2 := Lib.hid h2
 clear h1 h2
 by_cases hle : F1.length = F2.length
 ·have hn : ((F1.length : Int) != (F2.length : Int)) = false := by rw [bne_eq_false_iff_eq]; omega
  have HL := Lib.hid hle; clear hle
  go_enter Tryz.func10, Tryz.ntmps10
  go_wp2
  go_loopw [13] (fun i wr => ∃ k : Nat, k ≤ F1.length ∧ i = .int .i64 k ∧ Below w.heap.size w wr ∧ Hid (∀ j, j < k → og F1 j = og F2 j)) (fun i _ => F1.length - (intOf i).toNat)
  case atStart => exact ⟨0, Nat.zero_le _, rfl, Below.refl _ _, Lib.hid (fun _ h => absurd h (Nat.not_lt_zero _))⟩
  case round =>
   obtain ⟨k, hk, rfl, hB, HA⟩ := hrel
   by_cases hlt : k < F1.length
   ·have hlt2 : k < F2.length := by have := HL.out; omega
    obtain ⟨b, off, rfl, hb, hcx⟩ := H1.out (by omega)
    obtain ⟨b', off', rfl, hb', hcx'⟩ := H2.out (by omega)
    obtain ⟨c0, c1⟩ := hcx k hlt
    obtain ⟨e0, e1⟩ := hcx' k hlt2
    have d0 := (hB.cell (p := ⟨b, off + k * 2, none⟩) hb).trans c0
    have d1 := (hB.cell (p := ⟨b, off + k * 2 + 1, none⟩) hb).trans c1
    have f0 := (hB.cell (p := ⟨b', off' + k * 2, none⟩) hb').trans e0
    have f1 := (hB.cell (p := ⟨b', off' + k * 2 + 1, none⟩) hb').trans e1
    clear c0 c1 e0 e1 hcx hcx'
    by_cases q0 : (og F1 k).1 = (og F2 k).1
    ·by_cases q1 : (og F1 k).2 = (og F2 k).2
     ·have HB : Hid (∀ j, j < k + 1 → og F1 j = og F2 j) := Lib.hid fun j hj => by
       rcases Nat.lt_or_ge j k with l | l
       ·exact HA.out j l
       ·obtain rfl : j = k := by omega
        exact Prod.ext q0 q1
      have g0 : ((og F1 k).1 == (og F2 k).1) = true := beq_iff_eq.2 q0
      have h0 : ((og F1 k).1 != (og F2 k).1) = false := bne_eq_false_iff_eq.2 q0
      have g1 : ((og F1 k).2 == (og F2 k).2) = true := beq_iff_eq.2 q1
      have h1 : ((og F1 k).2 != (og F2 k).2) = false := bne_eq_false_iff_eq.2 q1
      clear q0 q1
      go_wp2_with fail
      go_quiet (fail)
      go_wp2
      go_roundw
      case rel => exact ⟨k + 1, by omega, by go_num, below_drewN hB _, HB⟩
      case measure => simp [intOf]; omega
     ·have H : Hid (decide (F1 = F2) = false) := Lib.hid (decide_eq_false (fun e => q1 (by rw [e])))
      have g0 : ((og F1 k).1 == (og F2 k).1) = true := beq_iff_eq.2 q0
      have h0 : ((og F1 k).1 != (og F2 k).1) = false := bne_eq_false_iff_eq.2 q0
      have g1 : ((og F1 k).2 == (og F2 k).2) = false := beq_eq_false_iff_ne.2 q1
      have h1 : ((og F1 k).2 != (og F2 k).2) = true := bne_iff_ne.2 q1
      clear q0 q1
      go_wp2_with fail
      go_quiet (fail)
      go_wp2
      go_ret
      exact ⟨congrArg (fun b => Ending.returned (.bool b)) H.out.symm, below_drewN hB _⟩
    ·have H : Hid (decide (F1 = F2) = false) := Lib.hid (decide_eq_false (fun e => q0 (by rw [e])))
     have g0 : ((og F1 k).1 == (og F2 k).1) = false := beq_eq_false_iff_ne.2 q0
     have h0 : ((og F1 k).1 != (og F2 k).1) = true := bne_iff_ne.2 q0
     clear q0
     go_wp2_with fail
     go_quiet (fail)
     go_wp2
     go_ret
     exact ⟨congrArg (fun b => Ending.returned (.bool b)) H.out.symm, below_drewN hB _⟩
   ·obtain rfl : k = F1.length := by omega
    have H : Hid (decide (F1 = F2) = true) := Lib.hid (decide_eq_true (og_ext F1 F2 HL.out HA.out))
    go_wp2
    go_ret
    exact ⟨congrArg (fun b => Ending.returned (.bool b)) H.out.symm, hB⟩
 ·have hn : ((F1.length : Int) != (F2.length : Int)) = true := bne_iff_ne.2 (by omega)
  have H : Hid (decide (F1 = F2) = false) := Lib.hid (decide_eq_false (fun e => hle (by rw [e])))
  clear hle
  go_enter Tryz.func10, Tryz.ntmps10
  go_wp2
  go_ret
  exact ⟨congrArg (fun b => Ending.returned (.bool b)) H.out.symm, Below.refl _ _⟩

theorem load_info : (Tryz.prog.info? 41).map (fun i => (i.zero, i.size, i.bytes)) = some (some (.agg #[.int .i64 0, .int .i64 0]), 2, 16) := by kernel_rfl

theorem use_info : (Tryz.prog.info? 83).map (fun i => (i.zero, i.size, i.bytes)) = some (some (.agg #[.int .i64 0, .int .i64 0, .int .i64 0]), 3, 24) := by kernel_rfl

theorem load_append {ops : Array Oper} {rest : List Oper} {o : Oper} {a : Act} {w : World} {Q : Exit → Act → World → Prop} (hgd : o.guard = none) (s x : Operand)
  (ho : o.op = .call { callee := .builtin .append, args := #[s, x], argTypes := #[33, 33] })
  (base : Nat) (v : Value) (L : List (Int × Int)) (hs : a.eval s = v) (hown : w.ownsRow base 41 2 v L.length (oflat L))
  (bl : Nat) (y : Int × Int) (hx : a.eval x = .slice (some ⟨bl, 0, none⟩) 1 1) (hc : w.cell? ⟨bl, 0, none⟩ = some (.int .i64 y.1) ∧ w.cell? ⟨bl, 1, none⟩ = some (.int .i64 y.2)) (hl : L.length ≤ 1000000) (hbase : base ≤ w.heap.size)
  (h : ∀ v' w', w'.ownsRow base 41 2 v' (L ++ [y]).length (oflat (L ++ [y])) → w.grownBy w' v.ownBlock → wpList Tryz.prog ops Q rest (a.put o.dst v') w') : wpList Tryz.prog ops Q (o :: rest) a w := by
 obtain ⟨i0, hi, hz0, hz1, hz2⟩ := info_parts load_info
 refine wpList_append_own _ hgd s x 33 ho base 41 i0 _ 2 16 Tryz.underlying33 hi hz0 hz1 hz2 rfl (by decide) v L.length (oflat L) hs hown ⟨bl, 0, none⟩ 1 1 [.int .i64 y.1, .int .i64 y.2] hx rfl ?_ (by simp [Value.oneCell']) (by unfold maxLen; omega) (by omega) hbase ?_
 ·obtain ⟨c0, c1⟩ := hc
  intro j u hj
  rw [Go.WideShapes.add_plain, Nat.zero_add]
  match j, hj with
  | 0, hj => simp at hj; subst hj; exact c0
  | 1, hj => simp at hj; subst hj; exact c1
 ·intro v' w' h1 h2 _
  refine h v' w' ?_ h2
  rw [oflat_snoc, List.length_append]
  exact h1

theorem num_append2 {ops : Array Oper} {rest : List Oper} {o : Oper} {a : Act} {w : World} {Q : Exit → Act → World → Prop} (hgd : o.guard = none) (s x : Operand)
  (ho : o.op = .call { callee := .builtin .append, args := #[s, x], argTypes := #[30, 30] })
  (base : Nat) (v : Value) (L : List Int) (hs : a.eval s = v) (hown : w.ownsRow base 3 1 v L.length (nflat L))
  (bl : Nat) (y z : Int) (hx : a.eval x = .slice (some ⟨bl, 0, none⟩) 2 2) (hc : w.cell? ⟨bl, 0, none⟩ = some (.int .i64 y) ∧ w.cell? ⟨bl, 1, none⟩ = some (.int .i64 z)) (hl : L.length ≤ 1000000) (hbase : base ≤ w.heap.size)
  (h : ∀ v' w', w'.ownsRow base 3 1 v' (L ++ [y, z]).length (nflat (L ++ [y, z])) → w.grownBy w' v.ownBlock → wpList Tryz.prog ops Q rest (a.put o.dst v') w') : wpList Tryz.prog ops Q (o :: rest) a w := by
 obtain ⟨i0, hi, hz0, hz1, hz2⟩ := info_parts num_info
 refine wpList_append_own _ hgd s x 30 ho base 3 i0 _ 1 8 Tryz.underlying30 hi hz0 hz1 hz2 rfl (by decide) v L.length (nflat L) hs hown ⟨bl, 0, none⟩ 2 2 [.int .i64 y, .int .i64 z] hx rfl ?_ (by simp [Value.oneCell']) (by unfold maxLen; omega) (by omega) hbase ?_
 ·obtain ⟨c0, c1⟩ := hc
  intro j u hj
  rw [Go.WideShapes.add_plain, Nat.zero_add]
  match j, hj with
  | 0, hj => simp at hj; subst hj; exact c0
  | 1, hj => simp at hj; subst hj; exact c1
 ·intro v' w' h1 h2 _
  refine h v' w' ?_ h2
  rw [show nflat (L ++ [y, z]) = nflat L ++ [.int .i64 y, .int .i64 z] by simp [nflat], List.length_append]
  exact h1
end Go.Proofs.YtlnodjcmdnmnlaaGreat
namespace Go.Proofs.YtlnodjcmdnmnlaaGreat
open Go.Lib
/-! ### Compact of a sorted list -/
theorem arr_ig (zs : List Int) (m : Nat) (h : m < zs.length) : zs.toArray[m]! = ig zs m := by
 rw [ig_eq zs m h, getElem!_pos _ m (by simpa using h)]
 simp
theorem ig_le {zs : List Int} (h : zs.Pairwise (· ≤ ·)) {i j : Nat} (hij : i ≤ j) (hj : j < zs.length) : ig zs i ≤ ig zs j := by
 rcases Nat.eq_or_lt_of_le hij with e | l
 ·rw [e]; exact Int.le_refl _
 ·rw [ig_eq zs i (by omega), ig_eq zs j hj]
  exact List.pairwise_iff_getElem.1 h i j (by omega) hj l
theorem compact_upto {zs : List Int} (h : zs.Pairwise (· ≤ ·)) : ∀ m, m ≤ zs.length → (compactUpTo zs.toArray m).Pairwise (· < ·) ∧ ∀ x, x ∈ compactUpTo zs.toArray m ↔ ∃ j, j < m ∧ ig zs j = x := by
 intro m
 induction m with
 | zero => intro _; refine ⟨by simp [compactUpTo], fun x => by simp [compactUpTo]⟩
 | succ m ih =>
  intro hm
  obtain ⟨h1, h2⟩ := ih (by omega)
  rw [compactUpTo_succ]
  by_cases hk : keeps zs.toArray m = true
  ·rw [if_pos hk, arr_ig zs m (by omega)]
   have hlt : ∀ x ∈ compactUpTo zs.toArray m, x < ig zs m := fun x hx => by
    obtain ⟨j, hj, rfl⟩ := (h2 x).1 hx
    have h3 := ig_le h (show m - 1 ≤ m by omega) (by omega)
    have h4 := ig_le h (show j ≤ m - 1 by omega) (by omega)
    unfold keeps at hk
    have h5 := of_decide_eq_true hk
    rcases h5 with e | e
    ·omega
    ·rw [arr_ig zs m (by omega), arr_ig zs (m - 1) (by omega)] at e
     omega
   refine ⟨?_, fun x => ?_⟩
   ·rw [List.pairwise_append]
    exact ⟨h1, List.pairwise_singleton _ _, fun a ha b hb => by rw [List.mem_singleton.1 hb]; exact hlt a ha⟩
   ·rw [List.mem_append, h2]
    constructor
    ·rintro (⟨j, hj, e⟩ | hx)
     ·exact ⟨j, by omega, e⟩
     ·exact ⟨m, by omega, (List.mem_singleton.1 hx).symm⟩
    ·rintro ⟨j, hj, e⟩
     rcases Nat.lt_or_ge j m with l | l
     ·exact .inl ⟨j, l, e⟩
     ·obtain rfl : j = m := by omega
      exact .inr (by rw [e]; exact List.mem_singleton_self _)
  ·rw [if_neg hk, List.append_nil]
   refine ⟨h1, fun x => ?_⟩
   rw [h2]
   constructor
   ·rintro ⟨j, hj, e⟩; exact ⟨j, by omega, e⟩
   ·rintro ⟨j, hj, e⟩
    rcases Nat.lt_or_ge j m with l | l
    ·exact ⟨j, l, e⟩
    ·obtain rfl : j = m := by omega
     have hk' : keeps zs.toArray j = false := by simpa using hk
     unfold keeps at hk'
     have h5 := of_decide_eq_false hk'
     have hj0 : j ≠ 0 := fun e => h5 (.inl e)
     refine ⟨j - 1, by omega, ?_⟩
     have h6 : zs.toArray[j]! = zs.toArray[j - 1]! := Classical.byContradiction fun e => h5 (.inr e)
     rw [arr_ig zs j (by omega), arr_ig zs (j - 1) (by omega)] at h6
     rw [← h6, e]
def sortI (l : List Int) : List Int := l.mergeSort fun x y => decide (x ≤ y)
theorem sortI_sorted (l : List Int) : (sortI l).Pairwise (· ≤ ·) := by
 have := List.pairwise_mergeSort (le := fun x y : Int => decide (x ≤ y)) (fun a b c h1 h2 => by simp at *; omega) (fun a b => by simp; omega) l
 exact this.imp fun h => by simpa using h
theorem sortI_len (l : List Int) : (sortI l).length = l.length := List.length_mergeSort _
theorem sortI_mem (l : List Int) (x : Int) : x ∈ sortI l ↔ x ∈ l := List.mem_mergeSort
theorem mem_ig {l : List Int} {x : Int} : x ∈ l ↔ ∃ j, j < l.length ∧ ig l j = x := by
 constructor
 ·intro h
  obtain ⟨j, hj, e⟩ := List.getElem_of_mem h
  exact ⟨j, hj, by rw [ig_eq l j hj]; exact e⟩
 ·rintro ⟨j, hj, e⟩
  rw [← e, ig_eq l j hj]
  exact List.getElem_mem hj
theorem compact_sort (l : List Int) : (compact (sortI l)).Pairwise (· < ·) ∧ ∀ x, x ∈ compact (sortI l) ↔ x ∈ l := by
 obtain ⟨h1, h2⟩ := compact_upto (sortI_sorted l) (sortI l).length (Nat.le_refl _)
 exact ⟨h1, fun x => (h2 x).trans (mem_ig.symm.trans (sortI_mem l x))⟩

/-! ### Uses: their ends, their sums -/
abbrev UseL := List (Int × Int × Int)
def endsTo (U : UseL) : Nat → List Int
 | 0 => [0]
 | k + 1 => if (ug U k).1 < (ug U k).2.1 then endsTo U k ++ [(ug U k).1, (ug U k).2.1] else endsTo U k
theorem endsTo_len (U : UseL) (k : Nat) : (endsTo U k).length ≤ 2 * k + 1 ∧ 0 < (endsTo U k).length := by
 induction k with
 | zero => exact ⟨Nat.le_refl _, Nat.succ_pos _⟩
 | succ k ih =>
  simp only [endsTo]
  split
  ·rw [List.length_append]; simp; omega
  ·omega
theorem endsTo_mem (U : UseL) (x : Int) : ∀ k, x ∈ endsTo U k ↔ x = 0 ∨ ∃ j, j < k ∧ (ug U j).1 < (ug U j).2.1 ∧ (x = (ug U j).1 ∨ x = (ug U j).2.1) := by
 intro k
 induction k with
 | zero => simp [endsTo]
 | succ k ih =>
  simp only [endsTo]
  constructor
  ·intro h
   by_cases hc : (ug U k).1 < (ug U k).2.1
   ·rw [if_pos hc] at h
    rcases List.mem_append.1 h with h | h
    ·rcases ih.1 h with e | ⟨j, hj, a, b⟩
     ·exact .inl e
     ·exact .inr ⟨j, by omega, a, b⟩
    ·exact .inr ⟨k, by omega, hc, by simpa using h⟩
   ·rw [if_neg hc] at h
    rcases ih.1 h with e | ⟨j, hj, a, b⟩
    ·exact .inl e
    ·exact .inr ⟨j, by omega, a, b⟩
  ·intro h
   have hold : x ∈ endsTo U k → x ∈ (if (ug U k).1 < (ug U k).2.1 then endsTo U k ++ [(ug U k).1, (ug U k).2.1] else endsTo U k) := fun h => by
    split
    ·exact List.mem_append_left _ h
    ·exact h
   rcases h with e | ⟨j, hj, a, b⟩
   ·exact hold (ih.2 (.inl e))
   ·rcases Nat.lt_or_ge j k with l | l
    ·exact hold (ih.2 (.inr ⟨j, l, a, b⟩))
    ·obtain rfl : j = k := by omega
     rw [if_pos a]
     exact List.mem_append_right _ (by simpa using b)
def timesP (U : UseL) : List Int := compact (sortI (endsTo U U.length))
theorem times_lt (U : UseL) : (timesP U).Pairwise (· < ·) := (compact_sort _).1
theorem times_mem (U : UseL) (x : Int) : x ∈ timesP U ↔ x = 0 ∨ ∃ j, j < U.length ∧ (ug U j).1 < (ug U j).2.1 ∧ (x = (ug U j).1 ∨ x = (ug U j).2.1) :=
 ((compact_sort _).2 x).trans (endsTo_mem U x U.length)
def sumTo (U : UseL) (t : Int) : Nat → Int
 | 0 => 0
 | k + 1 => sumTo U t k + if (ug U k).1 ≤ t ∧ t < (ug U k).2.1 then (ug U k).2.2 else 0
def sumAt (U : UseL) (t : Int) : Int := sumTo U t U.length

/-! ### The steps -/
def addS (U : UseL) (out : List (Int × Int)) (t : Int) : List (Int × Int) := if out.length = 0 ∨ (og out (out.length - 1)).2 ≠ sumAt U t then out ++ [(t, sumAt U t)] else out
def stepsK (U : UseL) (k : Nat) : List (Int × Int) := ((timesP U).take k).foldl (addS U) []
def stepsP (U : UseL) : List (Int × Int) := (timesP U).foldl (addS U) []
theorem stepsK_succ (U : UseL) (k : Nat) (h : k < (timesP U).length) : stepsK U (k + 1) = addS U (stepsK U k) (ig (timesP U) k) := by
 unfold stepsK
 rw [List.take_add_one, ig_get h, List.foldl_append]
 rfl
theorem stepsK_all (U : UseL) : stepsK U (timesP U).length = stepsP U := by unfold stepsK stepsP; rw [List.take_length]
theorem addS_len (U : UseL) (out : List (Int × Int)) (t : Int) : (addS U out t).length ≤ out.length + 1 := by
 unfold addS; split
 ·rw [List.length_append]; simp
 ·omega
theorem stepsK_len (U : UseL) (k : Nat) (h : k ≤ (timesP U).length) : (stepsK U k).length ≤ k := by
 induction k with
 | zero => exact Nat.le_refl _
 | succ k ih => rw [stepsK_succ U k (by omega)]; have := addS_len U (stepsK U k) (ig (timesP U) k); have := ih (by omega); omega
theorem times_len (U : UseL) : (timesP U).length ≤ 2 * U.length + 1 := by
 have h : (timesP U).length ≤ (sortI (endsTo U U.length)).length := by
  unfold timesP compact compactUpTo
  rw [List.length_map]
  exact Nat.le_trans (List.length_filter_le _ _) (by simp)
 rw [sortI_len] at h
 have := (endsTo_len U U.length).1
 omega

def UseOK (U : UseL) : Prop := ∀ j, j < U.length → 0 ≤ (ug U j).1 ∧ (ug U j).1 < (ug U j).2.1
theorem ig_lt {zs : List Int} (h : zs.Pairwise (· < ·)) {i j : Nat} (hij : i < j) (hj : j < zs.length) : ig zs i < ig zs j := by
 rw [ig_eq zs i (by omega), ig_eq zs j hj]
 exact List.pairwise_iff_getElem.1 h i j (by omega) hj hij
theorem times_pos (U : UseL) : 0 < (timesP U).length := by
 obtain ⟨j, hj, _⟩ := mem_ig.1 ((times_mem U 0).2 (.inl rfl))
 omega
theorem times_ge {U : UseL} (h : UseOK U) (x : Int) (hx : x ∈ timesP U) : 0 ≤ x := by
 rcases (times_mem U x).1 hx with e | ⟨j, hj, _, e⟩
 ·omega
 ·have := h j hj; omega
theorem times_zero {U : UseL} (h : UseOK U) : ig (timesP U) 0 = 0 := by
 obtain ⟨j, hj, e⟩ := mem_ig.1 ((times_mem U 0).2 (.inl rfl))
 have h0 := times_ge h _ (mem_ig.2 ⟨0, times_pos U, rfl⟩)
 rcases Nat.eq_zero_or_pos j with e0 | e0
 ·rw [← e0, e]
 ·have := ig_lt (times_lt U) e0 hj; omega
end Go.Proofs.YtlnodjcmdnmnlaaGreat
namespace Go.Proofs.YtlnodjcmdnmnlaaGreat
open Go.RowKit Go.Shelf
def UseB (U : UseL) : Prop := ∀ k, k < U.length → -1099511627776 ≤ (ug U k).2.2 ∧ (ug U k).2.2 ≤ 1099511627776
theorem sumTo_b {U : UseL} (h : UseB U) (t : Int) : ∀ k, k ≤ U.length → -1099511627776 * (k : Int) ≤ sumTo U t k ∧ sumTo U t k ≤ 1099511627776 * (k : Int) := by
 intro k
 induction k with
 | zero => intro _; exact ⟨Int.le_refl _, Int.le_refl _⟩
 | succ k ih =>
  intro hk
  have h1 := ih (by omega)
  have h2 := h k (by omega)
  simp only [sumTo]
  split <;> omega
end Go.Proofs.YtlnodjcmdnmnlaaGreat
namespace Go.Proofs.YtlnodjcmdnmnlaaGreat
open Go.RowKit Go.Shelf
theorem addS_same {U : UseL} {out : List (Int × Int)} {t : Int} (h0 : 0 < out.length) (h : (og out (out.length - 1)).2 = sumAt U t) : addS U out t = out := by
 unfold addS; rw [if_neg (fun e => e.elim (by omega) (fun e => e h))]
theorem addS_more {U : UseL} {out : List (Int × Int)} {t : Int} (h : (og out (out.length - 1)).2 ≠ sumAt U t) : addS U out t = out ++ [(t, sumAt U t)] := by
 unfold addS; rw [if_pos (.inr h)]
theorem addS_first {U : UseL} {out : List (Int × Int)} {t : Int} (h : out.length = 0) : addS U out t = out ++ [(t, sumAt U t)] := by
 unfold addS; rw [if_pos (.inl h)]

end Go.Proofs.YtlnodjcmdnmnlaaGreat
namespace Go.Proofs.YtlnodjcmdnmnlaaGreat
open Go.RowKit Go.Shelf Go.Sort Go.Lib
theorem nflat_map (L : List Int) : nflat L = L.map (Value.int .i64) := by
 induction L with
 | nil => rfl
 | cons x r ih => rw [List.map_cons, ← ih]; rfl
theorem row_block {w : World} {base g n cap : Nat} {e : TypeId} {xs : List Value} (h : w.ownsRow base e 1 (.slice (some ⟨g, 0, none⟩) n cap) n xs) :
  ∃ cur, base ≤ g ∧ w.heap[g]? = some (.cells cur e (0, 0)) ∧ n ≤ cap ∧ cap ≤ maxLen ∧ cur.size = cap * 1 ∧ cur.toList.take (n * 1) = xs := by
 rcases h.2 with ⟨e0, _⟩ | ⟨g', cap', cur, e0, hb, hg, h1, h2, h3, h4⟩
 ·cases e0
 ·cases e0; exact ⟨cur, hb, hg, h1, h2, h3, h4⟩
theorem sort_own {w : World} {base g cap : Nat} {L : List Int} (h : w.ownsRow base 3 1 (.slice (some ⟨g, 0, none⟩) L.length cap) L.length (nflat L)) (hl : L.length ≤ 1000000) :
  Calls Tryz.prog 50 #[.slice (some ⟨g, 0, none⟩) L.length cap] w fun e w' => e = .returned (.tuple #[]) ∧ w'.ownsRow base 3 1 (.slice (some ⟨g, 0, none⟩) L.length cap) L.length (nflat (sortI L)) ∧ w.grownBy w' (some g) := by
 obtain ⟨cur, hb, hg, h1, h2, h3, h4⟩ := row_block h
 rw [Nat.mul_one, nflat_map] at h4
 refine (Tryz.slices_Sort_int g 0 cap L w (holds_of_blockI hg h4) (Array.getElem?_eq_some_iff.1 hg).1 (by omega)).mono fun e w' ⟨he, n, os, hw⟩ => ⟨he, ?_, ?_⟩
 ·rw [hw, nflat_map]
  exact ownsRow_sortedI (sortI_len L) hb hg h1 h2 h3
 ·rw [hw]; exact grownBy_sortedI _
theorem compact_own {w : World} {base g cap : Nat} {L : List Int} (h : w.ownsRow base 3 1 (.slice (some ⟨g, 0, none⟩) L.length cap) L.length (nflat L)) (hl : L.length ≤ 1000000) :
  Calls Tryz.prog 51 #[.slice (some ⟨g, 0, none⟩) L.length cap] w fun e w' => e = .returned (.slice (some ⟨g, 0, none⟩) (compact L).length cap) ∧ w'.ownsRow base 3 1 (.slice (some ⟨g, 0, none⟩) (compact L).length cap) (compact L).length (nflat (compact L)) ∧ w.grownBy w' (some g) := by
 obtain ⟨cur, hb, hg, h1, h2, h3, h4⟩ := row_block h
 rw [Nat.mul_one, nflat_map] at h4
 have hle := compact_length_le L
 refine (Tryz.slices_Compact_int g 0 cap L w (holds_of_blockI hg h4) (by omega) h1).mono fun e w' ⟨he, q, hw⟩ => ⟨he, ?_, ?_⟩
 ·rw [hw, nflat_map]
  have hh := heap_sortedI (n := q) (os := #[]) (compact L ++ List.replicate (L.length - (compact L).length) 0).toArray hg
  rw [grow_empty] at hh
  refine ⟨by simp, .inr ⟨g, cap, _, rfl, hb, hh, by omega, h2, by simp [putCells, h3], ?_⟩⟩
  have ht := take_putCellsI cur (compact L ++ List.replicate (L.length - (compact L).length) 0) (by simp; omega)
  have h5 := congrArg (List.take (compact L).length) ht
  rw [List.take_take, Nat.min_eq_left (by simp), List.map_append, List.take_append_of_le_length (by simp), List.take_of_length_le (l := (compact L).map (Value.int .i64)) (by simp)] at h5
  rw [Nat.mul_one]
  exact h5
 ·rw [hw]
  have := grownBy_sortedI (w := w) (g := g) (n := q) (os := #[]) (compact L ++ List.replicate (L.length - (compact L).length) 0).toArray
  rw [grow_empty] at this
  exact this
end Go.Proofs.YtlnodjcmdnmnlaaGreat
namespace Go.Proofs.YtlnodjcmdnmnlaaGreat
open Go.RowKit Go.Shelf
theorem nums_of_row {w : World} {base n cap : Nat} {a : Option Addr} {X : List Int} (h : w.ownsRow base 3 1 (.slice a n cap) n (nflat X)) (hl : X.length = n) : Nums w.heap.size w a X := by
 subst hl
 obtain ⟨a', c', e, _, _, _, hf⟩ := num_of_row h
 cases e
 exact hf
theorem compact_n {w : World} {base g cap n : Nat} {L : List Int} (h : w.ownsRow base 3 1 (.slice (some ⟨g, 0, none⟩) L.length cap) L.length (nflat L)) (hn : n = L.length) (hl : L.length ≤ 1000000) :
  Calls Tryz.prog 51 #[.slice (some ⟨g, 0, none⟩) n cap] w fun e w' => e = .returned (.slice (some ⟨g, 0, none⟩) (Go.Lib.compact L).length cap) ∧ w'.ownsRow base 3 1 (.slice (some ⟨g, 0, none⟩) (Go.Lib.compact L).length cap) (Go.Lib.compact L).length (nflat (Go.Lib.compact L)) ∧ w.grownBy w' (some g) := by
 subst hn
 exact compact_own h hl
set_option maxRecDepth 100000 in
set_option maxHeartbeats 16000000 in
theorem steps_any (a : Option Addr) (U : UseL) (cap : Nat) (w : World) (hl : U.length ≤ 1000) (hB : UseB U) (hU : Uses w.heap.size w a U) :
  Calls Tryz.prog 31 #[.slice a U.length cap] w fun e w' => Hid (∃ v, e = .returned v ∧ w'.ownsRow w.heap.size 41 2 v (stepsP U).length (oflat (stepsP U)) ∧ Below w.heap.size w w') := by
 have HU := Lib.hid hU
 have HBB : Hid (∀ k, k < U.length → -1099511627776 ≤ (ug U k).2.2 ∧ (ug U k).2.2 ≤ 1099511627776) := Lib.hid hB
 have HSB : Hid (∀ t k, k ≤ U.length → -1099511627776 * (k : Int) ≤ sumTo U t k ∧ sumTo U t k ≤ 1099511627776 * (k : Int)) := Lib.hid (sumTo_b hB)
 have HTL := times_len U
 have hpos := times_pos U
 have hel := endsTo_len U
 obtain ⟨E, hE⟩ : ∃ E, endsTo U U.length = E := ⟨_, rfl⟩
 have HEL : Hid (endsTo U U.length = E) := Lib.hid hE
 have hElen : E.length ≤ 2001 := by have := (hel U.length).1; rw [hE] at this; omega
 have hEpos : 0 < E.length := by have := (hel U.length).2; rw [hE] at this; omega
 have HENDS := Lib.hid hel
 obtain ⟨T, hT⟩ : ∃ T, timesP U = T := ⟨_, rfl⟩
 have HTE : Hid (Go.Lib.compact (sortI E) = T) := Lib.hid (by rw [← hE]; exact hT)
 have HSU : Hid (∀ k, k < T.length → stepsK U (k + 1) = addS U (stepsK U k) (ig T k)) := Lib.hid (by rw [← hT]; exact stepsK_succ U)
 have HSL : Hid (∀ k, k ≤ T.length → (stepsK U k).length ≤ k) := Lib.hid (by rw [← hT]; exact stepsK_len U)
 have HALL : Hid (stepsK U T.length = stepsP U) := Lib.hid (by rw [← hT]; exact stepsK_all U)
 rw [hT] at HTL hpos
 have hTle : T.length ≤ 2001 := by omega
 clear hU hB hT HTL hel hE
 go_enter Tryz.func31, Tryz.ntmps31
 go_wp2_with fail
 have HR0 : Hid ((w.alloc (.cells #[.int .i64 0] 3)).ownsRow w.heap.size 3 1 (.slice (some ⟨w.heap.size, 0, none⟩) 1 1) (endsTo U 0).length (nflat (endsTo U 0))) := Lib.hid (World.ownsRow_lit w #[.int .i64 0] 1 (Nat.le_refl _) (by unfold maxLen; omega) rfl)
 have hb0 := below_new w (.cells #[.int .i64 0] 3)
 go_loopw [3, 15] (fun v i wr => ∃ k : Nat, k ≤ U.length ∧ i = .int .i64 k ∧ Below w.heap.size w wr ∧ Hid (wr.ownsRow w.heap.size 3 1 v (endsTo U k).length (nflat (endsTo U k)))) (fun _ i _ => U.length - (intOf i).toNat)
 case atStart => exact ⟨0, Nat.zero_le _, rfl, hb0, HR0⟩
 case round =>
  clear hb0 HR0
  obtain ⟨k, hk, rfl, hB, HR⟩ := hrel
  have hbs := hB.size
  by_cases hlt : k < U.length
  ·obtain ⟨b, off, rfl, hb, hc⟩ := HU.out (by omega)
   obtain ⟨c0, c1, c2⟩ := hc k hlt
   have d0 := (hB.cell (p := ⟨b, off + k * 3, none⟩) hb).trans c0
   have d1 := (hB.cell (p := ⟨b, off + k * 3 + 1, none⟩) hb).trans c1
   have d2 := (hB.cell (p := ⟨b, off + k * 3 + 2, none⟩) hb).trans c2
   have HEK : Hid ((endsTo U k).length ≤ 1000000) := Lib.hid (by have := (HENDS.out k).1; omega)
   clear hc c0 c1 c2
   by_cases p : (ug U k).1 < (ug U k).2.1
   ·have HS : Hid (endsTo U (k + 1) = endsTo U k ++ [(ug U k).1, (ug U k).2.1]) := Lib.hid (by simp only [endsTo]; rw [if_pos p])
    go_wp2_with (at_builtin; refine num_append2 rfl _ _ rfl w.heap.size _ (endsTo U k) rfl ((HR.out.alloc (.cells #[.int .i64 (ug U k).1, .int .i64 (ug U k).2.1, .int .i64 (ug U k).2.2] 83)).alloc _) _ (ug U k).1 (ug U k).2.1 rfl (by simp) HEK.out (by first | omega | (simp; omega)) ?_; intro v5 w5 hown5 hg5; have hBn : Below w.heap.size w w5 := grown_own ((HR.out.alloc (.cells #[.int .i64 (ug U k).1, .int .i64 (ug U k).2.1, .int .i64 (ug U k).2.2] 83)).alloc (.cells #[.int .i64 (ug U k).1, .int .i64 (ug U k).2.1] 3)) hg5 ((hB.alloc hbs (.cells #[.int .i64 (ug U k).1, .int .i64 (ug U k).2.1, .int .i64 (ug U k).2.2] 83)).alloc (by first | omega | (simp; omega)) _) (by first | omega | (simp; omega)) (Nat.le_refl _))
    go_roundw
    case rel => exact ⟨k + 1, by omega, by go_num, hBn, Lib.hid (by rw [HS.out]; exact hown5)⟩
    case measure => simp [intOf]; omega
   ·have HS : Hid (endsTo U (k + 1) = endsTo U k) := Lib.hid (by simp only [endsTo]; rw [if_neg p])
    go_wp2_with fail
    go_roundw
    case rel => exact ⟨k + 1, by omega, by go_num, hB.alloc hbs _, Lib.hid (by rw [HS.out]; exact HR.out.alloc _)⟩
    case measure => simp [intOf]; omega
  ·obtain rfl : k = U.length := by omega
   have hr := HR.out
   rw [HEL.out] at hr
   obtain ⟨ea, ec, rfl, _, _, _, _⟩ := num_of_row hr
   obtain ⟨g, rfl, hg1, hg2⟩ := row_addr hr hEpos
   have HRE := Lib.hid hr
   clear hr HR hlt hk
   go_wp2_with (first
    | (go_at_call 50; (with_reducible refine (sort_own HRE.out (by omega)).mono ?_); rintro e w2 ⟨rfl, hs2, hgr2⟩; have hr2 : w2.ownsRow w.heap.size 3 1 (.slice (some ⟨g, 0, none⟩) (sortI E).length ec) (sortI E).length (nflat (sortI E)) := (by rw [sortI_len]; exact hs2); have hB2 := hB.grown hgr2 hbs (fun k e => by cases e; exact hg1); have HR2 := Lib.hid hr2; clear hs2 hgr2 hr2)
    | (go_at_call 51; (with_reducible refine (compact_n HR2.out (sortI_len E).symm (by rw [sortI_len]; omega)).mono ?_); rintro e w3 ⟨rfl, hs3, hgr3⟩; rw [HTE.out] at hs3; rw [HTE.out]; have hB3 := hB2.grown hgr3 hB2.size (fun k e => by cases e; exact hg1); have HR3 := Lib.hid hs3; clear hs3 hgr3))
   have HNT := Lib.hid (nums_of_row HR3.out rfl)
   have hbs3 := hB3.size
   clear HRE HR2 hB2 hB hbs
   go_loopw [6, 37] (fun v i wr => ∃ k : Nat, k ≤ T.length ∧ i = .int .i64 k ∧ Below w3.heap.size w3 wr ∧ Hid (wr.ownsRow w3.heap.size 41 2 v (stepsK U k).length (oflat (stepsK U k)))) (fun _ i _ => T.length - (intOf i).toNat)
   case atStart => exact ⟨0, Nat.zero_le _, rfl, Below.refl _ _, Lib.hid (World.ownsRow_nil _ _ _ _)⟩
   case round =>
    obtain ⟨k, hk, rfl, hC, HR⟩ := hrel
    have hcs := hC.size
    have hsl := HSL.out k hk
    by_cases hlt : k < T.length
    ·obtain ⟨tb, tf, e, htb, htc⟩ := HNT.out hpos
     cases e
     have t0 := (hC.cell (p := ⟨g, 0 + k, none⟩) htb).trans (htc k hlt)
     rw [Nat.zero_add] at t0
     have HSU1 := Lib.hid (HSU.out k hlt)
     generalize ig T k = t at *
     clear htc
     go_wp2_with fail
     obtain ⟨wo, rfl⟩ : ∃ wo : World, wo = wr := ⟨_, rfl⟩
     have HST0 : Hid (sumTo U t 0 = 0) := Lib.hid rfl
     go_loopw [9, 43] (fun s i wr => ∃ j : Nat, j ≤ U.length ∧ i = .int .i64 j ∧ s = .int .i64 (sumTo U t j) ∧ Below wo.heap.size wo wr) (fun _ i _ => U.length - (intOf i).toNat)
     case atStart => exact ⟨0, Nat.zero_le _, rfl, rfl, Below.refl _ _⟩
     case round =>
      obtain ⟨j, hj, rfl, rfl, hD⟩ := hrel
      obtain ⟨b1, b2⟩ := HSB.out t j hj
      have hds := hD.size
      have hE : Below w.heap.size w wr := hB3.trans ((hC.trans (hD.mono hcs)).mono hbs3)
      by_cases hlt2 : j < U.length
      ·obtain ⟨b, off, rfl, hb, hc⟩ := HU.out (by omega)
       obtain ⟨c0, c1, c2⟩ := hc j hlt2
       have d0 := (hE.cell (p := ⟨b, off + j * 3, none⟩) hb).trans c0
       have d1 := (hE.cell (p := ⟨b, off + j * 3 + 1, none⟩) hb).trans c1
       have d2 := (hE.cell (p := ⟨b, off + j * 3 + 2, none⟩) hb).trans c2
       obtain ⟨b3, b4⟩ := HBB.out j hlt2
       clear hc c0 c1 c2
       by_cases p1 : (ug U j).1 ≤ t
       ·by_cases p2 : t < (ug U j).2.1
        ·have HS : Hid (sumTo U t (j + 1) = sumTo U t j + (ug U j).2.2) := Lib.hid (by simp only [sumTo]; rw [if_pos ⟨p1, p2⟩])
         go_wp2_with fail
         go_roundw
         case rel => exact ⟨j + 1, by omega, by go_num, by rw [HS.out], hD.alloc hds _⟩
         case measure => simp [intOf]; omega
        ·have HS : Hid (sumTo U t (j + 1) = sumTo U t j) := Lib.hid (by simp only [sumTo]; rw [if_neg (fun h => p2 h.2)]; omega)
         go_wp2_with fail
         go_roundw
         case rel => exact ⟨j + 1, by omega, by go_num, by rw [HS.out], hD.alloc hds _⟩
         case measure => simp [intOf]; omega
       ·have HS : Hid (sumTo U t (j + 1) = sumTo U t j) := Lib.hid (by simp only [sumTo]; rw [if_neg (fun h => p1 h.1)]; omega)
        go_wp2_with fail
        go_roundw
        case rel => exact ⟨j + 1, by omega, by go_num, by rw [HS.out], hD.alloc hds _⟩
        case measure => simp [intOf]; omega
      ·obtain rfl : j = U.length := by omega
       have hC2 : Below w3.heap.size w3 wr := hC.trans (hD.mono hcs)
       have HR2 := Lib.hid (ownsRow_below HR.out hD)
       have hc2s := hC2.size
       have HSA : Hid (sumTo U t U.length = sumAt U t) := Lib.hid rfl
       obtain ⟨s, hs⟩ : ∃ s, sumTo U t U.length = s := ⟨_, rfl⟩
       rw [hs] at HSA
       obtain ⟨out, ho⟩ : ∃ out, stepsK U k = out := ⟨_, rfl⟩
       rw [ho] at HR2 HSU1 hsl
       rw [hs]
       clear ho hs b1 b2 HR
       by_cases h0 : out.length = 0
       ·have HS : Hid (stepsK U (k + 1) = out ++ [(t, s)]) := Lib.hid (by rw [HSU1.out, HSA.out]; exact addS_first h0)
        obtain ⟨sa, sc, rfl, _, _, _, _⟩ := load_of_row HR2.out
        have g0 : ((out.length : Int) == 0) = true := beq_iff_eq.2 (by omega)
        clear h0
        go_wp2_with (at_builtin; refine load_append rfl _ _ rfl w3.heap.size _ out rfl (HR2.out.alloc _) _ (t, s) rfl (by simp) (by omega) (by first | omega | (simp; omega)) ?_; intro v5 w5 hown5 hg5; have hBn : Below w3.heap.size w3 w5 := grown_own (HR2.out.alloc (.cells #[.int .i64 t, .int .i64 s] 41)) hg5 (hC2.alloc hc2s _) (by first | omega | (simp; omega)) (Nat.le_refl _))
        go_roundw
        case rel => exact ⟨k + 1, by omega, by go_num, hBn, Lib.hid (by rw [HS.out]; exact hown5)⟩
        case measure => simp [intOf]; omega
       ·obtain ⟨sa, sc, rfl, _, _, _, _⟩ := load_of_row HR2.out
        obtain ⟨g6, rfl, hg61, hg62⟩ := row_addr HR2.out (by omega)
        have g0 : ((out.length : Int) == 0) = false := beq_eq_false_iff_ne.2 (by omega)
        have o1 : wr.cell? ⟨g6, (out.length - 1) * 2 + 1, none⟩ = some (.int .i64 (og out (out.length - 1)).2) := by rw [HR2.out.cellAt _ (by omega)]; exact (oflat_at out _ (by omega)).2
        by_cases q : (og out (out.length - 1)).2 = s
        ·have HS : Hid (stepsK U (k + 1) = out) := Lib.hid (by rw [HSU1.out]; exact addS_same (by omega) (by rw [← HSA.out]; exact q))
         rw [q] at o1
         have q1 : (s != s) = false := bne_self_eq_false _
         clear q
         go_wp2_with fail
         go_roundw
         case rel => exact ⟨k + 1, by omega, by go_num, hC2, Lib.hid (by rw [HS.out]; exact HR2.out)⟩
         case measure => simp [intOf]; omega
        ·have HS : Hid (stepsK U (k + 1) = out ++ [(t, s)]) := Lib.hid (by rw [HSU1.out, HSA.out]; exact addS_more (by rw [← HSA.out]; exact q))
         have q1 : ((og out (out.length - 1)).2 != s) = true := bne_iff_ne.2 q
         clear q
         go_wp2_with (at_builtin; refine load_append rfl _ _ rfl w3.heap.size _ out rfl (HR2.out.alloc _) _ (t, s) rfl (by simp) (by omega) (by first | omega | (simp; omega)) ?_; intro v5 w5 hown5 hg5; have hBn : Below w3.heap.size w3 w5 := grown_own (HR2.out.alloc (.cells #[.int .i64 t, .int .i64 s] 41)) hg5 (hC2.alloc hc2s _) (by first | omega | (simp; omega)) (Nat.le_refl _))
         go_roundw
         case rel => exact ⟨k + 1, by omega, by go_num, hBn, Lib.hid (by rw [HS.out]; exact hown5)⟩
         case measure => simp [intOf]; omega
    ·obtain rfl : k = T.length := by omega
     go_wp2_with fail
     go_ret
     exact Lib.hid ⟨_, rfl, ownsRow_base (by rw [← HALL.out]; exact HR.out) hbs3, hB3.trans (hC.mono hbs3)⟩
end Go.Proofs.YtlnodjcmdnmnlaaGreat
namespace Go.Proofs.YtlnodjcmdnmnlaaGreat
open Go.RowKit Go.Shelf
def taskBad (r : TaskR) : Bool := decide (r.length < 1) || decide (10000 < r.length) || decide (min r.crew r.power < 0) || decide (100 < max r.crew r.power)
set_option maxHeartbeats 4000000 in
theorem asks_taskBad (n₀ : Nat) (w : World) : AsksTasks 48 #[] n₀ w taskBad := by
 intro W r hB
 show Calls _ _ #[taskV r] _ _
 unfold taskV
 have key : ∀ b1 b2 b3 b4 : Bool, decide (r.length < 1) = b1 → decide (10000 < r.length) = b2 → decide (min r.crew r.power < 0) = b3 → decide (100 < max r.crew r.power) = b4 → Hid (taskBad r = (b1 || b2 || b3 || b4)) := fun b1 b2 b3 b4 h1 h2 h3 h4 => Lib.hid (by unfold taskBad; rw [h1, h2, h3, h4])
 by_cases a1 : r.length < 1
 ·have H := key _ _ _ _ (decide_eq_true a1) rfl rfl rfl
  clear key
  go_enter Tryz.func48, Tryz.ntmps48
  go_wp2
  go_ret
  exact ⟨ret_bool (by rw [H.out]; simp), (Below.refl _ _).alloc (Nat.le_refl _) _⟩
 ·by_cases a2 : 10000 < r.length
  ·have H := key _ _ _ _ (decide_eq_false a1) (decide_eq_true a2) rfl rfl
   clear key
   go_enter Tryz.func48, Tryz.ntmps48
   go_wp2
   go_ret
   exact ⟨ret_bool (by rw [H.out]; simp), (Below.refl _ _).alloc (Nat.le_refl _) _⟩
  ·by_cases a3 : min r.crew r.power < 0
   ·have H := key _ _ _ _ (decide_eq_false a1) (decide_eq_false a2) (decide_eq_true a3) rfl
    clear key
    have m1 := decide_eq_true a3
    go_enter Tryz.func48, Tryz.ntmps48
    go_wp2
    go_ret
    exact ⟨ret_bool (by rw [H.out]; simp), (Below.refl _ _).alloc (Nat.le_refl _) _⟩
   ·by_cases a4 : 100 < max r.crew r.power
    ·have H := key _ _ _ _ (decide_eq_false a1) (decide_eq_false a2) (decide_eq_false a3) (decide_eq_true a4)
     clear key
     have m1 := decide_eq_false a3
     have m2 := decide_eq_true a4
     go_enter Tryz.func48, Tryz.ntmps48
     go_wp2
     go_ret
     exact ⟨ret_bool (by rw [H.out]; simp), (Below.refl _ _).alloc (Nat.le_refl _) _⟩
    ·have H := key _ _ _ _ (decide_eq_false a1) (decide_eq_false a2) (decide_eq_false a3) (decide_eq_false a4)
     clear key
     have m1 := decide_eq_false a3
     have m2 := decide_eq_false a4
     go_enter Tryz.func48, Tryz.ntmps48
     go_wp2
     go_ret
     exact ⟨ret_bool (by rw [H.out]; simp), (Below.refl _ _).alloc (Nat.le_refl _) _⟩
theorem ent_taskBad (args : Array Value) (w : World) : (callFunc 48 args).run Tryz.prog w = .ok (.enter 48 args) w := enters_of Tryz.func48 (by kernel_rfl) rfl args w
def tasksB (L : List TaskR) : Bool := decide (L.length ≤ 60) && !task_any L taskBad
set_option maxHeartbeats 4000000 in
theorem tasks_any (a : Option Addr) (L : List TaskR) (cap : Nat) (w : World) (hl : L.length ≤ 1000) (hL : Tasks w.heap.size w a L) :
  Calls Tryz.prog 28 #[.slice a L.length cap] w fun e w' => e = .returned (.bool (tasksB L)) ∧ Below w.heap.size w w' := by
 have HL := Lib.hid hL; clear hL
 by_cases p : L.length ≤ 60
 ·have H : Hid (tasksB L = !task_any L taskBad) := Lib.hid (by unfold tasksB; rw [decide_eq_true p]; rfl)
  go_enter Tryz.func28, Tryz.ntmps28
  go_wp2_with (go_at_call 47; (with_reducible refine (task_containsFunc _ L _ _ _ _ taskBad _ ent_taskBad (by omega) (Nat.le_refl _) HL.out (asks_taskBad _ _)).mono ?_); rintro e w2 ⟨rfl, hb2⟩)
  go_ret
  exact ⟨ret_bool H.out.symm, hb2⟩
 ·have H : Hid (tasksB L = false) := Lib.hid (by unfold tasksB; rw [decide_eq_false p]; rfl)
  go_enter Tryz.func28, Tryz.ntmps28
  go_wp2
  go_ret
  exact ⟨ret_bool H.out.symm, Below.refl _ _⟩
theorem tasks_ok {L : List TaskR} (h : tasksB L = true) : L.length ≤ 60 ∧ ∀ k, k < L.length → (1 ≤ (tkg L k).length ∧ (tkg L k).length ≤ 10000) ∧ (0 ≤ (tkg L k).crew ∧ (tkg L k).crew ≤ 100) ∧ 0 ≤ (tkg L k).power ∧ (tkg L k).power ≤ 100 := by
 unfold tasksB at h
 rw [Bool.and_eq_true, decide_eq_true_eq, task_any_eq] at h
 refine ⟨h.1, fun k hk => ?_⟩
 have h2 : L.any taskBad = false := by simpa using h.2
 have h3 := List.any_eq_false.1 h2 (tkg L k) (by rw [tkg_eq L k hk]; exact List.getElem_mem hk)
 unfold taskBad at h3
 simp only [Bool.or_eq_true, decide_eq_true_eq, not_or] at h3
 omega
def workTo (f : TaskR → Int) (L : List TaskR) : Nat → Int
 | 0 => 0
 | k + 1 => workTo f L k + f (tkg L k) * (tkg L k).length
theorem workTo_b {f : TaskR → Int} {L : List TaskR} (h : ∀ k, k < L.length → (1 ≤ (tkg L k).length ∧ (tkg L k).length ≤ 10000) ∧ 0 ≤ f (tkg L k) ∧ f (tkg L k) ≤ 100) : ∀ k, k ≤ L.length → 0 ≤ workTo f L k ∧ workTo f L k ≤ 1000000 * (k : Int) := by
 intro k
 induction k with
 | zero => intro _; exact ⟨Int.le_refl _, Int.le_refl _⟩
 | succ k ih =>
  intro hk
  have h1 := ih (by omega)
  obtain ⟨h2, h3, h4⟩ := h k (by omega)
  have h5 : 0 ≤ f (tkg L k) * (tkg L k).length := Int.mul_nonneg h3 (by omega)
  have h6 : f (tkg L k) * (tkg L k).length ≤ 100 * 10000 := Int.mul_le_mul h4 h2.2 (by omega) (by omega)
  simp only [workTo]
  omega
set_option maxRecDepth 100000 in
set_option maxHeartbeats 8000000 in
theorem energy_any (a : Option Addr) (L : List TaskR) (cap : Nat) (w : World) (hl : L.length ≤ 1000) (hL : Tasks w.heap.size w a L) :
  Calls Tryz.prog 17 #[.slice a L.length cap] w fun e w' => Hid (e = .returned (if tasksB L then .tuple #[.int .i64 (workTo TaskR.crew L L.length), .int .i64 (workTo TaskR.power L L.length), .int .i64 0] else .tuple #[.int .i64 0, .int .i64 0, .int .i64 1]) ∧ Below w.heap.size w w') := by
 have HL := Lib.hid hL; clear hL
 cases ht : tasksB L
 ·have HT := Lib.hid ht; clear ht
  go_enter Tryz.func17, Tryz.ntmps17
  go_wp2_with (go_at_call 28; (with_reducible refine (tasks_any _ L _ _ (by omega) HL.out).mono ?_); rintro e w1 ⟨rfl, hb1⟩; rw [HT.out])
  go_ret3
  exact Lib.hid ⟨by simp, hb1⟩
 ·obtain ⟨h60, hok⟩ := tasks_ok ht
  have HOK := Lib.hid hok
  have HW1 : Hid (∀ k, k ≤ L.length → 0 ≤ workTo TaskR.crew L k ∧ workTo TaskR.crew L k ≤ 1000000 * (k : Int)) := Lib.hid (workTo_b fun k hk => ⟨(hok k hk).1, (hok k hk).2.1⟩)
  have HW2 : Hid (∀ k, k ≤ L.length → 0 ≤ workTo TaskR.power L k ∧ workTo TaskR.power L k ≤ 1000000 * (k : Int)) := Lib.hid (workTo_b fun k hk => ⟨(hok k hk).1, (hok k hk).2.2⟩)
  have HT := Lib.hid ht; clear ht hok
  go_enter Tryz.func17, Tryz.ntmps17
  go_wp2_with (go_at_call 28; (with_reducible refine (tasks_any _ L _ _ (by omega) HL.out).mono ?_); rintro e w1 ⟨rfl, hb1⟩; rw [HT.out])
  go_loopw [5, 6, 14] (fun c p i wr => ∃ k : Nat, k ≤ L.length ∧ i = .int .i64 k ∧ c = .int .i64 (workTo TaskR.crew L k) ∧ p = .int .i64 (workTo TaskR.power L k) ∧ Below w.heap.size w wr) (fun _ _ i _ => L.length - (intOf i).toNat)
  case atStart => exact ⟨0, Nat.zero_le _, rfl, rfl, rfl, hb1⟩
  case round =>
   clear hb1
   obtain ⟨k, hk, rfl, rfl, rfl, hB⟩ := hrel
   have hbs := hB.size
   by_cases hlt : k < L.length
   ·obtain ⟨b, off, rfl, hb, hc⟩ := HL.out (by omega)
    obtain ⟨c0, c1, c2, c3, c4⟩ := hc k hlt
    have d0 := (hB.cell (p := ⟨b, off + k * 5, none⟩) hb).trans c0
    have d1 := (hB.cell (p := ⟨b, off + k * 5 + 1, none⟩) hb).trans c1
    have d2 := (hB.cell (p := ⟨b, off + k * 5 + 2, none⟩) hb).trans c2
    have d3 := (hB.cell (p := ⟨b, off + k * 5 + 3, none⟩) hb).trans c3
    have d4 := (hB.cell (p := ⟨b, off + k * 5 + 4, none⟩) hb).trans c4
    have W1 := Lib.hid (HW1.out (k + 1) (by omega))
    have W2 := Lib.hid (HW2.out (k + 1) (by omega))
    have HS1 : Hid (workTo TaskR.crew L (k + 1) = workTo TaskR.crew L k + (tkg L k).crew * (tkg L k).length) := Lib.hid rfl
    have HS2 : Hid (workTo TaskR.power L (k + 1) = workTo TaskR.power L k + (tkg L k).power * (tkg L k).length) := Lib.hid rfl
    obtain ⟨⟨l1, l2⟩, ⟨l3, l4⟩, l5, l6⟩ := HOK.out k hlt
    have m1 : 0 ≤ (tkg L k).crew * (tkg L k).length ∧ (tkg L k).crew * (tkg L k).length ≤ 1000000 := ⟨Int.mul_nonneg l3 (by omega), by have := Int.mul_le_mul l4 l2 (by omega) (by omega); omega⟩
    have m2 : 0 ≤ (tkg L k).power * (tkg L k).length ∧ (tkg L k).power * (tkg L k).length ≤ 1000000 := ⟨Int.mul_nonneg l5 (by omega), by have := Int.mul_le_mul l6 l2 (by omega) (by omega); omega⟩
    obtain ⟨b1, b2⟩ := HW1.out k hk
    obtain ⟨b3, b4⟩ := HW2.out k hk
    obtain ⟨m3, m4⟩ := m1
    obtain ⟨m5, m6⟩ := m2
    clear hc c0 c1 c2 c3 c4
    generalize hx : (tkg L k).crew * (tkg L k).length = x at *
    generalize hy : (tkg L k).power * (tkg L k).length = y at *
    have n1 : IntKind.i64.wrap ((tkg L k).crew * (tkg L k).length) = x := by rw [hx]; exact IntWalk.i64_in _ (by omega)
    have n2 : IntKind.i64.wrap ((tkg L k).power * (tkg L k).length) = y := by rw [hy]; exact IntWalk.i64_in _ (by omega)
    go_wp2_with fail
    go_roundw
    case rel => exact ⟨k + 1, by omega, by go_num, by rw [HS1.out], by rw [HS2.out], hB.alloc hbs _⟩
    case measure => simp [intOf]; omega
   ·obtain rfl : k = L.length := by omega
    go_wp2_with fail
    go_ret3
    exact Lib.hid ⟨by simp, hB⟩
end Go.Proofs.YtlnodjcmdnmnlaaGreat
