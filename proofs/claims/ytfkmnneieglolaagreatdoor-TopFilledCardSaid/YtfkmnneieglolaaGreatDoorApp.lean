/-
  THE WALKS of slices.IndexFunc, ContainsFunc at numbers and bricks; Equal, Clone at numbers; Clone at bricks; append of one element.
-/
import Derived.Test.YtfkmnneieglolaaGreatDoorMem
namespace Go.Proofs.YtfkmnneieglolaaGreatDoor
open Go.RowKit Go.Shelf

set_option maxHeartbeats 2000000 in
theorem num_indexFunc (a : Option Addr) (L : List (Int)) (cap n₀ g : Nat) (cb : Array Value) (p : Int → Bool) (w : World) (eg : ∀ args w, (callFunc g args).run Tryz.prog w = .ok (.enter g args) w)
    (hl : L.length ≤ 1100) (hn₀ : n₀ ≤ w.heap.size) (hI : Nums n₀ w a L) (hp : AsksN g cb n₀ w p) :
    Calls Tryz.prog 53 #[.slice a L.length cap, .func (.func g) #[] cb] w fun e w' => e = .returned (.int .i64 (num_first L p)) ∧ Below w.heap.size w w' := by
  have HI := Lib.hid hI; clear hI
  have HP := Lib.hid hp; clear hp
  go_enter Tryz.func53, Tryz.ntmps53
  go_wp2
  go_loopw [8] (fun i wr => ∃ k : Nat, k ≤ L.length ∧ i = .int .i64 k ∧ Below w.heap.size w wr ∧ Hid (∀ j, j < k → p (ig L j) = false)) (fun i _ => L.length - (intOf i).toNat)
  case atStart => exact ⟨0, Nat.zero_le _, rfl, Below.refl _ _, Lib.hid (fun _ h => absurd h (Nat.not_lt_zero _))⟩
  case round =>
    obtain ⟨k, hk, rfl, hB, HA⟩ := hrel
    by_cases hlt : k < L.length
    · obtain ⟨b, off, rfl, hb, hc⟩ := HI.out (by omega)
      have c0 := hc k hlt
      have d0 := (hB.cell (p := ⟨b, off + k, none⟩) (show b < w.heap.size by omega)).trans c0
      clear c0 hc
      have HC := Lib.hid (show Calls Tryz.prog g (#[.int .i64 (ig L k)] ++ cb) wr _ from HP.out wr (ig L k) (hB.mono hn₀))
      obtain ⟨bv, hbv⟩ : ∃ bv, p (ig L k) = bv := ⟨_, rfl⟩
      rw [hbv] at HC
      cases bv
      · have HB : Hid (∀ j, j < k + 1 → p (ig L j) = false) := Lib.hid fun j hj => by
          rcases Nat.lt_or_ge j k with l | l
          · exact HA.out j l
          · obtain rfl : j = k := by omega
            exact hbv
        clear hbv
        go_wp2_with ((with_reducible refine HC.out.mono ?_); rintro e w1 ⟨rfl, hb1⟩)
        go_roundw
        case rel => exact ⟨k + 1, by omega, by go_num, hB.trans (hb1.mono hB.size), HB⟩
        case measure => simp [intOf]; omega
      · have H := Lib.hid (num_first_hit L p k hlt hbv HA.out)
        clear hbv
        go_wp2_with ((with_reducible refine HC.out.mono ?_); rintro e w1 ⟨rfl, hb1⟩)
        go_ret
        exact ⟨ret_int H.out.symm, hB.trans (hb1.mono hB.size)⟩
    · obtain rfl : k = L.length := by omega
      have H := Lib.hid (num_first_miss L p HA.out)
      go_wp2
      go_ret
      exact ⟨ret_int H.out.symm, hB⟩

set_option maxHeartbeats 1000000 in
theorem num_containsFunc (a : Option Addr) (L : List (Int)) (cap n₀ g : Nat) (cb : Array Value) (p : Int → Bool) (w : World) (eg : ∀ args w, (callFunc g args).run Tryz.prog w = .ok (.enter g args) w)
    (hl : L.length ≤ 1100) (hn₀ : n₀ ≤ w.heap.size) (hI : Nums n₀ w a L) (hp : AsksN g cb n₀ w p) :
    Calls Tryz.prog 24 #[.slice a L.length cap, .func (.func g) #[] cb] w fun e w' => e = .returned (.bool (num_any L p)) ∧ Below w.heap.size w w' := by
  have HC := Lib.hid (num_indexFunc a L cap n₀ g cb p w eg hl hn₀ hI hp)
  clear hI hp eg
  go_enter Tryz.func24, Tryz.ntmps24
  go_wp2_with (go_at_call 53; (with_reducible refine HC.out.mono ?_); rintro e w1 ⟨rfl, hb1⟩)
  go_ret
  exact ⟨rfl, hb1⟩

set_option maxHeartbeats 2000000 in
theorem brick_indexFunc (a : Option Addr) (L : List (BrickR)) (cap n₀ g : Nat) (cb : Array Value) (p : BrickR → Bool) (w : World) (eg : ∀ args w, (callFunc g args).run Tryz.prog w = .ok (.enter g args) w)
    (hl : L.length ≤ 1100) (hn₀ : n₀ ≤ w.heap.size) (hI : Bricks n₀ w a L) (hp : AsksK g cb n₀ w p) :
    Calls Tryz.prog 85 #[.slice a L.length cap, .func (.func g) #[] cb] w fun e w' => e = .returned (.int .i64 (brick_first L p)) ∧ Below w.heap.size w w' := by
  have HI := Lib.hid hI; clear hI
  have HP := Lib.hid hp; clear hp
  go_enter Tryz.func85, Tryz.ntmps85
  go_wp2
  go_loopw [8] (fun i wr => ∃ k : Nat, k ≤ L.length ∧ i = .int .i64 k ∧ Below w.heap.size w wr ∧ Hid (∀ j, j < k → p (bg L j) = false)) (fun i _ => L.length - (intOf i).toNat)
  case atStart => exact ⟨0, Nat.zero_le _, rfl, Below.refl _ _, Lib.hid (fun _ h => absurd h (Nat.not_lt_zero _))⟩
  case round =>
    obtain ⟨k, hk, rfl, hB, HA⟩ := hrel
    by_cases hlt : k < L.length
    · obtain ⟨b, off, rfl, hb, hc⟩ := HI.out (by omega)
      obtain ⟨c0, c1, c2⟩ := hc k hlt
      have d0 := (hB.cell (p := ⟨b, off + k * 3, none⟩) (show b < w.heap.size by omega)).trans c0
      have d1 := (hB.cell (p := ⟨b, off + k * 3 + 1, none⟩) (show b < w.heap.size by omega)).trans c1
      have d2 := (hB.cell (p := ⟨b, off + k * 3 + 2, none⟩) (show b < w.heap.size by omega)).trans c2
      clear c0 c1 c2 hc
      have HC := Lib.hid (show Calls Tryz.prog g (#[.agg #[.string (bg L k).name, .int .i64 (bg L k).weight, .int .i64 (bg L k).count]] ++ cb) wr _ from HP.out wr (bg L k) (hB.mono hn₀))
      obtain ⟨bv, hbv⟩ : ∃ bv, p (bg L k) = bv := ⟨_, rfl⟩
      rw [hbv] at HC
      cases bv
      · have HB : Hid (∀ j, j < k + 1 → p (bg L j) = false) := Lib.hid fun j hj => by
          rcases Nat.lt_or_ge j k with l | l
          · exact HA.out j l
          · obtain rfl : j = k := by omega
            exact hbv
        clear hbv
        go_wp2_with ((with_reducible refine HC.out.mono ?_); rintro e w1 ⟨rfl, hb1⟩)
        go_roundw
        case rel => exact ⟨k + 1, by omega, by go_num, hB.trans (hb1.mono hB.size), HB⟩
        case measure => simp [intOf]; omega
      · have H := Lib.hid (brick_first_hit L p k hlt hbv HA.out)
        clear hbv
        go_wp2_with ((with_reducible refine HC.out.mono ?_); rintro e w1 ⟨rfl, hb1⟩)
        go_ret
        exact ⟨ret_int H.out.symm, hB.trans (hb1.mono hB.size)⟩
    · obtain rfl : k = L.length := by omega
      have H := Lib.hid (brick_first_miss L p HA.out)
      go_wp2
      go_ret
      exact ⟨ret_int H.out.symm, hB⟩

set_option maxHeartbeats 1000000 in
theorem brick_containsFunc (a : Option Addr) (L : List (BrickR)) (cap n₀ g : Nat) (cb : Array Value) (p : BrickR → Bool) (w : World) (eg : ∀ args w, (callFunc g args).run Tryz.prog w = .ok (.enter g args) w)
    (hl : L.length ≤ 1100) (hn₀ : n₀ ≤ w.heap.size) (hI : Bricks n₀ w a L) (hp : AsksK g cb n₀ w p) :
    Calls Tryz.prog 54 #[.slice a L.length cap, .func (.func g) #[] cb] w fun e w' => e = .returned (.bool (brick_any L p)) ∧ Below w.heap.size w w' := by
  have HC := Lib.hid (brick_indexFunc a L cap n₀ g cb p w eg hl hn₀ hI hp)
  clear hI hp eg
  go_enter Tryz.func54, Tryz.ntmps54
  go_wp2_with (go_at_call 85; (with_reducible refine HC.out.mono ?_); rintro e w1 ⟨rfl, hb1⟩)
  go_ret
  exact ⟨rfl, hb1⟩

theorem num_any_mem (L : List (Int)) (x : Int) : num_any L (fun y => decide (y = x)) = decide (x ∈ L) := by
  rw [num_any_eq, Bool.eq_iff_iff, List.any_eq_true, decide_eq_true_eq]
  constructor
  · rintro ⟨y, hy, e⟩
    rw [← of_decide_eq_true e]; exact hy
  · exact fun h => ⟨x, h, decide_eq_true rfl⟩


set_option maxHeartbeats 4000000 in
theorem num_equal (a1 a2 : Option Addr) (F1 F2 : List (Int)) (cap1 cap2 : Nat) (w : World) (hl : F1.length ≤ 1100) (h1 : Nums w.heap.size w a1 F1) (h2 : Nums w.heap.size w a2 F2) (hl2 : F2.length ≤ 1100) :
    Calls Tryz.prog 16 #[.slice a1 F1.length cap1, .slice a2 F2.length cap2] w fun e w' => e = .returned (.bool (decide (F1 = F2))) ∧ Below w.heap.size w w' := by
  have H1 := Lib.hid h1
  have H2 := Lib.hid h2
  clear h1 h2
  by_cases hle : F1.length = F2.length
  · have hn : ((F1.length : Int) != (F2.length : Int)) = false := by rw [bne_eq_false_iff_eq]; omega
    have HL := Lib.hid hle; clear hle
    go_enter Tryz.func16, Tryz.ntmps16
    go_wp2
    go_loopw [13] (fun i wr => ∃ k : Nat, k ≤ F1.length ∧ i = .int .i64 k ∧ Below w.heap.size w wr ∧ Hid (∀ j, j < k → ig F1 j = ig F2 j)) (fun i _ => F1.length - (intOf i).toNat)
    case atStart => exact ⟨0, Nat.zero_le _, rfl, Below.refl _ _, Lib.hid (fun _ h => absurd h (Nat.not_lt_zero _))⟩
    case round =>
      obtain ⟨k, hk, rfl, hB, HA⟩ := hrel
      by_cases hlt : k < F1.length
      · have hlt2 : k < F2.length := by have := HL.out; omega
        obtain ⟨b, off, rfl, hb, hcx⟩ := H1.out (by omega)
        obtain ⟨b', off', rfl, hb', hcx'⟩ := H2.out (by omega)
        have c0 := hcx k hlt
        have e0 := hcx' k hlt2
        have d0 := (hB.cell (p := ⟨b, off + k, none⟩) hb).trans c0
        have f0 := (hB.cell (p := ⟨b', off' + k, none⟩) hb').trans e0
        clear c0 e0 hcx hcx'
        by_cases q0 : (ig F1 k) = (ig F2 k)
        · have HB : Hid (∀ j, j < k + 1 → ig F1 j = ig F2 j) := Lib.hid fun j hj => by
            rcases Nat.lt_or_ge j k with l | l
            · exact HA.out j l
            · obtain rfl : j = k := by omega
              exact q0
          have g0 : ((ig F1 k) == (ig F2 k)) = true := beq_iff_eq.2 q0
          have h0 : ((ig F1 k) != (ig F2 k)) = false := bne_eq_false_iff_eq.2 q0
          clear q0
          go_wp2_with fail
          go_quiet (fail)
          go_wp2
          go_roundw
          case rel => exact ⟨k + 1, by omega, by go_num, below_drewN hB _, HB⟩
          case measure => simp [intOf]; omega
        · have H : Hid (decide (F1 = F2) = false) := Lib.hid (decide_eq_false (fun e => q0 (by rw [e])))
          have g0 : ((ig F1 k) == (ig F2 k)) = false := beq_eq_false_iff_ne.2 q0
          have h0 : ((ig F1 k) != (ig F2 k)) = true := bne_iff_ne.2 q0
          clear q0
          go_wp2_with fail
          go_quiet (fail)
          go_wp2
          go_ret
          exact ⟨congrArg (fun b => Ending.returned (.bool b)) H.out.symm, below_drewN hB _⟩
      · obtain rfl : k = F1.length := by omega
        have H : Hid (decide (F1 = F2) = true) := Lib.hid (decide_eq_true (ig_ext F1 F2 HL.out HA.out))
        go_wp2
        go_ret
        exact ⟨congrArg (fun b => Ending.returned (.bool b)) H.out.symm, hB⟩
  · have hn : ((F1.length : Int) != (F2.length : Int)) = true := bne_iff_ne.2 (by omega)
    have H : Hid (decide (F1 = F2) = false) := Lib.hid (decide_eq_false (fun e => hle (by rw [e])))
    clear hle
    go_enter Tryz.func16, Tryz.ntmps16
    go_wp2
    go_ret
    exact ⟨congrArg (fun b => Ending.returned (.bool b)) H.out.symm, Below.refl _ _⟩

theorem num_info : (Tryz.prog.info? 3).map (fun i => (i.zero, i.size, i.bytes)) = some (some (.int .i64 0), 1, 8) := by kernel_rfl

set_option maxHeartbeats 2000000 in
theorem num_clone (a : Option Addr) (L : List (Int)) (cap : Nat) (w : World) (hlen : L.length ≤ 1100) (hnil : a = none → cap = 0) (hI : Nums w.heap.size w a L) :
    Calls Tryz.prog 26 #[.slice a L.length cap] w fun e w' => Hid (∃ v, e = .returned v ∧ w'.ownsRow w.heap.size 3 1 v L.length (nflat L) ∧ Below w.heap.size w w') := by
  obtain ⟨i0, hi, hz0, hz1, hz2⟩ := info_parts num_info
  cases a with
  | none =>
    have h0 : L.length = 0 := by
      rcases Nat.eq_zero_or_pos L.length with h | h
      · exact h
      · obtain ⟨b, off, e, _⟩ := hI h
        cases e
    obtain rfl : L = [] := List.eq_nil_of_length_eq_zero h0
    obtain rfl := hnil rfl
    clear hI h0 hnil
    have hne := fun (w : World) => Lib.run_eql_slice_nil (P := Tryz.prog) w 22 3 none 0 0 0 0 Tryz.underlying22
    go_enter Tryz.func26, Tryz.ntmps26
    go_wp2
    go_ret
    exact Lib.hid ⟨_, rfl, World.ownsRow_nil _ _ _ _, Below.refl _ _⟩
  | some ad =>
    have HI := Lib.hid hI; clear hI
    have hne := fun (w : World) => Lib.run_eql_slice_nil (P := Tryz.prog) w 22 3 (some ad) L.length cap 0 0 Tryz.underlying22
    have hnews : ∀ j u, (nflat L)[j]? = some u → (w.alloc (.cells #[] 3)).cell? (ad.add j) = some u := fun j u hj => by
      have hlt : j < L.length := by
        rw [← num_len]
        exact (List.getElem?_eq_some_iff.1 hj).1
      obtain ⟨b, off, e, _⟩ := HI.out (by omega)
      cases e
      have h1 := num_cells HI.out j u hj
      rw [Go.WideShapes.add_plain] at h1 ⊢
      exact (World.cell?_alloc_lt _ _ _ (World.block_lt_of_cell? w _ h1)).trans h1
    have HN := Lib.hid hnews; clear hnews
    go_enter Tryz.func26, Tryz.ntmps26
    go_wp2_with (at_builtin; refine wpList_append_own _ rfl _ _ 22 rfl w.heap.size 3 i0 (.int .i64 0) 1 8 Tryz.underlying22 hi hz0 hz1 hz2 rfl (by decide) _ 0 [] rfl (World.ownsRow_lit w #[] 0 (Nat.le_refl _) (by unfold maxLen; omega) rfl) ad L.length cap (nflat L) rfl (by rw [num_len, Nat.mul_one]) HN.out (num_one L) (by unfold maxLen; omega) (by omega) (by simp) ?_; intro v' w1 hown1 hgrow1 _)
    go_ret
    rw [Nat.zero_add, List.nil_append] at hown1
    exact Lib.hid ⟨_, rfl, hown1, ((Below.refl _ w).alloc (Nat.le_refl _) _).grown hgrow1 (by simp) (fun k e => by cases e; exact Nat.le_refl _)⟩

theorem brick_info : (Tryz.prog.info? 61).map (fun i => (i.zero, i.size, i.bytes)) = some (some (.agg #[.string ⟨#[]⟩, .int .i64 0, .int .i64 0]), 3, 32) := by kernel_rfl

set_option maxHeartbeats 2000000 in
theorem brick_clone (a : Option Addr) (L : List (BrickR)) (cap : Nat) (w : World) (hlen : L.length ≤ 1100) (hnil : a = none → cap = 0) (hI : Bricks w.heap.size w a L) :
    Calls Tryz.prog 28 #[.slice a L.length cap] w fun e w' => Hid (∃ v, e = .returned v ∧ w'.ownsRow w.heap.size 61 3 v L.length (kflat L) ∧ Below w.heap.size w w') := by
  obtain ⟨i0, hi, hz0, hz1, hz2⟩ := info_parts brick_info
  cases a with
  | none =>
    have h0 : L.length = 0 := by
      rcases Nat.eq_zero_or_pos L.length with h | h
      · exact h
      · obtain ⟨b, off, e, _⟩ := hI h
        cases e
    obtain rfl : L = [] := List.eq_nil_of_length_eq_zero h0
    obtain rfl := hnil rfl
    clear hI h0 hnil
    have hne := fun (w : World) => Lib.run_eql_slice_nil (P := Tryz.prog) w 24 61 none 0 0 0 0 Tryz.underlying24
    go_enter Tryz.func28, Tryz.ntmps28
    go_wp2
    go_ret
    exact Lib.hid ⟨_, rfl, World.ownsRow_nil _ _ _ _, Below.refl _ _⟩
  | some ad =>
    have HI := Lib.hid hI; clear hI
    have hne := fun (w : World) => Lib.run_eql_slice_nil (P := Tryz.prog) w 24 61 (some ad) L.length cap 0 0 Tryz.underlying24
    have hnews : ∀ j u, (kflat L)[j]? = some u → (w.alloc (.cells #[] 61)).cell? (ad.add j) = some u := fun j u hj => by
      have hlt : j < L.length * 3 := by
        rw [← brick_len]
        exact (List.getElem?_eq_some_iff.1 hj).1
      obtain ⟨b, off, e, _⟩ := HI.out (by omega)
      cases e
      have h1 := brick_cells HI.out j u hj
      rw [Go.WideShapes.add_plain] at h1 ⊢
      exact (World.cell?_alloc_lt _ _ _ (World.block_lt_of_cell? w _ h1)).trans h1
    have HN := Lib.hid hnews; clear hnews
    go_enter Tryz.func28, Tryz.ntmps28
    go_wp2_with (at_builtin; refine wpList_append_own _ rfl _ _ 24 rfl w.heap.size 61 i0 (.agg #[.string ⟨#[]⟩, .int .i64 0, .int .i64 0]) 3 32 Tryz.underlying24 hi hz0 hz1 hz2 rfl (by decide) _ 0 [] rfl (World.ownsRow_lit w #[] 0 (Nat.le_refl _) (by unfold maxLen; omega) rfl) ad L.length cap (kflat L) rfl (brick_len L) HN.out (brick_one L) (by unfold maxLen; omega) (by omega) (by simp) ?_; intro v' w1 hown1 hgrow1 _)
    go_ret
    rw [Nat.zero_add, List.nil_append] at hown1
    exact Lib.hid ⟨_, rfl, hown1, ((Below.refl _ w).alloc (Nat.le_refl _) _).grown hgrow1 (by simp) (fun k e => by cases e; exact Nat.le_refl _)⟩

theorem num_append {ops : Array Oper} {rest : List Oper} {o : Oper} {a : Act} {w : World} {Q : Exit → Act → World → Prop} (hgd : o.guard = none) (s x : Operand)
    (ho : o.op = .call { callee := .builtin .append, args := #[s, x], argTypes := #[22, 22] })
    (base : Nat) (v : Value) (L : List (Int)) (hs : a.eval s = v) (hown : w.ownsRow base 3 1 v L.length (nflat L))
    (bl : Nat) (y : Int) (hx : a.eval x = .slice (some ⟨bl, 0, none⟩) 1 1) (hc : w.cell? ⟨bl, 0, none⟩ = some (.int .i64 y)) (hl : L.length ≤ 1000000) (hbase : base ≤ w.heap.size)
    (h : ∀ v' w', w'.ownsRow base 3 1 v' (L ++ [y]).length (nflat (L ++ [y])) → w.grownBy w' v.ownBlock → wpList Tryz.prog ops Q rest (a.put o.dst v') w') : wpList Tryz.prog ops Q (o :: rest) a w := by
  obtain ⟨i0, hi, hz0, hz1, hz2⟩ := info_parts num_info
  refine wpList_append_own _ hgd s x 22 ho base 3 i0 _ 1 8 Tryz.underlying22 hi hz0 hz1 hz2 rfl (by decide) v L.length (nflat L) hs hown ⟨bl, 0, none⟩ 1 1 [.int .i64 y] hx rfl ?_ (by simp [Value.oneCell']) (by unfold maxLen; omega) (by omega) hbase ?_
  · have c0 := hc
    intro j u hj
    rw [Go.WideShapes.add_plain, Nat.zero_add]
    match j, hj with
    | 0, hj => simp at hj; subst hj; exact c0
  · intro v' w' h1 h2 _
    refine h v' w' ?_ h2
    rw [nflat_snoc, List.length_append]
    exact h1
end Go.Proofs.YtfkmnneieglolaaGreatDoor
