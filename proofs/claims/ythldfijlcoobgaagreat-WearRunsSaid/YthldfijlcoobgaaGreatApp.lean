/-
  THE WALKS of slices.IndexFunc, ContainsFunc at numbers and spans; Equal at loads; appends of one element.
-/
import Derived.Test.YthldfijlcoobgaaGreatMem
namespace Go.Proofs.YthldfijlcoobgaaGreat
open Go.RowKit Go.Shelf

set_option maxHeartbeats 2000000 in
theorem num_indexFunc (a : Option Addr) (L : List (Int)) (cap n₀ g : Nat) (cb : Array Value) (p : Int → Bool) (w : World) (eg : ∀ args w, (callFunc g args).run Tryz.prog w = .ok (.enter g args) w)
    (hl : L.length ≤ 1100) (hn₀ : n₀ ≤ w.heap.size) (hI : Nums n₀ w a L) (hp : AsksN g cb n₀ w p) :
    Calls Tryz.prog 69 #[.slice a L.length cap, .func (.func g) #[] cb] w fun e w' => e = .returned (.int .i64 (num_first L p)) ∧ Below w.heap.size w w' := by
  have HI := Lib.hid hI; clear hI
  have HP := Lib.hid hp; clear hp
  go_enter Tryz.func69, Tryz.ntmps69
  go_wp2
  go_loopw [8] (fun i wr => ∃ k : Nat, k ≤ L.length ∧ i = .int .i64 k ∧ Below w.heap.size w wr ∧ Hid (∀ j, j < k → p (ig L j) = false)) (fun i _ => L.length - (intOf i).toNat)
  case atStart => exact ⟨0, Nat.zero_le _, rfl, Below.refl _ _, Lib.hid (fun _ h => absurd h (Nat.not_lt_zero _))⟩
  case round =>
    obtain ⟨k, hk, rfl, hB, HA⟩ := hrel
    by_cases hlt : k < L.length
    · obtain ⟨b, off, rfl, hb, hc⟩ := HI.out (by omega)
      have c0 := hc k hlt
      have d0 := (hB.cell (p := ⟨b, off + k, none⟩) (show b < w.heap.size by omega)).trans c0
      clear c0 hc
      have HC := Lib.hid (show Calls Tryz.prog g (#[.int .i64 (ig L k)] ++ cb) wr _ from HP.out wr (ig L k) (hB.mono hn₀))
      obtain ⟨bv, hbv⟩ : ∃ bv, p (ig L k) = bv := ⟨_, rfl⟩
      rw [hbv] at HC
      cases bv
      · have HB : Hid (∀ j, j < k + 1 → p (ig L j) = false) := Lib.hid fun j hj => by
          rcases Nat.lt_or_ge j k with l | l
          · exact HA.out j l
          · obtain rfl : j = k := by omega
            exact hbv
        clear hbv
        go_wp2_with ((with_reducible refine HC.out.mono ?_); rintro e w1 ⟨rfl, hb1⟩)
        go_roundw
        case rel => exact ⟨k + 1, by omega, by go_num, hB.trans (hb1.mono hB.size), HB⟩
        case measure => simp [intOf]; omega
      · have H := Lib.hid (num_first_hit L p k hlt hbv HA.out)
        clear hbv
        go_wp2_with ((with_reducible refine HC.out.mono ?_); rintro e w1 ⟨rfl, hb1⟩)
        go_ret
        exact ⟨ret_int H.out.symm, hB.trans (hb1.mono hB.size)⟩
    · obtain rfl : k = L.length := by omega
      have H := Lib.hid (num_first_miss L p HA.out)
      go_wp2
      go_ret
      exact ⟨ret_int H.out.symm, hB⟩

set_option maxHeartbeats 1000000 in
theorem num_containsFunc (a : Option Addr) (L : List (Int)) (cap n₀ g : Nat) (cb : Array Value) (p : Int → Bool) (w : World) (eg : ∀ args w, (callFunc g args).run Tryz.prog w = .ok (.enter g args) w)
    (hl : L.length ≤ 1100) (hn₀ : n₀ ≤ w.heap.size) (hI : Nums n₀ w a L) (hp : AsksN g cb n₀ w p) :
    Calls Tryz.prog 43 #[.slice a L.length cap, .func (.func g) #[] cb] w fun e w' => e = .returned (.bool (num_any L p)) ∧ Below w.heap.size w w' := by
  have HC := Lib.hid (num_indexFunc a L cap n₀ g cb p w eg hl hn₀ hI hp)
  clear hI hp eg
  go_enter Tryz.func43, Tryz.ntmps43
  go_wp2_with (go_at_call 69; (with_reducible refine HC.out.mono ?_); rintro e w1 ⟨rfl, hb1⟩)
  go_ret
  exact ⟨rfl, hb1⟩

set_option maxHeartbeats 2000000 in
theorem span_indexFunc (a : Option Addr) (L : List (Int × Int)) (cap n₀ g : Nat) (cb : Array Value) (p : Int × Int → Bool) (w : World) (eg : ∀ args w, (callFunc g args).run Tryz.prog w = .ok (.enter g args) w)
    (hl : L.length ≤ 1100) (hn₀ : n₀ ≤ w.heap.size) (hI : Spans n₀ w a L) (hp : AsksS g cb n₀ w p) :
    Calls Tryz.prog 45 #[.slice a L.length cap, .func (.func g) #[] cb] w fun e w' => e = .returned (.int .i64 (span_first L p)) ∧ Below w.heap.size w w' := by
  have HI := Lib.hid hI; clear hI
  have HP := Lib.hid hp; clear hp
  go_enter Tryz.func45, Tryz.ntmps45
  go_wp2
  go_loopw [8] (fun i wr => ∃ k : Nat, k ≤ L.length ∧ i = .int .i64 k ∧ Below w.heap.size w wr ∧ Hid (∀ j, j < k → p (sg L j) = false)) (fun i _ => L.length - (intOf i).toNat)
  case atStart => exact ⟨0, Nat.zero_le _, rfl, Below.refl _ _, Lib.hid (fun _ h => absurd h (Nat.not_lt_zero _))⟩
  case round =>
    obtain ⟨k, hk, rfl, hB, HA⟩ := hrel
    by_cases hlt : k < L.length
    · obtain ⟨b, off, rfl, hb, hc⟩ := HI.out (by omega)
      obtain ⟨c0, c1⟩ := hc k hlt
      have d0 := (hB.cell (p := ⟨b, off + k * 2, none⟩) (show b < w.heap.size by omega)).trans c0
      have d1 := (hB.cell (p := ⟨b, off + k * 2 + 1, none⟩) (show b < w.heap.size by omega)).trans c1
      clear c0 c1 hc
      have HC := Lib.hid (show Calls Tryz.prog g (#[.agg #[.int .i64 (sg L k).1, .int .i64 (sg L k).2]] ++ cb) wr _ from HP.out wr (sg L k) (hB.mono hn₀))
      obtain ⟨bv, hbv⟩ : ∃ bv, p (sg L k) = bv := ⟨_, rfl⟩
      rw [hbv] at HC
      cases bv
      · have HB : Hid (∀ j, j < k + 1 → p (sg L j) = false) := Lib.hid fun j hj => by
          rcases Nat.lt_or_ge j k with l | l
          · exact HA.out j l
          · obtain rfl : j = k := by omega
            exact hbv
        clear hbv
        go_wp2_with ((with_reducible refine HC.out.mono ?_); rintro e w1 ⟨rfl, hb1⟩)
        go_roundw
        case rel => exact ⟨k + 1, by omega, by go_num, hB.trans (hb1.mono hB.size), HB⟩
        case measure => simp [intOf]; omega
      · have H := Lib.hid (span_first_hit L p k hlt hbv HA.out)
        clear hbv
        go_wp2_with ((with_reducible refine HC.out.mono ?_); rintro e w1 ⟨rfl, hb1⟩)
        go_ret
        exact ⟨ret_int H.out.symm, hB.trans (hb1.mono hB.size)⟩
    · obtain rfl : k = L.length := by omega
      have H := Lib.hid (span_first_miss L p HA.out)
      go_wp2
      go_ret
      exact ⟨ret_int H.out.symm, hB⟩

set_option maxHeartbeats 1000000 in
theorem span_containsFunc (a : Option Addr) (L : List (Int × Int)) (cap n₀ g : Nat) (cb : Array Value) (p : Int × Int → Bool) (w : World) (eg : ∀ args w, (callFunc g args).run Tryz.prog w = .ok (.enter g args) w)
    (hl : L.length ≤ 1100) (hn₀ : n₀ ≤ w.heap.size) (hI : Spans n₀ w a L) (hp : AsksS g cb n₀ w p) :
    Calls Tryz.prog 29 #[.slice a L.length cap, .func (.func g) #[] cb] w fun e w' => e = .returned (.bool (span_any L p)) ∧ Below w.heap.size w w' := by
  have HC := Lib.hid (span_indexFunc a L cap n₀ g cb p w eg hl hn₀ hI hp)
  clear hI hp eg
  go_enter Tryz.func29, Tryz.ntmps29
  go_wp2_with (go_at_call 45; (with_reducible refine HC.out.mono ?_); rintro e w1 ⟨rfl, hb1⟩)
  go_ret
  exact ⟨rfl, hb1⟩

set_option maxHeartbeats 4000000 in
theorem load_equal (a1 a2 : Option Addr) (F1 F2 : List (Int × Int)) (cap1 cap2 : Nat) (w : World) (hl : F1.length ≤ 1100) (h1 : Loads w.heap.size w a1 F1) (h2 : Loads w.heap.size w a2 F2) (hl2 : F2.length ≤ 1100) :
    Calls Tryz.prog 14 #[.slice a1 F1.length cap1, .slice a2 F2.length cap2] w fun e w' => e = .returned (.bool (decide (F1 = F2))) ∧ Below w.heap.size w w' := by
  have H1 := Lib.hid h1
  have H2 := Lib.hid h2
  clear h1 h2
  by_cases hle : F1.length = F2.length
  · have hn : ((F1.length : Int) != (F2.length : Int)) = false := by rw [bne_eq_false_iff_eq]; omega
    have HL := Lib.hid hle; clear hle
    go_enter Tryz.func14, Tryz.ntmps14
    go_wp2
    go_loopw [13] (fun i wr => ∃ k : Nat, k ≤ F1.length ∧ i = .int .i64 k ∧ Below w.heap.size w wr ∧ Hid (∀ j, j < k → og F1 j = og F2 j)) (fun i _ => F1.length - (intOf i).toNat)
    case atStart => exact ⟨0, Nat.zero_le _, rfl, Below.refl _ _, Lib.hid (fun _ h => absurd h (Nat.not_lt_zero _))⟩
    case round =>
      obtain ⟨k, hk, rfl, hB, HA⟩ := hrel
      by_cases hlt : k < F1.length
      · have hlt2 : k < F2.length := by have := HL.out; omega
        obtain ⟨b, off, rfl, hb, hcx⟩ := H1.out (by omega)
        obtain ⟨b', off', rfl, hb', hcx'⟩ := H2.out (by omega)
        obtain ⟨c0, c1⟩ := hcx k hlt
        obtain ⟨e0, e1⟩ := hcx' k hlt2
        have d0 := (hB.cell (p := ⟨b, off + k * 2, none⟩) hb).trans c0
        have d1 := (hB.cell (p := ⟨b, off + k * 2 + 1, none⟩) hb).trans c1
        have f0 := (hB.cell (p := ⟨b', off' + k * 2, none⟩) hb').trans e0
        have f1 := (hB.cell (p := ⟨b', off' + k * 2 + 1, none⟩) hb').trans e1
        clear c0 c1 e0 e1 hcx hcx'
        by_cases q0 : (og F1 k).1 = (og F2 k).1
        · by_cases q1 : (og F1 k).2 = (og F2 k).2
          · have HB : Hid (∀ j, j < k + 1 → og F1 j = og F2 j) := Lib.hid fun j hj => by
              rcases Nat.lt_or_ge j k with l | l
              · exact HA.out j l
              · obtain rfl : j = k := by omega
                exact Prod.ext q0 q1
            have g0 : ((og F1 k).1 == (og F2 k).1) = true := beq_iff_eq.2 q0
            have h0 : ((og F1 k).1 != (og F2 k).1) = false := bne_eq_false_iff_eq.2 q0
            have g1 : ((og F1 k).2 == (og F2 k).2) = true := beq_iff_eq.2 q1
            have h1 : ((og F1 k).2 != (og F2 k).2) = false := bne_eq_false_iff_eq.2 q1
            clear q0 q1
            go_wp2_with fail
            go_quiet (fail)
            go_wp2
            go_roundw
            case rel => exact ⟨k + 1, by omega, by go_num, below_drewN hB _, HB⟩
            case measure => simp [intOf]; omega
          · have H : Hid (decide (F1 = F2) = false) := Lib.hid (decide_eq_false (fun e => q1 (by rw [e])))
            have g0 : ((og F1 k).1 == (og F2 k).1) = true := beq_iff_eq.2 q0
            have h0 : ((og F1 k).1 != (og F2 k).1) = false := bne_eq_false_iff_eq.2 q0
            have g1 : ((og F1 k).2 == (og F2 k).2) = false := beq_eq_false_iff_ne.2 q1
            have h1 : ((og F1 k).2 != (og F2 k).2) = true := bne_iff_ne.2 q1
            clear q0 q1
            go_wp2_with fail
            go_quiet (fail)
            go_wp2
            go_ret
            exact ⟨congrArg (fun b => Ending.returned (.bool b)) H.out.symm, below_drewN hB _⟩
        · have H : Hid (decide (F1 = F2) = false) := Lib.hid (decide_eq_false (fun e => q0 (by rw [e])))
          have g0 : ((og F1 k).1 == (og F2 k).1) = false := beq_eq_false_iff_ne.2 q0
          have h0 : ((og F1 k).1 != (og F2 k).1) = true := bne_iff_ne.2 q0
          clear q0
          go_wp2_with fail
          go_quiet (fail)
          go_wp2
          go_ret
          exact ⟨congrArg (fun b => Ending.returned (.bool b)) H.out.symm, below_drewN hB _⟩
      · obtain rfl : k = F1.length := by omega
        have H : Hid (decide (F1 = F2) = true) := Lib.hid (decide_eq_true (og_ext F1 F2 HL.out HA.out))
        go_wp2
        go_ret
        exact ⟨congrArg (fun b => Ending.returned (.bool b)) H.out.symm, hB⟩
  · have hn : ((F1.length : Int) != (F2.length : Int)) = true := bne_iff_ne.2 (by omega)
    have H : Hid (decide (F1 = F2) = false) := Lib.hid (decide_eq_false (fun e => hle (by rw [e])))
    clear hle
    go_enter Tryz.func14, Tryz.ntmps14
    go_wp2
    go_ret
    exact ⟨congrArg (fun b => Ending.returned (.bool b)) H.out.symm, Below.refl _ _⟩

theorem load_info : (Tryz.prog.info? 55).map (fun i => (i.zero, i.size, i.bytes)) = some (some (.agg #[.int .i64 0, .int .i64 0]), 2, 16) := by kernel_rfl

theorem load_append {ops : Array Oper} {rest : List Oper} {o : Oper} {a : Act} {w : World} {Q : Exit → Act → World → Prop} (hgd : o.guard = none) (s x : Operand)
    (ho : o.op = .call { callee := .builtin .append, args := #[s, x], argTypes := #[46, 46] })
    (base : Nat) (v : Value) (L : List (Int × Int)) (hs : a.eval s = v) (hown : w.ownsRow base 55 2 v L.length (oflat L))
    (bl : Nat) (y : Int × Int) (hx : a.eval x = .slice (some ⟨bl, 0, none⟩) 1 1) (hc : w.cell? ⟨bl, 0, none⟩ = some (.int .i64 y.1) ∧ w.cell? ⟨bl, 1, none⟩ = some (.int .i64 y.2)) (hl : L.length ≤ 1000000) (hbase : base ≤ w.heap.size)
    (h : ∀ v' w', w'.ownsRow base 55 2 v' (L ++ [y]).length (oflat (L ++ [y])) → w.grownBy w' v.ownBlock → wpList Tryz.prog ops Q rest (a.put o.dst v') w') : wpList Tryz.prog ops Q (o :: rest) a w := by
  obtain ⟨i0, hi, hz0, hz1, hz2⟩ := info_parts load_info
  refine wpList_append_own _ hgd s x 46 ho base 55 i0 _ 2 16 Tryz.underlying46 hi hz0 hz1 hz2 rfl (by decide) v L.length (oflat L) hs hown ⟨bl, 0, none⟩ 1 1 [.int .i64 y.1, .int .i64 y.2] hx rfl ?_ (by simp [Value.oneCell']) (by unfold maxLen; omega) (by omega) hbase ?_
  · obtain ⟨c0, c1⟩ := hc
    intro j u hj
    rw [Go.WideShapes.add_plain, Nat.zero_add]
    match j, hj with
    | 0, hj => simp at hj; subst hj; exact c0
    | 1, hj => simp at hj; subst hj; exact c1
  · intro v' w' h1 h2 _
    refine h v' w' ?_ h2
    rw [oflat_snoc, List.length_append]
    exact h1

theorem fr_info : (Tryz.prog.info? 76).map (fun i => (i.zero, i.size, i.bytes)) = some (some (.agg #[.int .i64 0, .int .i64 0]), 2, 16) := by kernel_rfl

theorem fr_append {ops : Array Oper} {rest : List Oper} {o : Oper} {a : Act} {w : World} {Q : Exit → Act → World → Prop} (hgd : o.guard = none) (s x : Operand)
    (ho : o.op = .call { callee := .builtin .append, args := #[s, x], argTypes := #[92, 92] })
    (base : Nat) (v : Value) (L : List (Int × Int)) (hs : a.eval s = v) (hown : w.ownsRow base 76 2 v L.length (frflat L))
    (bl : Nat) (y : Int × Int) (hx : a.eval x = .slice (some ⟨bl, 0, none⟩) 1 1) (hc : w.cell? ⟨bl, 0, none⟩ = some (.int .i64 y.1) ∧ w.cell? ⟨bl, 1, none⟩ = some (.int .i64 y.2)) (hl : L.length ≤ 1000000) (hbase : base ≤ w.heap.size)
    (h : ∀ v' w', w'.ownsRow base 76 2 v' (L ++ [y]).length (frflat (L ++ [y])) → w.grownBy w' v.ownBlock → wpList Tryz.prog ops Q rest (a.put o.dst v') w') : wpList Tryz.prog ops Q (o :: rest) a w := by
  obtain ⟨i0, hi, hz0, hz1, hz2⟩ := info_parts fr_info
  refine wpList_append_own _ hgd s x 92 ho base 76 i0 _ 2 16 Tryz.underlying92 hi hz0 hz1 hz2 rfl (by decide) v L.length (frflat L) hs hown ⟨bl, 0, none⟩ 1 1 [.int .i64 y.1, .int .i64 y.2] hx rfl ?_ (by simp [Value.oneCell']) (by unfold maxLen; omega) (by omega) hbase ?_
  · obtain ⟨c0, c1⟩ := hc
    intro j u hj
    rw [Go.WideShapes.add_plain, Nat.zero_add]
    match j, hj with
    | 0, hj => simp at hj; subst hj; exact c0
    | 1, hj => simp at hj; subst hj; exact c1
  · intro v' w' h1 h2 _
    refine h v' w' ?_ h2
    rw [frflat_snoc, List.length_append]
    exact h1

theorem num_info : (Tryz.prog.info? 3).map (fun i => (i.zero, i.size, i.bytes)) = some (some (.int .i64 0), 1, 8) := by kernel_rfl

theorem num_append {ops : Array Oper} {rest : List Oper} {o : Oper} {a : Act} {w : World} {Q : Exit → Act → World → Prop} (hgd : o.guard = none) (s x : Operand)
    (ho : o.op = .call { callee := .builtin .append, args := #[s, x], argTypes := #[32, 32] })
    (base : Nat) (v : Value) (L : List (Int)) (hs : a.eval s = v) (hown : w.ownsRow base 3 1 v L.length (nflat L))
    (bl : Nat) (y : Int) (hx : a.eval x = .slice (some ⟨bl, 0, none⟩) 1 1) (hc : w.cell? ⟨bl, 0, none⟩ = some (.int .i64 y)) (hl : L.length ≤ 1000000) (hbase : base ≤ w.heap.size)
    (h : ∀ v' w', w'.ownsRow base 3 1 v' (L ++ [y]).length (nflat (L ++ [y])) → w.grownBy w' v.ownBlock → wpList Tryz.prog ops Q rest (a.put o.dst v') w') : wpList Tryz.prog ops Q (o :: rest) a w := by
  obtain ⟨i0, hi, hz0, hz1, hz2⟩ := info_parts num_info
  refine wpList_append_own _ hgd s x 32 ho base 3 i0 _ 1 8 Tryz.underlying32 hi hz0 hz1 hz2 rfl (by decide) v L.length (nflat L) hs hown ⟨bl, 0, none⟩ 1 1 [.int .i64 y] hx rfl ?_ (by simp [Value.oneCell']) (by unfold maxLen; omega) (by omega) hbase ?_
  · have c0 := hc
    intro j u hj
    rw [Go.WideShapes.add_plain, Nat.zero_add]
    match j, hj with
    | 0, hj => simp at hj; subst hj; exact c0
  · intro v' w' h1 h2 _
    refine h v' w' ?_ h2
    rw [nflat_snoc, List.length_append]
    exact h1
end Go.Proofs.YthldfijlcoobgaaGreat
