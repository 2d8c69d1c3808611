/-
  THE WALKS of slices.IndexFunc, ContainsFunc at cues, pairs, numbers, findings.
-/
import Derived.Test.YtapjhjpibefooaaMem
namespace Go.Proofs.Ytapjhjpibefooaa
open Go.RowKit Go.Shelf

set_option maxHeartbeats 2000000 in
theorem cue_indexFunc (a : Option Addr) (L : List (CueR)) (cap n₀ g : Nat) (cb : Array Value) (p : CueR → Bool) (w : World) (eg : ∀ args w, (callFunc g args).run Try.prog w = .ok (.enter g args) w)
    (hl : L.length ≤ 1100) (hn₀ : n₀ ≤ w.heap.size) (hI : Cues n₀ w a L) (hp : AsksC g cb n₀ w p) :
    Calls Try.prog 24 #[.slice a L.length cap, .func (.func g) #[] cb] w fun e w' => e = .returned (.int .i64 (cue_first L p)) ∧ Below w.heap.size w w' := by
  have HI := Lib.hid hI; clear hI
  have HP := Lib.hid hp; clear hp
  go_enter Try.func24, Try.ntmps24
  go_wp2
  go_loopw [8] (fun i wr => ∃ k : Nat, k ≤ L.length ∧ i = .int .i64 k ∧ Below w.heap.size w wr ∧ Hid (∀ j, j < k → p (cg L j) = false)) (fun i _ => L.length - (intOf i).toNat)
  case atStart => exact ⟨0, Nat.zero_le _, rfl, Below.refl _ _, Lib.hid (fun _ h => absurd h (Nat.not_lt_zero _))⟩
  case round =>
    obtain ⟨k, hk, rfl, hB, HA⟩ := hrel
    by_cases hlt : k < L.length
    · obtain ⟨b, off, rfl, hb, hc⟩ := HI.out (by omega)
      obtain ⟨c0, c1, c2, c3, c4, c5, c6⟩ := hc k hlt
      have d0 := (hB.cell (p := ⟨b, off + k * 7, none⟩) (show b < w.heap.size by omega)).trans c0
      have d1 := (hB.cell (p := ⟨b, off + k * 7 + 1, none⟩) (show b < w.heap.size by omega)).trans c1
      have d2 := (hB.cell (p := ⟨b, off + k * 7 + 2, none⟩) (show b < w.heap.size by omega)).trans c2
      have d3 := (hB.cell (p := ⟨b, off + k * 7 + 3, none⟩) (show b < w.heap.size by omega)).trans c3
      have d4 := (hB.cell (p := ⟨b, off + k * 7 + 4, none⟩) (show b < w.heap.size by omega)).trans c4
      have d5 := (hB.cell (p := ⟨b, off + k * 7 + 5, none⟩) (show b < w.heap.size by omega)).trans c5
      have d6 := (hB.cell (p := ⟨b, off + k * 7 + 6, none⟩) (show b < w.heap.size by omega)).trans c6
      clear c0 c1 c2 c3 c4 c5 c6 hc
      have HC := Lib.hid (show Calls Try.prog g (#[.agg #[.string (cg L k).name, .string (cg L k).after, .int .i64 (cg L k).link, .int .i64 (cg L k).delay, .slice (cg L k).ma (cg L k).ml (cg L k).mc, .int .i64 (cg L k).crew, .int .i64 (cg L k).power]] ++ cb) wr _ from HP.out wr (cg L k) (hB.mono hn₀))
      obtain ⟨bv, hbv⟩ : ∃ bv, p (cg L k) = bv := ⟨_, rfl⟩
      rw [hbv] at HC
      cases bv
      · have HB : Hid (∀ j, j < k + 1 → p (cg L j) = false) := Lib.hid fun j hj => by
          rcases Nat.lt_or_ge j k with l | l
          · exact HA.out j l
          · obtain rfl : j = k := by omega
            exact hbv
        clear hbv
        go_wp2_with ((with_reducible refine HC.out.mono ?_); rintro e w1 ⟨rfl, hb1⟩)
        go_roundw
        case rel => exact ⟨k + 1, by omega, by go_num, hB.trans (hb1.mono hB.size), HB⟩
        case measure => simp [intOf]; omega
      · have H := Lib.hid (cue_first_hit L p k hlt hbv HA.out)
        clear hbv
        go_wp2_with ((with_reducible refine HC.out.mono ?_); rintro e w1 ⟨rfl, hb1⟩)
        go_ret
        exact ⟨ret_int H.out.symm, hB.trans (hb1.mono hB.size)⟩
    · obtain rfl : k = L.length := by omega
      have H := Lib.hid (cue_first_miss L p HA.out)
      go_wp2
      go_ret
      exact ⟨ret_int H.out.symm, hB⟩

set_option maxHeartbeats 1000000 in
theorem cue_containsFunc (a : Option Addr) (L : List (CueR)) (cap n₀ g : Nat) (cb : Array Value) (p : CueR → Bool) (w : World) (eg : ∀ args w, (callFunc g args).run Try.prog w = .ok (.enter g args) w)
    (hl : L.length ≤ 1100) (hn₀ : n₀ ≤ w.heap.size) (hI : Cues n₀ w a L) (hp : AsksC g cb n₀ w p) :
    Calls Try.prog 44 #[.slice a L.length cap, .func (.func g) #[] cb] w fun e w' => e = .returned (.bool (cue_any L p)) ∧ Below w.heap.size w w' := by
  have HC := Lib.hid (cue_indexFunc a L cap n₀ g cb p w eg hl hn₀ hI hp)
  clear hI hp eg
  go_enter Try.func44, Try.ntmps44
  go_wp2_with (go_at_call 24; (with_reducible refine HC.out.mono ?_); rintro e w1 ⟨rfl, hb1⟩)
  go_ret
  exact ⟨rfl, hb1⟩

set_option maxHeartbeats 2000000 in
theorem pair_indexFunc (a : Option Addr) (L : List (ByteArray × ByteArray)) (cap n₀ g : Nat) (cb : Array Value) (p : ByteArray × ByteArray → Bool) (w : World) (eg : ∀ args w, (callFunc g args).run Try.prog w = .ok (.enter g args) w)
    (hl : L.length ≤ 1100) (hn₀ : n₀ ≤ w.heap.size) (hI : Pairs n₀ w a L) (hp : AsksP g cb n₀ w p) :
    Calls Try.prog 63 #[.slice a L.length cap, .func (.func g) #[] cb] w fun e w' => e = .returned (.int .i64 (pair_first L p)) ∧ Below w.heap.size w w' := by
  have HI := Lib.hid hI; clear hI
  have HP := Lib.hid hp; clear hp
  go_enter Try.func63, Try.ntmps63
  go_wp2
  go_loopw [8] (fun i wr => ∃ k : Nat, k ≤ L.length ∧ i = .int .i64 k ∧ Below w.heap.size w wr ∧ Hid (∀ j, j < k → p (pg L j) = false)) (fun i _ => L.length - (intOf i).toNat)
  case atStart => exact ⟨0, Nat.zero_le _, rfl, Below.refl _ _, Lib.hid (fun _ h => absurd h (Nat.not_lt_zero _))⟩
  case round =>
    obtain ⟨k, hk, rfl, hB, HA⟩ := hrel
    by_cases hlt : k < L.length
    · obtain ⟨b, off, rfl, hb, hc⟩ := HI.out (by omega)
      obtain ⟨c0, c1⟩ := hc k hlt
      have d0 := (hB.cell (p := ⟨b, off + k * 2, none⟩) (show b < w.heap.size by omega)).trans c0
      have d1 := (hB.cell (p := ⟨b, off + k * 2 + 1, none⟩) (show b < w.heap.size by omega)).trans c1
      clear c0 c1 hc
      have HC := Lib.hid (show Calls Try.prog g (#[.agg #[.string (pg L k).1, .string (pg L k).2]] ++ cb) wr _ from HP.out wr (pg L k) (hB.mono hn₀))
      obtain ⟨bv, hbv⟩ : ∃ bv, p (pg L k) = bv := ⟨_, rfl⟩
      rw [hbv] at HC
      cases bv
      · have HB : Hid (∀ j, j < k + 1 → p (pg L j) = false) := Lib.hid fun j hj => by
          rcases Nat.lt_or_ge j k with l | l
          · exact HA.out j l
          · obtain rfl : j = k := by omega
            exact hbv
        clear hbv
        go_wp2_with ((with_reducible refine HC.out.mono ?_); rintro e w1 ⟨rfl, hb1⟩)
        go_roundw
        case rel => exact ⟨k + 1, by omega, by go_num, hB.trans (hb1.mono hB.size), HB⟩
        case measure => simp [intOf]; omega
      · have H := Lib.hid (pair_first_hit L p k hlt hbv HA.out)
        clear hbv
        go_wp2_with ((with_reducible refine HC.out.mono ?_); rintro e w1 ⟨rfl, hb1⟩)
        go_ret
        exact ⟨ret_int H.out.symm, hB.trans (hb1.mono hB.size)⟩
    · obtain rfl : k = L.length := by omega
      have H := Lib.hid (pair_first_miss L p HA.out)
      go_wp2
      go_ret
      exact ⟨ret_int H.out.symm, hB⟩

set_option maxHeartbeats 1000000 in
theorem pair_containsFunc (a : Option Addr) (L : List (ByteArray × ByteArray)) (cap n₀ g : Nat) (cb : Array Value) (p : ByteArray × ByteArray → Bool) (w : World) (eg : ∀ args w, (callFunc g args).run Try.prog w = .ok (.enter g args) w)
    (hl : L.length ≤ 1100) (hn₀ : n₀ ≤ w.heap.size) (hI : Pairs n₀ w a L) (hp : AsksP g cb n₀ w p) :
    Calls Try.prog 46 #[.slice a L.length cap, .func (.func g) #[] cb] w fun e w' => e = .returned (.bool (pair_any L p)) ∧ Below w.heap.size w w' := by
  have HC := Lib.hid (pair_indexFunc a L cap n₀ g cb p w eg hl hn₀ hI hp)
  clear hI hp eg
  go_enter Try.func46, Try.ntmps46
  go_wp2_with (go_at_call 63; (with_reducible refine HC.out.mono ?_); rintro e w1 ⟨rfl, hb1⟩)
  go_ret
  exact ⟨rfl, hb1⟩

set_option maxHeartbeats 2000000 in
theorem num_indexFunc (a : Option Addr) (L : List (Int)) (cap n₀ g : Nat) (cb : Array Value) (p : Int → Bool) (w : World) (eg : ∀ args w, (callFunc g args).run Try.prog w = .ok (.enter g args) w)
    (hl : L.length ≤ 1100) (hn₀ : n₀ ≤ w.heap.size) (hI : Nums n₀ w a L) (hp : AsksN g cb n₀ w p) :
    Calls Try.prog 66 #[.slice a L.length cap, .func (.func g) #[] cb] w fun e w' => e = .returned (.int .i64 (num_first L p)) ∧ Below w.heap.size w w' := by
  have HI := Lib.hid hI; clear hI
  have HP := Lib.hid hp; clear hp
  go_enter Try.func66, Try.ntmps66
  go_wp2
  go_loopw [8] (fun i wr => ∃ k : Nat, k ≤ L.length ∧ i = .int .i64 k ∧ Below w.heap.size w wr ∧ Hid (∀ j, j < k → p (ig L j) = false)) (fun i _ => L.length - (intOf i).toNat)
  case atStart => exact ⟨0, Nat.zero_le _, rfl, Below.refl _ _, Lib.hid (fun _ h => absurd h (Nat.not_lt_zero _))⟩
  case round =>
    obtain ⟨k, hk, rfl, hB, HA⟩ := hrel
    by_cases hlt : k < L.length
    · obtain ⟨b, off, rfl, hb, hc⟩ := HI.out (by omega)
      have c0 := hc k hlt
      have d0 := (hB.cell (p := ⟨b, off + k, none⟩) (show b < w.heap.size by omega)).trans c0
      clear c0 hc
      have HC := Lib.hid (show Calls Try.prog g (#[.int .i64 (ig L k)] ++ cb) wr _ from HP.out wr (ig L k) (hB.mono hn₀))
      obtain ⟨bv, hbv⟩ : ∃ bv, p (ig L k) = bv := ⟨_, rfl⟩
      rw [hbv] at HC
      cases bv
      · have HB : Hid (∀ j, j < k + 1 → p (ig L j) = false) := Lib.hid fun j hj => by
          rcases Nat.lt_or_ge j k with l | l
          · exact HA.out j l
          · obtain rfl : j = k := by omega
            exact hbv
        clear hbv
        go_wp2_with ((with_reducible refine HC.out.mono ?_); rintro e w1 ⟨rfl, hb1⟩)
        go_roundw
        case rel => exact ⟨k + 1, by omega, by go_num, hB.trans (hb1.mono hB.size), HB⟩
        case measure => simp [intOf]; omega
      · have H := Lib.hid (num_first_hit L p k hlt hbv HA.out)
        clear hbv
        go_wp2_with ((with_reducible refine HC.out.mono ?_); rintro e w1 ⟨rfl, hb1⟩)
        go_ret
        exact ⟨ret_int H.out.symm, hB.trans (hb1.mono hB.size)⟩
    · obtain rfl : k = L.length := by omega
      have H := Lib.hid (num_first_miss L p HA.out)
      go_wp2
      go_ret
      exact ⟨ret_int H.out.symm, hB⟩

set_option maxHeartbeats 1000000 in
theorem num_containsFunc (a : Option Addr) (L : List (Int)) (cap n₀ g : Nat) (cb : Array Value) (p : Int → Bool) (w : World) (eg : ∀ args w, (callFunc g args).run Try.prog w = .ok (.enter g args) w)
    (hl : L.length ≤ 1100) (hn₀ : n₀ ≤ w.heap.size) (hI : Nums n₀ w a L) (hp : AsksN g cb n₀ w p) :
    Calls Try.prog 51 #[.slice a L.length cap, .func (.func g) #[] cb] w fun e w' => e = .returned (.bool (num_any L p)) ∧ Below w.heap.size w w' := by
  have HC := Lib.hid (num_indexFunc a L cap n₀ g cb p w eg hl hn₀ hI hp)
  clear hI hp eg
  go_enter Try.func51, Try.ntmps51
  go_wp2_with (go_at_call 66; (with_reducible refine HC.out.mono ?_); rintro e w1 ⟨rfl, hb1⟩)
  go_ret
  exact ⟨rfl, hb1⟩

set_option maxHeartbeats 2000000 in
theorem fin_indexFunc (a : Option Addr) (L : List (Int × ByteArray)) (cap n₀ g : Nat) (cb : Array Value) (p : Int × ByteArray → Bool) (w : World) (eg : ∀ args w, (callFunc g args).run Try.prog w = .ok (.enter g args) w)
    (hl : L.length ≤ 1100) (hn₀ : n₀ ≤ w.heap.size) (hI : Finds n₀ w a L) (hp : AsksF g cb n₀ w p) :
    Calls Try.prog 62 #[.slice a L.length cap, .func (.func g) #[] cb] w fun e w' => e = .returned (.int .i64 (fin_first L p)) ∧ Below w.heap.size w w' := by
  have HI := Lib.hid hI; clear hI
  have HP := Lib.hid hp; clear hp
  go_enter Try.func62, Try.ntmps62
  go_wp2
  go_loopw [8] (fun i wr => ∃ k : Nat, k ≤ L.length ∧ i = .int .i64 k ∧ Below w.heap.size w wr ∧ Hid (∀ j, j < k → p (fg L j) = false)) (fun i _ => L.length - (intOf i).toNat)
  case atStart => exact ⟨0, Nat.zero_le _, rfl, Below.refl _ _, Lib.hid (fun _ h => absurd h (Nat.not_lt_zero _))⟩
  case round =>
    obtain ⟨k, hk, rfl, hB, HA⟩ := hrel
    by_cases hlt : k < L.length
    · obtain ⟨b, off, rfl, hb, hc⟩ := HI.out (by omega)
      obtain ⟨c0, c1⟩ := hc k hlt
      have d0 := (hB.cell (p := ⟨b, off + k * 2, none⟩) (show b < w.heap.size by omega)).trans c0
      have d1 := (hB.cell (p := ⟨b, off + k * 2 + 1, none⟩) (show b < w.heap.size by omega)).trans c1
      clear c0 c1 hc
      have HC := Lib.hid (show Calls Try.prog g (#[.agg #[.int .i64 (fg L k).1, .string (fg L k).2]] ++ cb) wr _ from HP.out wr (fg L k) (hB.mono hn₀))
      obtain ⟨bv, hbv⟩ : ∃ bv, p (fg L k) = bv := ⟨_, rfl⟩
      rw [hbv] at HC
      cases bv
      · have HB : Hid (∀ j, j < k + 1 → p (fg L j) = false) := Lib.hid fun j hj => by
          rcases Nat.lt_or_ge j k with l | l
          · exact HA.out j l
          · obtain rfl : j = k := by omega
            exact hbv
        clear hbv
        go_wp2_with ((with_reducible refine HC.out.mono ?_); rintro e w1 ⟨rfl, hb1⟩)
        go_roundw
        case rel => exact ⟨k + 1, by omega, by go_num, hB.trans (hb1.mono hB.size), HB⟩
        case measure => simp [intOf]; omega
      · have H := Lib.hid (fin_first_hit L p k hlt hbv HA.out)
        clear hbv
        go_wp2_with ((with_reducible refine HC.out.mono ?_); rintro e w1 ⟨rfl, hb1⟩)
        go_ret
        exact ⟨ret_int H.out.symm, hB.trans (hb1.mono hB.size)⟩
    · obtain rfl : k = L.length := by omega
      have H := Lib.hid (fin_first_miss L p HA.out)
      go_wp2
      go_ret
      exact ⟨ret_int H.out.symm, hB⟩

set_option maxHeartbeats 1000000 in
theorem fin_containsFunc (a : Option Addr) (L : List (Int × ByteArray)) (cap n₀ g : Nat) (cb : Array Value) (p : Int × ByteArray → Bool) (w : World) (eg : ∀ args w, (callFunc g args).run Try.prog w = .ok (.enter g args) w)
    (hl : L.length ≤ 1100) (hn₀ : n₀ ≤ w.heap.size) (hI : Finds n₀ w a L) (hp : AsksF g cb n₀ w p) :
    Calls Try.prog 26 #[.slice a L.length cap, .func (.func g) #[] cb] w fun e w' => e = .returned (.bool (fin_any L p)) ∧ Below w.heap.size w w' := by
  have HC := Lib.hid (fin_indexFunc a L cap n₀ g cb p w eg hl hn₀ hI hp)
  clear hI hp eg
  go_enter Try.func26, Try.ntmps26
  go_wp2_with (go_at_call 62; (with_reducible refine HC.out.mono ?_); rintro e w1 ⟨rfl, hb1⟩)
  go_ret
  exact ⟨rfl, hb1⟩
end Go.Proofs.Ytapjhjpibefooaa
