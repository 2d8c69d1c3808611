/-
  THE WALKS of slices.Index, Contains, Equal, Clone at numbers, names, findings, cues.
-/
import Derived.Test.YtapjhjpibefooaaMem
namespace Go.Proofs.Ytapjhjpibefooaa
open Go.RowKit Go.Shelf
theorem below_drewN {n₀ : Nat} {w w' : World} (h : Below n₀ w w') (n : Nat) : Below n₀ w (w'.drewN n) := h.trans ⟨rfl, rfl, rfl, Nat.le_refl _, fun _ _ => rfl⟩

set_option maxHeartbeats 1000000 in
theorem num_index (a : Option Addr) (L : List (Int)) (cap : Nat) (x : Int) (n₀ : Nat) (w : World) (hl : L.length ≤ 1100) (hL : Nums n₀ w a L) :
    Calls Try.prog 73 #[.slice a L.length cap, .int .i64 x] w fun e w' => e = .returned (.int .i64 (num_first L (fun y => decide (y = x)))) ∧ w = w' := by
  have HL := Lib.hid hL; clear hL
  go_enter Try.func73, Try.ntmps73
  go_wp2
  go_loop [8] (fun i => ∃ k : Nat, k ≤ L.length ∧ i = .int .i64 k ∧ Hid (∀ j, j < k → decide (ig L j = x) = false)) (fun i => L.length - (intOf i).toNat)
  case atStart => exact ⟨0, Nat.zero_le _, rfl, Lib.hid (fun _ h => absurd h (Nat.not_lt_zero _))⟩
  case round =>
    obtain ⟨k, hk, rfl, HA⟩ := hrel
    by_cases hlt : k < L.length
    · obtain ⟨b, off, rfl, _, hc⟩ := HL.out (by omega)
      have hck := hc k hlt
      clear hc
      by_cases hx : ig L k = x
      · have H := Lib.hid (num_first_hit L (fun y => decide (y = x)) k hlt (decide_eq_true hx) HA.out)
        have hx' : (x == ig L k) = true := beq_iff_eq.2 hx.symm
        clear hx
        go_wp2
        go_ret
        exact ⟨ret_int H.out.symm, rfl⟩
      · have hx' : (x == ig L k) = false := beq_eq_false_iff_ne.2 (fun e => hx e.symm)
        have HB : Hid (∀ j, j < k + 1 → decide (ig L j = x) = false) := Lib.hid fun j hj => by
          rcases Nat.lt_or_ge j k with l | l
          · exact HA.out j l
          · obtain rfl : j = k := by omega
            exact decide_eq_false hx
        clear hx
        go_wp2
        go_round
        case rel => exact ⟨k + 1, by omega, by go_num, HB⟩
        case measure => simp [intOf]; omega
    · obtain rfl : k = L.length := by omega
      have H := Lib.hid (num_first_miss L (fun y => decide (y = x)) HA.out)
      go_wp2
      go_ret
      exact ⟨ret_int H.out.symm, rfl⟩
set_option maxHeartbeats 1000000 in
theorem num_contains (a : Option Addr) (L : List (Int)) (cap : Nat) (x : Int) (n₀ : Nat) (w : World) (hl : L.length ≤ 1100) (hL : Nums n₀ w a L) :
    Calls Try.prog 68 #[.slice a L.length cap, .int .i64 x] w fun e w' => e = .returned (.bool (num_any L (fun y => decide (y = x)))) ∧ w = w' := by
  have HC := Lib.hid (num_index a L cap x n₀ w hl hL); clear hL
  go_enter Try.func68, Try.ntmps68
  go_wp2_with (go_at_call 73; refine HC.out.mono ?_; rintro e w' ⟨rfl, rfl⟩)
  go_ret
  exact ⟨rfl, rfl⟩

theorem num_any_mem (L : List (Int)) (x : Int) : num_any L (fun y => decide (y = x)) = decide (x ∈ L) := by
  rw [num_any_eq, Bool.eq_iff_iff, List.any_eq_true, decide_eq_true_eq]
  constructor
  · rintro ⟨y, hy, e⟩
    rw [← of_decide_eq_true e]; exact hy
  · exact fun h => ⟨x, h, decide_eq_true rfl⟩


set_option maxHeartbeats 1000000 in
theorem str_index (a : Option Addr) (L : List (ByteArray)) (cap : Nat) (x : ByteArray) (n₀ : Nat) (w : World) (hl : L.length ≤ 1100) (hL : Strs n₀ w a L) :
    Calls Try.prog 35 #[.slice a L.length cap, .string x] w fun e w' => e = .returned (.int .i64 (str_first L (fun y => decide (y = x)))) ∧ w = w' := by
  have HL := Lib.hid hL; clear hL
  go_enter Try.func35, Try.ntmps35
  go_wp2
  go_loop [8] (fun i => ∃ k : Nat, k ≤ L.length ∧ i = .int .i64 k ∧ Hid (∀ j, j < k → decide (sg L j = x) = false)) (fun i => L.length - (intOf i).toNat)
  case atStart => exact ⟨0, Nat.zero_le _, rfl, Lib.hid (fun _ h => absurd h (Nat.not_lt_zero _))⟩
  case round =>
    obtain ⟨k, hk, rfl, HA⟩ := hrel
    by_cases hlt : k < L.length
    · obtain ⟨b, off, rfl, _, hc⟩ := HL.out (by omega)
      have hck := hc k hlt
      clear hc
      by_cases hx : sg L k = x
      · have H := Lib.hid (str_first_hit L (fun y => decide (y = x)) k hlt (decide_eq_true hx) HA.out)
        have hx' : (x.toList == (sg L k).toList) = true := by rw [str_eq, hx]; simp
        clear hx
        go_wp2
        go_ret
        exact ⟨ret_int H.out.symm, rfl⟩
      · have hx' : (x.toList == (sg L k).toList) = false := by rw [str_eq]; exact decide_eq_false (fun e => hx e.symm)
        have HB : Hid (∀ j, j < k + 1 → decide (sg L j = x) = false) := Lib.hid fun j hj => by
          rcases Nat.lt_or_ge j k with l | l
          · exact HA.out j l
          · obtain rfl : j = k := by omega
            exact decide_eq_false hx
        clear hx
        go_wp2
        go_round
        case rel => exact ⟨k + 1, by omega, by go_num, HB⟩
        case measure => simp [intOf]; omega
    · obtain rfl : k = L.length := by omega
      have H := Lib.hid (str_first_miss L (fun y => decide (y = x)) HA.out)
      go_wp2
      go_ret
      exact ⟨ret_int H.out.symm, rfl⟩
set_option maxHeartbeats 1000000 in
theorem str_contains (a : Option Addr) (L : List (ByteArray)) (cap : Nat) (x : ByteArray) (n₀ : Nat) (w : World) (hl : L.length ≤ 1100) (hL : Strs n₀ w a L) :
    Calls Try.prog 32 #[.slice a L.length cap, .string x] w fun e w' => e = .returned (.bool (str_any L (fun y => decide (y = x)))) ∧ w = w' := by
  have HC := Lib.hid (str_index a L cap x n₀ w hl hL); clear hL
  go_enter Try.func32, Try.ntmps32
  go_wp2_with (go_at_call 35; refine HC.out.mono ?_; rintro e w' ⟨rfl, rfl⟩)
  go_ret
  exact ⟨rfl, rfl⟩

set_option maxHeartbeats 4000000 in
theorem num_equal (a1 a2 : Option Addr) (F1 F2 : List (Int)) (cap1 cap2 : Nat) (w : World) (hl : F1.length ≤ 1100) (h1 : Nums w.heap.size w a1 F1) (h2 : Nums w.heap.size w a2 F2) (hl2 : F2.length ≤ 1100) :
    Calls Try.prog 16 #[.slice a1 F1.length cap1, .slice a2 F2.length cap2] w fun e w' => e = .returned (.bool (decide (F1 = F2))) ∧ Below w.heap.size w w' := by
  have H1 := Lib.hid h1
  have H2 := Lib.hid h2
  clear h1 h2
  by_cases hle : F1.length = F2.length
  · have hn : ((F1.length : Int) != (F2.length : Int)) = false := by rw [bne_eq_false_iff_eq]; omega
    have HL := Lib.hid hle; clear hle
    go_enter Try.func16, Try.ntmps16
    go_wp2
    go_loopw [13] (fun i wr => ∃ k : Nat, k ≤ F1.length ∧ i = .int .i64 k ∧ Below w.heap.size w wr ∧ Hid (∀ j, j < k → ig F1 j = ig F2 j)) (fun i _ => F1.length - (intOf i).toNat)
    case atStart => exact ⟨0, Nat.zero_le _, rfl, Below.refl _ _, Lib.hid (fun _ h => absurd h (Nat.not_lt_zero _))⟩
    case round =>
      obtain ⟨k, hk, rfl, hB, HA⟩ := hrel
      by_cases hlt : k < F1.length
      · have hlt2 : k < F2.length := by have := HL.out; omega
        obtain ⟨b, off, rfl, hb, hcx⟩ := H1.out (by omega)
        obtain ⟨b', off', rfl, hb', hcx'⟩ := H2.out (by omega)
        have c0 := hcx k hlt
        have e0 := hcx' k hlt2
        have d0 := (hB.cell (p := ⟨b, off + k, none⟩) hb).trans c0
        have f0 := (hB.cell (p := ⟨b', off' + k, none⟩) hb').trans e0
        clear c0 e0 hcx hcx'
        by_cases q0 : (ig F1 k) = (ig F2 k)
        · have HB : Hid (∀ j, j < k + 1 → ig F1 j = ig F2 j) := Lib.hid fun j hj => by
            rcases Nat.lt_or_ge j k with l | l
            · exact HA.out j l
            · obtain rfl : j = k := by omega
              exact q0
          have g0 : ((ig F1 k) == (ig F2 k)) = true := beq_iff_eq.2 q0
          have h0 : ((ig F1 k) != (ig F2 k)) = false := bne_eq_false_iff_eq.2 q0
          clear q0
          go_wp2_with fail
          go_quiet (fail)
          go_wp2
          go_roundw
          case rel => exact ⟨k + 1, by omega, by go_num, below_drewN hB _, HB⟩
          case measure => simp [intOf]; omega
        · have H : Hid (decide (F1 = F2) = false) := Lib.hid (decide_eq_false (fun e => q0 (by rw [e])))
          have g0 : ((ig F1 k) == (ig F2 k)) = false := beq_eq_false_iff_ne.2 q0
          have h0 : ((ig F1 k) != (ig F2 k)) = true := bne_iff_ne.2 q0
          clear q0
          go_wp2_with fail
          go_quiet (fail)
          go_wp2
          go_ret
          exact ⟨congrArg (fun b => Ending.returned (.bool b)) H.out.symm, below_drewN hB _⟩
      · obtain rfl : k = F1.length := by omega
        have H : Hid (decide (F1 = F2) = true) := Lib.hid (decide_eq_true (ig_ext F1 F2 HL.out HA.out))
        go_wp2
        go_ret
        exact ⟨congrArg (fun b => Ending.returned (.bool b)) H.out.symm, hB⟩
  · have hn : ((F1.length : Int) != (F2.length : Int)) = true := bne_iff_ne.2 (by omega)
    have H : Hid (decide (F1 = F2) = false) := Lib.hid (decide_eq_false (fun e => hle (by rw [e])))
    clear hle
    go_enter Try.func16, Try.ntmps16
    go_wp2
    go_ret
    exact ⟨congrArg (fun b => Ending.returned (.bool b)) H.out.symm, Below.refl _ _⟩

set_option maxHeartbeats 4000000 in
theorem str_equal (a1 a2 : Option Addr) (F1 F2 : List (ByteArray)) (cap1 cap2 : Nat) (w : World) (hl : F1.length ≤ 1100) (h1 : Strs w.heap.size w a1 F1) (h2 : Strs w.heap.size w a2 F2) (hl2 : F2.length ≤ 1100) :
    Calls Try.prog 19 #[.slice a1 F1.length cap1, .slice a2 F2.length cap2] w fun e w' => e = .returned (.bool (decide (F1 = F2))) ∧ Below w.heap.size w w' := by
  have H1 := Lib.hid h1
  have H2 := Lib.hid h2
  clear h1 h2
  by_cases hle : F1.length = F2.length
  · have hn : ((F1.length : Int) != (F2.length : Int)) = false := by rw [bne_eq_false_iff_eq]; omega
    have HL := Lib.hid hle; clear hle
    go_enter Try.func19, Try.ntmps19
    go_wp2
    go_loopw [13] (fun i wr => ∃ k : Nat, k ≤ F1.length ∧ i = .int .i64 k ∧ Below w.heap.size w wr ∧ Hid (∀ j, j < k → sg F1 j = sg F2 j)) (fun i _ => F1.length - (intOf i).toNat)
    case atStart => exact ⟨0, Nat.zero_le _, rfl, Below.refl _ _, Lib.hid (fun _ h => absurd h (Nat.not_lt_zero _))⟩
    case round =>
      obtain ⟨k, hk, rfl, hB, HA⟩ := hrel
      by_cases hlt : k < F1.length
      · have hlt2 : k < F2.length := by have := HL.out; omega
        obtain ⟨b, off, rfl, hb, hcx⟩ := H1.out (by omega)
        obtain ⟨b', off', rfl, hb', hcx'⟩ := H2.out (by omega)
        have c0 := hcx k hlt
        have e0 := hcx' k hlt2
        have d0 := (hB.cell (p := ⟨b, off + k, none⟩) hb).trans c0
        have f0 := (hB.cell (p := ⟨b', off' + k, none⟩) hb').trans e0
        clear c0 e0 hcx hcx'
        by_cases q0 : (sg F1 k) = (sg F2 k)
        · have HB : Hid (∀ j, j < k + 1 → sg F1 j = sg F2 j) := Lib.hid fun j hj => by
            rcases Nat.lt_or_ge j k with l | l
            · exact HA.out j l
            · obtain rfl : j = k := by omega
              exact q0
          have g0 := str_eq (sg F1 k) (sg F2 k)
          rw [decide_eq_true q0] at g0
          clear q0
          go_wp2_with fail
          go_quiet (fail)
          go_wp2
          go_roundw
          case rel => exact ⟨k + 1, by omega, by go_num, below_drewN hB _, HB⟩
          case measure => simp [intOf]; omega
        · have H : Hid (decide (F1 = F2) = false) := Lib.hid (decide_eq_false (fun e => q0 (by rw [e])))
          have g0 := str_eq (sg F1 k) (sg F2 k)
          rw [decide_eq_false q0] at g0
          clear q0
          go_wp2_with fail
          go_quiet (fail)
          go_wp2
          go_ret
          exact ⟨congrArg (fun b => Ending.returned (.bool b)) H.out.symm, below_drewN hB _⟩
      · obtain rfl : k = F1.length := by omega
        have H : Hid (decide (F1 = F2) = true) := Lib.hid (decide_eq_true (sg_ext F1 F2 HL.out HA.out))
        go_wp2
        go_ret
        exact ⟨congrArg (fun b => Ending.returned (.bool b)) H.out.symm, hB⟩
  · have hn : ((F1.length : Int) != (F2.length : Int)) = true := bne_iff_ne.2 (by omega)
    have H : Hid (decide (F1 = F2) = false) := Lib.hid (decide_eq_false (fun e => hle (by rw [e])))
    clear hle
    go_enter Try.func19, Try.ntmps19
    go_wp2
    go_ret
    exact ⟨congrArg (fun b => Ending.returned (.bool b)) H.out.symm, Below.refl _ _⟩

set_option maxHeartbeats 4000000 in
theorem fin_equal (a1 a2 : Option Addr) (F1 F2 : List (Int × ByteArray)) (cap1 cap2 : Nat) (w : World) (hl : F1.length ≤ 1100) (h1 : Finds w.heap.size w a1 F1) (h2 : Finds w.heap.size w a2 F2) (hl2 : F2.length ≤ 1100) :
    Calls Try.prog 22 #[.slice a1 F1.length cap1, .slice a2 F2.length cap2] w fun e w' => e = .returned (.bool (decide (F1 = F2))) ∧ Below w.heap.size w w' := by
  have H1 := Lib.hid h1
  have H2 := Lib.hid h2
  clear h1 h2
  by_cases hle : F1.length = F2.length
  · have hn : ((F1.length : Int) != (F2.length : Int)) = false := by rw [bne_eq_false_iff_eq]; omega
    have HL := Lib.hid hle; clear hle
    go_enter Try.func22, Try.ntmps22
    go_wp2
    go_loopw [13] (fun i wr => ∃ k : Nat, k ≤ F1.length ∧ i = .int .i64 k ∧ Below w.heap.size w wr ∧ Hid (∀ j, j < k → fg F1 j = fg F2 j)) (fun i _ => F1.length - (intOf i).toNat)
    case atStart => exact ⟨0, Nat.zero_le _, rfl, Below.refl _ _, Lib.hid (fun _ h => absurd h (Nat.not_lt_zero _))⟩
    case round =>
      obtain ⟨k, hk, rfl, hB, HA⟩ := hrel
      by_cases hlt : k < F1.length
      · have hlt2 : k < F2.length := by have := HL.out; omega
        obtain ⟨b, off, rfl, hb, hcx⟩ := H1.out (by omega)
        obtain ⟨b', off', rfl, hb', hcx'⟩ := H2.out (by omega)
        obtain ⟨c0, c1⟩ := hcx k hlt
        obtain ⟨e0, e1⟩ := hcx' k hlt2
        have d0 := (hB.cell (p := ⟨b, off + k * 2, none⟩) hb).trans c0
        have d1 := (hB.cell (p := ⟨b, off + k * 2 + 1, none⟩) hb).trans c1
        have f0 := (hB.cell (p := ⟨b', off' + k * 2, none⟩) hb').trans e0
        have f1 := (hB.cell (p := ⟨b', off' + k * 2 + 1, none⟩) hb').trans e1
        clear c0 c1 e0 e1 hcx hcx'
        by_cases q0 : (fg F1 k).1 = (fg F2 k).1
        · by_cases q1 : (fg F1 k).2 = (fg F2 k).2
          · have HB : Hid (∀ j, j < k + 1 → fg F1 j = fg F2 j) := Lib.hid fun j hj => by
              rcases Nat.lt_or_ge j k with l | l
              · exact HA.out j l
              · obtain rfl : j = k := by omega
                exact Prod.ext q0 q1
            have g0 : ((fg F1 k).1 == (fg F2 k).1) = true := beq_iff_eq.2 q0
            have h0 : ((fg F1 k).1 != (fg F2 k).1) = false := bne_eq_false_iff_eq.2 q0
            have g1 := str_eq (fg F1 k).2 (fg F2 k).2
            rw [decide_eq_true q1] at g1
            clear q0 q1
            go_wp2_with fail
            go_quiet (fail)
            go_wp2
            go_roundw
            case rel => exact ⟨k + 1, by omega, by go_num, below_drewN hB _, HB⟩
            case measure => simp [intOf]; omega
          · have H : Hid (decide (F1 = F2) = false) := Lib.hid (decide_eq_false (fun e => q1 (by rw [e])))
            have g0 : ((fg F1 k).1 == (fg F2 k).1) = true := beq_iff_eq.2 q0
            have h0 : ((fg F1 k).1 != (fg F2 k).1) = false := bne_eq_false_iff_eq.2 q0
            have g1 := str_eq (fg F1 k).2 (fg F2 k).2
            rw [decide_eq_false q1] at g1
            clear q0 q1
            go_wp2_with fail
            go_quiet (fail)
            go_wp2
            go_ret
            exact ⟨congrArg (fun b => Ending.returned (.bool b)) H.out.symm, below_drewN hB _⟩
        · have H : Hid (decide (F1 = F2) = false) := Lib.hid (decide_eq_false (fun e => q0 (by rw [e])))
          have g0 : ((fg F1 k).1 == (fg F2 k).1) = false := beq_eq_false_iff_ne.2 q0
          have h0 : ((fg F1 k).1 != (fg F2 k).1) = true := bne_iff_ne.2 q0
          clear q0
          go_wp2_with fail
          go_quiet (fail)
          go_wp2
          go_ret
          exact ⟨congrArg (fun b => Ending.returned (.bool b)) H.out.symm, below_drewN hB _⟩
      · obtain rfl : k = F1.length := by omega
        have H : Hid (decide (F1 = F2) = true) := Lib.hid (decide_eq_true (fg_ext F1 F2 HL.out HA.out))
        go_wp2
        go_ret
        exact ⟨congrArg (fun b => Ending.returned (.bool b)) H.out.symm, hB⟩
  · have hn : ((F1.length : Int) != (F2.length : Int)) = true := bne_iff_ne.2 (by omega)
    have H : Hid (decide (F1 = F2) = false) := Lib.hid (decide_eq_false (fun e => hle (by rw [e])))
    clear hle
    go_enter Try.func22, Try.ntmps22
    go_wp2
    go_ret
    exact ⟨congrArg (fun b => Ending.returned (.bool b)) H.out.symm, Below.refl _ _⟩

theorem num_info : (Try.prog.info? 3).map (fun i => (i.zero, i.size, i.bytes)) = some (some (.int .i64 0), 1, 8) := by kernel_rfl

set_option maxHeartbeats 2000000 in
theorem num_clone (a : Option Addr) (L : List (Int)) (cap : Nat) (w : World) (hlen : L.length ≤ 1100) (hnil : a = none → cap = 0) (hI : Nums w.heap.size w a L) :
    Calls Try.prog 29 #[.slice a L.length cap] w fun e w' => Hid (∃ v, e = .returned v ∧ w'.ownsRow w.heap.size 3 1 v L.length (nflat L) ∧ Below w.heap.size w w') := by
  obtain ⟨i0, hi, hz0, hz1, hz2⟩ := info_parts num_info
  cases a with
  | none =>
    have h0 : L.length = 0 := by
      rcases Nat.eq_zero_or_pos L.length with h | h
      · exact h
      · obtain ⟨b, off, e, _⟩ := hI h
        cases e
    obtain rfl : L = [] := List.eq_nil_of_length_eq_zero h0
    obtain rfl := hnil rfl
    clear hI h0 hnil
    have hne := fun (w : World) => Lib.run_eql_slice_nil (P := Try.prog) w 26 3 none 0 0 0 0 Try.underlying26
    go_enter Try.func29, Try.ntmps29
    go_wp2
    go_ret
    exact Lib.hid ⟨_, rfl, World.ownsRow_nil _ _ _ _, Below.refl _ _⟩
  | some ad =>
    have HI := Lib.hid hI; clear hI
    have hne := fun (w : World) => Lib.run_eql_slice_nil (P := Try.prog) w 26 3 (some ad) L.length cap 0 0 Try.underlying26
    have hnews : ∀ j u, (nflat L)[j]? = some u → (w.alloc (.cells #[] 3)).cell? (ad.add j) = some u := fun j u hj => by
      have hlt : j < L.length := by
        rw [← num_len]
        exact (List.getElem?_eq_some_iff.1 hj).1
      obtain ⟨b, off, e, _⟩ := HI.out (by omega)
      cases e
      have h1 := num_cells HI.out j u hj
      rw [Go.WideShapes.add_plain] at h1 ⊢
      exact (World.cell?_alloc_lt _ _ _ (World.block_lt_of_cell? w _ h1)).trans h1
    have HN := Lib.hid hnews; clear hnews
    go_enter Try.func29, Try.ntmps29
    go_wp2_with (at_builtin; refine wpList_append_own _ rfl _ _ 26 rfl w.heap.size 3 i0 (.int .i64 0) 1 8 Try.underlying26 hi hz0 hz1 hz2 rfl (by decide) _ 0 [] rfl (World.ownsRow_lit w #[] 0 (Nat.le_refl _) (by unfold maxLen; omega) rfl) ad L.length cap (nflat L) rfl (by rw [num_len, Nat.mul_one]) HN.out (num_one L) (by unfold maxLen; omega) (by omega) (by simp) ?_; intro v' w1 hown1 hgrow1 _)
    go_ret
    rw [Nat.zero_add, List.nil_append] at hown1
    exact Lib.hid ⟨_, rfl, hown1, ((Below.refl _ w).alloc (Nat.le_refl _) _).grown hgrow1 (by simp) (fun k e => by cases e; exact Nat.le_refl _)⟩

theorem cue_info : (Try.prog.info? 56).map (fun i => (i.zero, i.size, i.bytes)) = some (some (.agg #[.string ⟨#[]⟩, .string ⟨#[]⟩, .int .i64 0, .int .i64 0, .slice none 0 0, .int .i64 0, .int .i64 0]), 7, 88) := by kernel_rfl

set_option maxHeartbeats 2000000 in
theorem cue_clone (a : Option Addr) (L : List (CueR)) (cap : Nat) (w : World) (hlen : L.length ≤ 1100) (hnil : a = none → cap = 0) (hI : Cues w.heap.size w a L) :
    Calls Try.prog 30 #[.slice a L.length cap] w fun e w' => Hid (∃ v, e = .returned v ∧ w'.ownsRow w.heap.size 56 7 v L.length (cflat L) ∧ Below w.heap.size w w') := by
  obtain ⟨i0, hi, hz0, hz1, hz2⟩ := info_parts cue_info
  cases a with
  | none =>
    have h0 : L.length = 0 := by
      rcases Nat.eq_zero_or_pos L.length with h | h
      · exact h
      · obtain ⟨b, off, e, _⟩ := hI h
        cases e
    obtain rfl : L = [] := List.eq_nil_of_length_eq_zero h0
    obtain rfl := hnil rfl
    clear hI h0 hnil
    have hne := fun (w : World) => Lib.run_eql_slice_nil (P := Try.prog) w 22 56 none 0 0 0 0 Try.underlying22
    go_enter Try.func30, Try.ntmps30
    go_wp2
    go_ret
    exact Lib.hid ⟨_, rfl, World.ownsRow_nil _ _ _ _, Below.refl _ _⟩
  | some ad =>
    have HI := Lib.hid hI; clear hI
    have hne := fun (w : World) => Lib.run_eql_slice_nil (P := Try.prog) w 22 56 (some ad) L.length cap 0 0 Try.underlying22
    have hnews : ∀ j u, (cflat L)[j]? = some u → (w.alloc (.cells #[] 56)).cell? (ad.add j) = some u := fun j u hj => by
      have hlt : j < L.length * 7 := by
        rw [← cue_len]
        exact (List.getElem?_eq_some_iff.1 hj).1
      obtain ⟨b, off, e, _⟩ := HI.out (by omega)
      cases e
      have h1 := cue_cells HI.out j u hj
      rw [Go.WideShapes.add_plain] at h1 ⊢
      exact (World.cell?_alloc_lt _ _ _ (World.block_lt_of_cell? w _ h1)).trans h1
    have HN := Lib.hid hnews; clear hnews
    go_enter Try.func30, Try.ntmps30
    go_wp2_with (at_builtin; refine wpList_append_own _ rfl _ _ 22 rfl w.heap.size 56 i0 (.agg #[.string ⟨#[]⟩, .string ⟨#[]⟩, .int .i64 0, .int .i64 0, .slice none 0 0, .int .i64 0, .int .i64 0]) 7 88 Try.underlying22 hi hz0 hz1 hz2 rfl (by decide) _ 0 [] rfl (World.ownsRow_lit w #[] 0 (Nat.le_refl _) (by unfold maxLen; omega) rfl) ad L.length cap (cflat L) rfl (cue_len L) HN.out (cue_one L) (by unfold maxLen; omega) (by omega) (by simp) ?_; intro v' w1 hown1 hgrow1 _)
    go_ret
    rw [Nat.zero_add, List.nil_append] at hown1
    exact Lib.hid ⟨_, rfl, hown1, ((Below.refl _ w).alloc (Nat.le_refl _) _).grown hgrow1 (by simp) (fun k e => by cases e; exact Nat.le_refl _)⟩
end Go.Proofs.Ytapjhjpibefooaa
