/-
  THE WALKS of Within, Peak (package resources), Beyond, Peak (reference 42).
-/
import Derived.Test.YtlnodjcmdnmnlaaValid
namespace Go.Proofs.Ytlnodjcmdnmnlaa
open Go.RowKit Go.Shelf

def beyondI (L : List (Int × Int)) (m : Int) : Int := load_first L (fun r => decide (m < r.2))
def withinP (L : List (Int × Int)) (m : Int) : Bool × Int × Int := if validB L then (if beyondI L m < 0 then (true, 0, 0) else (false, (og L (beyondI L m).toNat).1, 0)) else (false, 0, 1)
def peakI (L : List (Int × Int)) : Nat → Nat
  | 0 => 0
  | k + 1 => if (og L (peakI L k)).2 < (og L k).2 then k else peakI L k
theorem peakI_lt (L : List (Int × Int)) (k : Nat) (h : 0 < L.length) (hk : k ≤ L.length) : peakI L k < L.length := by
  induction k with
  | zero => exact h
  | succ k ih =>
    simp only [peakI]
    split
    · omega
    · exact ih (by omega)
def peakP (L : List (Int × Int)) : Int × Int × Int := if validB L then ((og L (peakI L L.length)).2, (og L (peakI L L.length)).1, 0) else (0, 0, 1)

set_option maxHeartbeats 4000000 in
theorem refbeyond_any (a : Option Addr) (L : List (Int × Int)) (cap : Nat) (m : Int) (n₀ : Nat) (w : World) (hl : L.length ≤ 1000000) (hL : Loads n₀ w a L) :
    Calls Try.prog 24 #[.slice a L.length cap, .int .i64 m] w fun e w' => e = .returned (.int .i64 (beyondI L m)) ∧ w = w' := by
  have HL := Lib.hid hL; clear hL
  go_enter Try.func24, Try.ntmps24
  go_wp2
  go_loop [5] (fun i => ∃ k : Nat, k ≤ L.length ∧ i = .int .i64 k ∧ Hid (∀ j, j < k → decide (m < (og L j).2) = false)) (fun i => L.length - (intOf i).toNat)
  case atStart => exact ⟨0, Nat.zero_le _, rfl, Lib.hid (fun _ h => absurd h (Nat.not_lt_zero _))⟩
  case round =>
    obtain ⟨k, hk, rfl, HA⟩ := hrel
    by_cases hlt : k < L.length
    · obtain ⟨b, off, rfl, hb, hc⟩ := HL.out (by omega)
      have c1 := (hc k hlt).2
      clear hc
      by_cases p : m < (og L k).2
      · have H : Hid (beyondI L m = k) := Lib.hid (load_first_hit _ _ k hlt (decide_eq_true p) HA.out)
        go_wp2
        go_ret
        exact ⟨ret_int H.out.symm, rfl⟩
      · have HB : Hid (∀ j, j < k + 1 → decide (m < (og L j).2) = false) := Lib.hid fun j hj => by
          rcases Nat.lt_or_ge j k with l | l
          · exact HA.out j l
          · obtain rfl : j = k := by omega
            exact decide_eq_false p
        go_wp2
        go_round
        case rel => exact ⟨k + 1, by omega, by go_num, HB⟩
        case measure => simp [intOf]; omega
    · obtain rfl : k = L.length := by omega
      have H : Hid (beyondI L m = -1) := Lib.hid (load_first_miss _ _ HA.out)
      go_wp2
      go_ret
      exact ⟨ret_int H.out.symm, rfl⟩
set_option maxHeartbeats 4000000 in
theorem refpeak_any (a : Option Addr) (L : List (Int × Int)) (cap : Nat) (w : World) (hl : L.length ≤ 1000000) (h0 : 0 < L.length) (hL : Loads w.heap.size w a L) :
    Calls Try.prog 23 #[.slice a L.length cap] w fun e w' => e = .returned (.int .i64 (peakI L L.length : Nat)) ∧ Below w.heap.size w w' := by
  have HL := Lib.hid hL; clear hL
  go_enter Try.func23, Try.ntmps23
  go_wp2
  go_loopw [3, 4] (fun v i wr => ∃ k : Nat, k ≤ L.length ∧ i = .int .i64 k ∧ v = .int .i64 (peakI L k : Nat) ∧ Below w.heap.size w wr) (fun _ i _ => L.length - (intOf i).toNat)
  case atStart => exact ⟨0, Nat.zero_le _, rfl, rfl, Below.refl _ _⟩
  case round =>
    obtain ⟨k, hk, rfl, rfl, hB⟩ := hrel
    have hpl := peakI_lt L k h0 hk
    by_cases hlt : k < L.length
    · obtain ⟨b, off, rfl, hb, hc⟩ := HL.out (by omega)
      have c1 := (hB.cell (p := ⟨b, off + k * 2 + 1, none⟩) hb).trans (hc k hlt).2
      have c2 := (hB.cell (p := ⟨b, off + peakI L k * 2 + 1, none⟩) hb).trans (hc _ hpl).2
      have HS : Hid (peakI L (k + 1) = if (og L (peakI L k)).2 < (og L k).2 then k else peakI L k) := Lib.hid rfl
      clear hc
      generalize peakI L k = p at *
      by_cases q : (og L p).2 < (og L k).2
      · have z := decide_eq_true q
        have HS2 : Hid (peakI L (k + 1) = k) := Lib.hid (by rw [HS.out, if_pos q])
        clear q
        go_wp2_with fail
        go_quiet (fail)
        clear z
        go_wp2_with fail
        go_roundw
        case rel => exact ⟨k + 1, by omega, by go_num, by rw [HS2.out], below_drewN hB _⟩
        case measure => simp [intOf]; omega
      · have z := decide_eq_false q
        have HS2 : Hid (peakI L (k + 1) = p) := Lib.hid (by rw [HS.out, if_neg q])
        clear q
        go_wp2_with fail
        go_quiet (fail)
        clear z
        go_wp2_with fail
        go_roundw
        case rel => exact ⟨k + 1, by omega, by go_num, by rw [HS2.out], below_drewN hB _⟩
        case measure => simp [intOf]; omega
    · obtain rfl : k = L.length := by omega
      go_wp2_with fail
      go_ret
      exact ⟨rfl, hB⟩
set_option maxRecDepth 100000 in
set_option maxHeartbeats 8000000 in
theorem within_any (a : Option Addr) (L : List (Int × Int)) (cap : Nat) (m : Int) (w : World) (hl : L.length ≤ 1000000) (hL : Loads w.heap.size w a L) :
    Calls Try.prog 21 #[.slice a L.length cap, .int .i64 m] w fun e w' => e = .returned (.tuple #[.bool (withinP L m).1, .int .i64 (withinP L m).2.1, .int .i64 (withinP L m).2.2]) ∧ Below w.heap.size w w' := by
  have HL := Lib.hid hL; clear hL
  cases hv : validB L
  · have HV := Lib.hid hv
    have HW : Hid (withinP L m = (false, 0, 1)) := Lib.hid (by unfold withinP; rw [hv]; rfl)
    clear hv
    rw [HW.out]
    go_enter Try.func21, Try.ntmps21
    go_wp2_with (go_at_call 30; (with_reducible refine (valid_any _ L _ _ (by omega) HL.out).mono ?_); rintro e w1 ⟨rfl, hb1⟩; rw [HV.out])
    go_ret3
    exact ⟨rfl, hb1⟩
  · have HV := Lib.hid hv
    have HW : Hid (withinP L m = if beyondI L m < 0 then (true, 0, 0) else (false, (og L (beyondI L m).toNat).1, 0)) := Lib.hid (by unfold withinP; rw [hv]; rfl)
    clear hv
    go_enter Try.func21, Try.ntmps21
    go_wp2_with (go_at_call 30; (with_reducible refine (valid_any _ L _ _ (by omega) HL.out).mono ?_); rintro e w1 ⟨rfl, hb1⟩; rw [HV.out])
    go_loopw [14] (fun i wr => ∃ k : Nat, k ≤ L.length ∧ i = .int .i64 k ∧ Below w.heap.size w wr ∧ Hid (∀ j, j < k → decide (m < (og L j).2) = false)) (fun i _ => L.length - (intOf i).toNat)
    case atStart => exact ⟨0, Nat.zero_le _, rfl, hb1, Lib.hid (fun _ h => absurd h (Nat.not_lt_zero _))⟩
    case round =>
      clear hb1
      obtain ⟨k, hk, rfl, hB, HA⟩ := hrel
      have hbs := hB.size
      by_cases hlt : k < L.length
      · obtain ⟨b, off, rfl, hb, hc⟩ := HL.out (by omega)
        have c0 := (hB.cell (p := ⟨b, off + k * 2, none⟩) hb).trans (hc k hlt).1
        have c1 := (hB.cell (p := ⟨b, off + k * 2 + 1, none⟩) hb).trans (hc k hlt).2
        clear hc
        by_cases p : m < (og L k).2
        · have H : Hid (beyondI L m = k) := Lib.hid (load_first_hit _ _ k hlt (decide_eq_true p) HA.out)
          go_wp2_with fail
          go_quiet (fail)
          go_wp2_with fail
          go_ret3
          rw [HW.out, H.out, if_neg (by omega), Int.toNat_natCast]
          exact ⟨rfl, below_drewN (hB.alloc hbs _) _⟩
        · have HB : Hid (∀ j, j < k + 1 → decide (m < (og L j).2) = false) := Lib.hid fun j hj => by
            rcases Nat.lt_or_ge j k with l | l
            · exact HA.out j l
            · obtain rfl : j = k := by omega
              exact decide_eq_false p
          go_wp2_with fail
          go_roundw
          case rel => exact ⟨k + 1, by omega, by go_num, hB.alloc hbs _, HB⟩
          case measure => simp [intOf]; omega
      · obtain rfl : k = L.length := by omega
        have H : Hid (beyondI L m = -1) := Lib.hid (load_first_miss _ _ HA.out)
        go_wp2_with fail
        go_ret3
        rw [HW.out, H.out, if_pos (by decide)]
        exact ⟨rfl, hB⟩
set_option maxRecDepth 100000 in
set_option maxHeartbeats 8000000 in
theorem peak_any (a : Option Addr) (L : List (Int × Int)) (cap : Nat) (w : World) (hl : L.length ≤ 1000000) (hL : Loads w.heap.size w a L) :
    Calls Try.prog 20 #[.slice a L.length cap] w fun e w' => e = .returned (.tuple #[.int .i64 (peakP L).1, .int .i64 (peakP L).2.1, .int .i64 (peakP L).2.2]) ∧ Below w.heap.size w w' := by
  have HL := Lib.hid hL; clear hL
  cases hv : validB L
  · have HV := Lib.hid hv
    have HW : Hid (peakP L = (0, 0, 1)) := Lib.hid (by unfold peakP; rw [hv]; rfl)
    clear hv
    rw [HW.out]
    go_enter Try.func20, Try.ntmps20
    go_wp2_with (go_at_call 30; (with_reducible refine (valid_any _ L _ _ (by omega) HL.out).mono ?_); rintro e w1 ⟨rfl, hb1⟩; rw [HV.out])
    go_ret3
    exact ⟨rfl, hb1⟩
  · have HV := Lib.hid hv
    have h0 := (valid_step hv).1
    have HW : Hid (peakP L = ((og L (peakI L L.length)).2, (og L (peakI L L.length)).1, 0)) := Lib.hid (by unfold peakP; rw [hv]; rfl)
    clear hv
    obtain ⟨b, off, rfl, hb, hc⟩ := HL.out (by omega)
    have HC := Lib.hid hc
    have HZ : Hid (∀ wr, Below w.heap.size w wr → wr.cell? ⟨b, off, none⟩ = some (.int .i64 (og L 0).1) ∧ wr.cell? ⟨b, off + 1, none⟩ = some (.int .i64 (og L 0).2)) := Lib.hid fun wr h => ⟨(h.cell (p := ⟨b, off, none⟩) hb).trans (by have := (hc 0 (by omega)).1; simpa using this), (h.cell (p := ⟨b, off + 1, none⟩) hb).trans (by have := (hc 0 (by omega)).2; simpa using this)⟩
    clear hc
    go_enter Try.func20, Try.ntmps20
    go_wp2_with (go_at_call 30; (with_reducible refine (valid_any _ L _ _ (by omega) HL.out).mono ?_); rintro e w1 ⟨rfl, hb1⟩; rw [HV.out]; have hbs1 := hb1.size; obtain ⟨z0, z1⟩ := HZ.out _ hb1)
    have hb2 : Below w.heap.size w (w1.alloc (.cells #[.int .i64 (og L 0).1, .int .i64 (og L 0).2] 39)) := hb1.alloc hbs1 _
    have b0 : (w1.alloc (.cells #[.int .i64 (og L 0).1, .int .i64 (og L 0).2] 39)).cell? ⟨w1.heap.size, 0, none⟩ = some (.int .i64 (og L 0).1) := by simp
    have b1 : (w1.alloc (.cells #[.int .i64 (og L 0).1, .int .i64 (og L 0).2] 39)).cell? ⟨w1.heap.size, 1, none⟩ = some (.int .i64 (og L 0).2) := by simp
    have f0 : (w1.alloc (.cells #[.int .i64 (og L 0).1, .int .i64 (og L 0).2] 39)).frozen? ⟨w1.heap.size, 0, none⟩ = false := by simp
    have f1 : (w1.alloc (.cells #[.int .i64 (og L 0).1, .int .i64 (og L 0).2] 39)).frozen? ⟨w1.heap.size, 1, none⟩ = false := by simp
    generalize w1.alloc (.cells #[.int .i64 (og L 0).1, .int .i64 (og L 0).2] 39) = w2 at *
    go_loopw [16] (fun i wr => ∃ k : Nat, k ≤ L.length ∧ i = .int .i64 k ∧ Below w.heap.size w wr ∧ wr.cell? ⟨w1.heap.size, 0, none⟩ = some (.int .i64 (og L (peakI L k)).1) ∧ wr.cell? ⟨w1.heap.size, 1, none⟩ = some (.int .i64 (og L (peakI L k)).2) ∧ wr.frozen? ⟨w1.heap.size, 0, none⟩ = false ∧ wr.frozen? ⟨w1.heap.size, 1, none⟩ = false) (fun i _ => L.length - (intOf i).toNat)
    case atStart => exact ⟨0, Nat.zero_le _, rfl, hb2, b0, b1, f0, f1⟩
    case round =>
      clear hb2 b0 b1 f0 f1 z0 z1
      obtain ⟨k, hk, rfl, hB, b0, b1, f0, f1⟩ := hrel
      have hbs := hB.size
      have hpl := peakI_lt L k (by omega) hk
      have hwz : w1.heap.size < wr.heap.size := World.block_lt_of_cell? _ _ b0
      by_cases hlt : k < L.length
      · have c0 := (hB.cell (p := ⟨b, off + k * 2, none⟩) hb).trans (HC.out k hlt).1
        have c1 := (hB.cell (p := ⟨b, off + k * 2 + 1, none⟩) hb).trans (HC.out k hlt).2
        have HS : Hid (peakI L (k + 1) = if (og L (peakI L k)).2 < (og L k).2 then k else peakI L k) := Lib.hid rfl
        generalize peakI L k = p at *
        by_cases q : (og L p).2 < (og L k).2
        · have HS2 : Hid (peakI L (k + 1) = k) := Lib.hid (by rw [HS.out, if_pos q])
          go_wp2_with fail
          go_roundw
          case rel =>
            have s0 := World.cell?_setCell_same wr ⟨w1.heap.size, 0, none⟩ (.int .i64 (og L k).1) b0
            have s1 : (wr.setCell ⟨w1.heap.size, 0, none⟩ (.int .i64 (og L k).1)).cell? ⟨w1.heap.size, 1, none⟩ = some (.int .i64 (og L p).2) := (World.cell?_setCell_other _ _ _ _ (fun x => absurd (congrArg Addr.off x) (by simp))).trans b1
            have s2 : ((wr.setCell ⟨w1.heap.size, 0, none⟩ (.int .i64 (og L k).1)).setCell ⟨w1.heap.size, 1, none⟩ (.int .i64 (og L k).2)).cell? ⟨w1.heap.size, 0, none⟩ = some (.int .i64 (og L k).1) := (World.cell?_setCell_other _ _ _ _ (fun x => absurd (congrArg Addr.off x) (by simp))).trans s0
            have s3 := World.cell?_setCell_same _ ⟨w1.heap.size, 1, none⟩ (.int .i64 (og L k).2) s1
            have hws : w1.heap.size < ((wr.setCell ⟨w1.heap.size, 0, none⟩ (.int .i64 (og L k).1)).setCell ⟨w1.heap.size, 1, none⟩ (.int .i64 (og L k).2)).heap.size := by simp; omega
            exact ⟨k + 1, by omega, by go_num, ((hB.setCell (p := ⟨w1.heap.size, 0, none⟩) hbs1 _).setCell (p := ⟨w1.heap.size, 1, none⟩) hbs1 _).alloc (by simp; omega) _, by rw [HS2.out]; exact (World.cell?_alloc_lt _ _ _ hws).trans s2, by rw [HS2.out]; exact (World.cell?_alloc_lt _ _ _ hws).trans s3, ((below_new _ _).frozen (p := ⟨w1.heap.size, 0, none⟩) hws).trans (by simpa using f0), ((below_new _ _).frozen (p := ⟨w1.heap.size, 1, none⟩) hws).trans (by simpa using f1)⟩
          case measure => simp [intOf]; omega
        · have HS2 : Hid (peakI L (k + 1) = p) := Lib.hid (by rw [HS.out, if_neg q])
          go_wp2_with fail
          go_roundw
          case rel => exact ⟨k + 1, by omega, by go_num, hB.alloc hbs _, by rw [HS2.out]; exact (World.cell?_alloc_lt _ _ _ hwz).trans b0, by rw [HS2.out]; exact (World.cell?_alloc_lt _ _ _ hwz).trans b1, ((below_new _ _).frozen (p := ⟨w1.heap.size, 0, none⟩) hwz).trans f0, ((below_new _ _).frozen (p := ⟨w1.heap.size, 1, none⟩) hwz).trans f1⟩
          case measure => simp [intOf]; omega
      · obtain rfl : k = L.length := by omega
        go_wp2_with fail
        go_quiet (fail)
        go_wp2_with fail
        go_ret3
        rw [HW.out]
        exact ⟨rfl, below_drewN hB _⟩
end Go.Proofs.Ytlnodjcmdnmnlaa
