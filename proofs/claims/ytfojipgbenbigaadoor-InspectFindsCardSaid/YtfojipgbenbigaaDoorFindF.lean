/-
  THE WALKS of slices.IndexFunc and ContainsFunc at []api.Finding, and of the closures of the law InspectFinds that ask for a name.
-/
import Derived.Test.YtfojipgbenbigaaDoorClone
namespace Go.Proofs.YtfojipgbenbigaaDoor
open Go.RowKit Go.Shelf

def finV (f : Int × ByteArray) : Value := .agg #[.int .i64 f.1, .string f.2]
/-- A closure that asks p of a finding, wherever it is called later. -/
def AsksF (g : Nat) (cb : Array Value) (n₀ : Nat) (w : World) (p : Int × ByteArray → Bool) : Prop :=
  ∀ (W : World) (r : Int × ByteArray), Below n₀ w W → Calls Tryd.prog g (#[finV r] ++ cb) W fun e w' => e = .returned (.bool (p r)) ∧ Below W.heap.size W w'

/-- The first index below n at which p holds. -/
def firstF (F : List (Int × ByteArray)) (p : Int × ByteArray → Bool) (n : Nat) : Int := match (List.range n).find? (fun i => p (fg F i)) with
  | some i => i
  | none => -1
theorem firstF_hit (F : List (Int × ByteArray)) (p : Int × ByteArray → Bool) (n k : Nat) (hk : k < n) (h : p (fg F k) = true) (hn : ∀ j, j < k → p (fg F j) = false) : firstF F p n = k := by
  unfold firstF
  have : (List.range n).find? (fun i => p (fg F i)) = some k := by
    rw [List.find?_eq_some_iff_getElem]
    refine ⟨by simpa using h, k, by simpa using hk, by simp, fun j hj => ?_⟩
    simpa using hn j hj
  rw [this]
theorem firstF_miss (F : List (Int × ByteArray)) (p : Int × ByteArray → Bool) (n : Nat) (hn : ∀ j, j < n → p (fg F j) = false) : firstF F p n = -1 := by
  unfold firstF
  have : (List.range n).find? (fun i => p (fg F i)) = none := by
    rw [List.find?_eq_none]
    intro x hx
    simpa using hn x (by simpa using hx)
  rw [this]

set_option maxHeartbeats 2000000 in
theorem indexFuncF_any (a : Option Addr) (F : List (Int × ByteArray)) (n cap n₀ g : Nat) (cb : Array Value) (p : Int × ByteArray → Bool) (w : World) (eg : ∀ args w, (callFunc g args).run Tryd.prog w = .ok (.enter g args) w)
    (hn : n ≤ F.length) (hl : F.length ≤ 1100) (hn₀ : n₀ ≤ w.heap.size) (hI : Finds n₀ w a F) (hp : AsksF g cb n₀ w p) :
    Calls Tryd.prog 32 #[.slice a n cap, .func (.func g) #[] cb] w fun e w' => e = .returned (.int .i64 (firstF F p n)) ∧ Below w.heap.size w w' := by
  have HI := Lib.hid hI; clear hI
  have HP := Lib.hid hp; clear hp
  go_enter Tryd.func32, Tryd.ntmps32
  go_wp2
  go_loopw [8] (fun i wr => ∃ k : Nat, k ≤ n ∧ i = .int .i64 k ∧ Below w.heap.size w wr ∧ Hid (∀ j, j < k → p (fg F j) = false)) (fun i _ => n - (intOf i).toNat)
  case atStart => exact ⟨0, Nat.zero_le _, rfl, Below.refl _ _, Lib.hid (fun _ h => absurd h (Nat.not_lt_zero _))⟩
  case round =>
    obtain ⟨k, hk, rfl, hB, HA⟩ := hrel
    by_cases hlt : k < n
    · obtain ⟨b, off, rfl, hb, hc⟩ := HI.out (by omega)
      obtain ⟨c0, c1⟩ := hc k (by omega)
      have d0 := (hB.cell (p := ⟨b, off + k * 2, none⟩) (show b < w.heap.size by omega)).trans c0
      have d1 := (hB.cell (p := ⟨b, off + k * 2 + 1, none⟩) (show b < w.heap.size by omega)).trans c1
      clear c0 c1 hc
      have HC := Lib.hid (show Calls Tryd.prog g (#[.agg #[.int .i64 (fg F k).1, .string (fg F k).2]] ++ cb) wr _ from HP.out wr (fg F k) (hB.mono hn₀))
      obtain ⟨bv, hbv⟩ : ∃ bv, p (fg F k) = bv := ⟨_, rfl⟩
      rw [hbv] at HC
      cases bv
      · have HB : Hid (∀ j, j < k + 1 → p (fg F j) = false) := Lib.hid fun j hj => by
          rcases Nat.lt_or_ge j k with l | l
          · exact HA.out j l
          · obtain rfl : j = k := by omega
            exact hbv
        clear hbv
        go_wp2_with ((with_reducible refine HC.out.mono ?_); rintro e w1 ⟨rfl, hb1⟩)
        go_roundw
        case rel => exact ⟨k + 1, by omega, by go_num, hB.trans (hb1.mono hB.size), HB⟩
        case measure => simp [intOf]; omega
      · have H := Lib.hid (firstF_hit F p n k hlt hbv HA.out)
        clear hbv
        go_wp2_with ((with_reducible refine HC.out.mono ?_); rintro e w1 ⟨rfl, hb1⟩)
        go_ret
        exact ⟨ret_int H.out.symm, hB.trans (hb1.mono hB.size)⟩
    · obtain rfl : k = n := by omega
      have H := Lib.hid (firstF_miss F p k HA.out)
      go_wp2
      go_ret
      exact ⟨ret_int H.out.symm, hB⟩

set_option maxHeartbeats 1000000 in
theorem containsFuncF_any (a : Option Addr) (F : List (Int × ByteArray)) (n cap n₀ g : Nat) (cb : Array Value) (p : Int × ByteArray → Bool) (w : World) (eg : ∀ args w, (callFunc g args).run Tryd.prog w = .ok (.enter g args) w)
    (hn : n ≤ F.length) (hl : F.length ≤ 1100) (hn₀ : n₀ ≤ w.heap.size) (hI : Finds n₀ w a F) (hp : AsksF g cb n₀ w p) :
    Calls Tryd.prog 30 #[.slice a n cap, .func (.func g) #[] cb] w fun e w' => e = .returned (.bool (decide (0 ≤ firstF F p n))) ∧ Below w.heap.size w w' := by
  have HC := Lib.hid (indexFuncF_any a F n cap n₀ g cb p w eg hn hl hn₀ hI hp)
  clear hI hp eg
  go_enter Tryd.func30, Tryd.ntmps30
  go_wp2_with (go_at_call 32; (with_reducible refine HC.out.mono ?_); rintro e w1 ⟨rfl, hb1⟩)
  go_ret
  exact ⟨rfl, hb1⟩
end Go.Proofs.YtfojipgbenbigaaDoor
