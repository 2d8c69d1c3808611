/-
  HOW A LOG LIES IN MEMORY; slices.Index and slices.Contains at []int; slices.Backward at []api.Log; inspect.last: the last entry of a rope that has one of some kinds.
-/
import Derived.Test.YtfojipgbenbigaaDoorLeafs
import Derived.RangeFuncBox
import Derived.RangeFuncLeaves
import Derived.RangeFuncNested
import Derived.RangeFuncCalls
import Derived.Shelf.Abstract
import Derived.OwnWalkIn
import Derived.TacticsInMore
import Derived.LoopNIn
import Derived.LoopIn
import Derived.Maps.AppendAt
namespace Go.Proofs.YtfojipgbenbigaaDoor
open Go.RowKit Go.Shelf
attribute [local go_sem] Oper.semAt_some

structure LogR where
  day : Int
  rope : ByteArray
  kind : Int
  runs : Int
def lg (L : List LogR) (i : Nat) : LogR := (L[i]?).getD ⟨0, ⟨#[]⟩, 0, 0⟩

/-- The elements of a slice at address a are L; they lie in a block below n₀. -/
def Logs (n₀ : Nat) (w : World) (a : Option Addr) (L : List LogR) : Prop :=
  0 < L.length → ∃ b off, a = some ⟨b, off, none⟩ ∧ b < n₀ ∧ ∀ i, i < L.length →
    w.cell? ⟨b, off + i * 4, none⟩ = some (.int .i64 (lg L i).day) ∧ w.cell? ⟨b, off + i * 4 + 1, none⟩ = some (.string (lg L i).rope) ∧
    w.cell? ⟨b, off + i * 4 + 2, none⟩ = some (.int .i64 (lg L i).kind) ∧ w.cell? ⟨b, off + i * 4 + 3, none⟩ = some (.int .i64 (lg L i).runs)
theorem Logs.below {n₀ : Nat} {w w' : World} {a : Option Addr} {L : List LogR} (h : Logs n₀ w a L) (hb : Below n₀ w w') : Logs n₀ w' a L := fun hl => by
  obtain ⟨b, off, rfl, hlt, hc⟩ := h hl
  exact ⟨b, off, rfl, hlt, fun i hi => ⟨(hb.cell (p := ⟨b, _, none⟩) hlt).trans (hc i hi).1, (hb.cell (p := ⟨b, _, none⟩) hlt).trans (hc i hi).2.1, (hb.cell (p := ⟨b, _, none⟩) hlt).trans (hc i hi).2.2.1, (hb.cell (p := ⟨b, _, none⟩) hlt).trans (hc i hi).2.2.2⟩⟩
theorem Logs.mono {n₀ n₁ : Nat} {w : World} {a : Option Addr} {L : List LogR} (h : Logs n₀ w a L) (hn : n₀ ≤ n₁) : Logs n₁ w a L := fun hl => by
  obtain ⟨b, off, rfl, hlt, hc⟩ := h hl
  exact ⟨b, off, rfl, by omega, hc⟩

def ig (L : List Int) (i : Nat) : Int := L[i]?.getD 0
theorem ig_eq (L : List Int) (i : Nat) (h : i < L.length) : ig L i = L[i] := by unfold ig; rw [List.getElem?_eq_getElem h]; rfl
/-- The same for a slice of ints. -/
def Nums (n₀ : Nat) (w : World) (a : Option Addr) (L : List Int) : Prop :=
  0 < L.length → ∃ b off, a = some ⟨b, off, none⟩ ∧ b < n₀ ∧ ∀ i, i < L.length → w.cell? ⟨b, off + i, none⟩ = some (.int .i64 (ig L i))
theorem Nums.below {n₀ : Nat} {w w' : World} {a : Option Addr} {L : List Int} (h : Nums n₀ w a L) (hb : Below n₀ w w') : Nums n₀ w' a L := fun hl => by
  obtain ⟨b, off, rfl, hlt, hc⟩ := h hl
  exact ⟨b, off, rfl, hlt, fun i hi => (hb.cell (p := ⟨b, _, none⟩) hlt).trans (hc i hi)⟩

/-- The first index of a number; -1 if there is none. -/
def idxI (L : List Int) (x : Int) : Int := if x ∈ L then (L.findIdx (· == x) : Int) else -1
def hasB (L : List Int) (x : Int) : Bool := decide (x ∈ L)

theorem idx_hit (L : List Int) (x : Int) (k : Nat) (hk : k < L.length) (hx : x = ig L k) (hn : ∀ j, j < k → x ≠ ig L j) : idxI L x = k ∧ x ∈ L := by
  have e : x = L[k] := by rw [hx, ig_eq L k hk]
  have hm : x ∈ L := by rw [e]; exact List.getElem_mem hk
  refine ⟨?_, hm⟩
  unfold idxI
  rw [if_pos hm]
  have : L.findIdx (· == x) = k := by
    rw [List.findIdx_eq hk]
    refine ⟨by simp [e], fun j hj => ?_⟩
    have := hn j hj
    rw [ig_eq L j (by omega)] at this
    exact beq_eq_false_iff_ne.2 (fun h => this h.symm)
  rw [this]
theorem idx_miss (L : List Int) (x : Int) (hn : ∀ j, j < L.length → x ≠ ig L j) : idxI L x = -1 ∧ ¬ x ∈ L := by
  have hm : ¬ x ∈ L := fun h => by
    obtain ⟨j, hj, e⟩ := List.getElem_of_mem h
    have := hn j hj
    rw [ig_eq L j hj] at this
    exact this e.symm
  exact ⟨by unfold idxI; rw [if_neg hm], hm⟩

set_option maxHeartbeats 1000000 in
theorem index_any (a : Option Addr) (L : List Int) (cap : Nat) (x : Int) (n₀ : Nat) (w : World) (hl : L.length ≤ 1000) (hL : Nums n₀ w a L) :
    Calls Tryd.prog 65 #[.slice a L.length cap, .int .i64 x] w fun e w' => e = .returned (.int .i64 (idxI L x)) ∧ w = w' := by
  have HL := Lib.hid hL; clear hL
  go_enter Tryd.func65, Tryd.ntmps65
  go_wp2
  go_loop [8] (fun i => ∃ k : Nat, k ≤ L.length ∧ i = .int .i64 k ∧ Hid (∀ j, j < k → x ≠ ig L j)) (fun i => L.length - (intOf i).toNat)
  case atStart => exact ⟨0, Nat.zero_le _, rfl, Lib.hid (fun _ h => absurd h (Nat.not_lt_zero _))⟩
  case round =>
    obtain ⟨k, hk, rfl, HA⟩ := hrel
    by_cases hlt : k < L.length
    · obtain ⟨b, off, rfl, _, hc⟩ := HL.out (by omega)
      have hck := hc k hlt
      clear hc
      by_cases hx : x = ig L k
      · have H := Lib.hid (idx_hit L x k hlt hx HA.out).1
        have hx' : (x == ig L k) = true := beq_iff_eq.2 hx
        clear hx
        go_wp2
        go_ret
        exact ⟨ret_int H.out.symm, rfl⟩
      · have hx' : (x == ig L k) = false := beq_eq_false_iff_ne.2 hx
        have HB : Hid (∀ j, j < k + 1 → x ≠ ig L j) := Lib.hid fun j hj => by
          rcases Nat.lt_or_ge j k with l | l
          · exact HA.out j l
          · obtain rfl : j = k := by omega
            exact hx
        clear hx
        go_wp2
        go_round
        case rel => exact ⟨k + 1, by omega, by go_num, HB⟩
        case measure => simp [intOf]; omega
    · obtain rfl : k = L.length := by omega
      have H := Lib.hid (idx_miss L x HA.out).1
      go_wp2
      go_ret
      exact ⟨ret_int H.out.symm, rfl⟩

theorem idx_has (L : List Int) (x : Int) : decide (0 ≤ idxI L x) = hasB L x := by
  unfold idxI hasB
  by_cases h : x ∈ L <;> simp [h]

set_option maxHeartbeats 1000000 in
theorem contains_any (a : Option Addr) (L : List Int) (cap : Nat) (x : Int) (n₀ : Nat) (w : World) (hl : L.length ≤ 1000) (hL : Nums n₀ w a L) :
    Calls Tryd.prog 60 #[.slice a L.length cap, .int .i64 x] w fun e w' => e = .returned (.bool (hasB L x)) ∧ w = w' := by
  have H := Lib.hid (idx_has L x)
  go_enter Tryd.func60, Tryd.ntmps60
  go_wp2_with (go_at_call 65; refine (index_any _ _ _ _ n₀ _ hl hL).mono ?_; rintro e w' ⟨rfl, rfl⟩)
  go_ret
  exact ⟨ret_bool H.out, rfl⟩
end Go.Proofs.YtfojipgbenbigaaDoor
