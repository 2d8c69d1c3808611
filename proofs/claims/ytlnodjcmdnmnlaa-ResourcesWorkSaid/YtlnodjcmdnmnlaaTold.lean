/-
  THE WALKS of the laws' own helpers told, work, short.
-/
import Derived.Test.YtlnodjcmdnmnlaaValid
import Derived.IntWalk
namespace Go.Proofs.Ytlnodjcmdnmnlaa
open Go.RowKit Go.Shelf

/-- What the first k steps tell at a time. -/
def toldTo (L : List (Int × Int)) (t : Int) : Nat → Int
  | 0 => 0
  | k + 1 => if (og L k).1 ≤ t then (og L k).2 else toldTo L t k
def toldP (L : List (Int × Int)) (t : Int) : Int := toldTo L t L.length
set_option maxHeartbeats 4000000 in
theorem told_any (a : Option Addr) (L : List (Int × Int)) (cap : Nat) (t : Int) (w : World) (hl : L.length ≤ 1000000) (hL : Loads w.heap.size w a L) :
    Calls Try.prog 18 #[.slice a L.length cap, .int .i64 t] w fun e w' => e = .returned (.int .i64 (toldP L t)) ∧ Below w.heap.size w w' := by
  have HL := Lib.hid hL; clear hL
  have HE : Hid (toldP L t = toldTo L t L.length) := Lib.hid rfl
  go_enter Try.func18, Try.ntmps18
  go_wp2_with fail
  go_loopw [5, 10] (fun v i wr => ∃ k : Nat, k ≤ L.length ∧ i = .int .i64 k ∧ v = .int .i64 (toldTo L t k) ∧ Below w.heap.size w wr) (fun _ i _ => L.length - (intOf i).toNat)
  case atStart => exact ⟨0, Nat.zero_le _, rfl, rfl, Below.refl _ _⟩
  case round =>
    obtain ⟨k, hk, rfl, rfl, hB⟩ := hrel
    have hbs := hB.size
    by_cases hlt : k < L.length
    · obtain ⟨b, off, rfl, hb, hc⟩ := HL.out (by omega)
      have c0 := (hB.cell (p := ⟨b, off + k * 2, none⟩) hb).trans (hc k hlt).1
      have c1 := (hB.cell (p := ⟨b, off + k * 2 + 1, none⟩) hb).trans (hc k hlt).2
      clear hc
      by_cases p : (og L k).1 ≤ t
      · have HS : Hid (toldTo L t (k + 1) = (og L k).2) := Lib.hid (by simp only [toldTo]; rw [if_pos p])
        go_wp2_with fail
        go_roundw
        case rel => exact ⟨k + 1, by omega, by go_num, by rw [HS.out], hB.alloc hbs _⟩
        case measure => simp [intOf]; omega
      · have HS : Hid (toldTo L t (k + 1) = toldTo L t k) := Lib.hid (by simp only [toldTo]; rw [if_neg p])
        go_wp2_with fail
        go_roundw
        case rel => exact ⟨k + 1, by omega, by go_num, by rw [HS.out], hB.alloc hbs _⟩
        case measure => simp [intOf]; omega
    · obtain rfl : k = L.length := by omega
      go_wp2_with fail
      go_ret
      exact ⟨ret_int HE.out.symm, hB⟩
/-- The work of the first k steps. -/
def areaTo (L : List (Int × Int)) : Nat → Int
  | 0 => 0
  | k + 1 => areaTo L k + if k = 0 then 0 else (og L (k - 1)).2 * ((og L k).1 - (og L (k - 1)).1)
def shortB (L : List (Int × Int)) (m : Int) : Bool := decide ((L.length : Int) ≤ m) && validB L && decide ((og L (L.length - 1)).2 = 0) && (List.range L.length).all fun k => decide (k = 0) || decide ((og L k).2 ≠ (og L (k - 1)).2)
end Go.Proofs.Ytlnodjcmdnmnlaa
