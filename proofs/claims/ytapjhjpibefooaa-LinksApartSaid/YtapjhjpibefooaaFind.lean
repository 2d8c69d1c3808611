/-
  THE WALKS of find, time (package links), Find and within (the reference).
-/
import Derived.Test.YtapjhjpibefooaaIdx
namespace Go.Proofs.Ytapjhjpibefooaa
open Go.RowKit Go.Shelf

def findI (L : List CueR) (s : ByteArray) : Int := cue_first L (fun r => decide (r.name = s))
theorem mono_in {w w' : World} (o : Obj) (h : Below (w.alloc o).heap.size (w.alloc o) w') : Below w.heap.size w w' := ((Below.refl _ _).alloc (Nat.le_refl _) o).trans (h.mono (by simp))
theorem below_new (w : World) (o : Obj) : Below w.heap.size w (w.alloc o) := (Below.refl _ _).alloc (Nat.le_refl _) o
theorem box1 {w w' : World} {v : Value} {t : TypeId} (h : Below (w.alloc (.cells #[v] t)).heap.size (w.alloc (.cells #[v] t)) w') : w'.cell? ⟨w.heap.size, 0, none⟩ = some v :=
  (h.cell (p := ⟨w.heap.size, 0, none⟩) (by simp)).trans (by simp)
theorem box2 {w w' : World} {v u : Value} {t : TypeId} (h : Below (w.alloc (.cells #[v, u] t)).heap.size (w.alloc (.cells #[v, u] t)) w') : w'.cell? ⟨w.heap.size, 0, none⟩ = some v ∧ w'.cell? ⟨w.heap.size, 1, none⟩ = some u :=
  ⟨(h.cell (p := ⟨w.heap.size, 0, none⟩) (by simp)).trans (by simp), (h.cell (p := ⟨w.heap.size, 1, none⟩) (by simp)).trans (by simp)⟩

set_option maxHeartbeats 1000000 in
theorem asks_name {g : Nat} (bx : Nat) (s : ByteArray) (n₀ : Nat) (w : World) (hbx : bx < n₀) (hc : w.cell? ⟨bx, 0, none⟩ = some (.string s)) (hg : g = 67) :
    AsksC g #[.pointer (some ⟨bx, 0, none⟩)] n₀ w (fun r => decide (r.name = s)) := by
  subst hg
  intro W r hB
  have hc' := (hB.cell (p := ⟨bx, 0, none⟩) hbx).trans hc
  have hc2 : ∀ o, (W.alloc o).cell? ⟨bx, 0, none⟩ = some (.string s) := fun o => ((Below.refl W.heap.size W).alloc (Nat.le_refl _) o |>.cell (p := ⟨bx, 0, none⟩) (World.block_lt_of_cell? W _ hc')).trans hc'
  have H := Lib.hid (str_eq r.name s)
  show Calls _ _ #[cueV r, .pointer (some ⟨bx, 0, none⟩)] _ _
  unfold cueV
  go_enter Try.func67, Try.ntmps67
  go_wp2
  go_ret
  exact ⟨ret_bool H.out, (Below.refl _ _).alloc (Nat.le_refl _) _⟩

set_option maxHeartbeats 1000000 in
theorem find_any (ca : Option Addr) (L : List CueR) (cc : Nat) (v : Value) (s : ByteArray) (w : World) (hlen : L.length ≤ 1100) (hI : Cues w.heap.size w ca L) :
    Calls Try.prog 53 #[.agg #[.slice ca L.length cc, v], .string s] w fun e w' => e = .returned (.int .i64 (findI L s)) ∧ Below w.heap.size w w' := by
  have HI := Lib.hid hI; clear hI
  have hb0 : Below w.heap.size w ((w.alloc (.cells #[.slice ca L.length cc, v] 25)).alloc (.cells #[.string s] 9)) := ((below_new w _)).alloc (by simp) _
  have HB := Lib.hid hb0; clear hb0
  go_enter Try.func53, Try.ntmps53
  go_wp2_with (go_at_call 24; (refine (cue_indexFunc _ L _ _ _ _ (fun r => decide (r.name = s)) _ (enters_of Try.func67 (by kernel_rfl) rfl) hlen (Nat.le_refl _) (HI.out.grow HB.out) (asks_name (w.heap.size + 1) s _ _ (by simp) (by simp) rfl)).mono ?_); rintro e w4 ⟨rfl, hb4⟩)
  go_ret
  exact ⟨rfl, HB.out.trans (hb4.mono HB.out.size)⟩

set_option maxHeartbeats 1000000 in
theorem reffind_any (ca : Option Addr) (L : List CueR) (cc : Nat) (v : Value) (s : ByteArray) (w : World) (hlen : L.length ≤ 1100) (hI : Cues w.heap.size w ca L) :
    Calls Try.prog 17 #[.agg #[.slice ca L.length cc, v], .string s] w fun e w' => e = .returned (.int .i64 (findI L s)) ∧ Below w.heap.size w w' := by
  have hb0 : Below w.heap.size w (w.alloc (.cells #[.slice ca L.length cc, v] 25)) := below_new w _
  have HI := Lib.hid (hI.below hb0); clear hI
  have HB := Lib.hid hb0; clear hb0
  go_enter Try.func17, Try.ntmps17
  go_wp2
  go_loop [5] (fun i => ∃ k : Nat, k ≤ L.length ∧ i = .int .i64 k ∧ Hid (∀ j, j < k → decide ((cg L j).name = s) = false)) (fun i => L.length - (intOf i).toNat)
  case atStart => exact ⟨0, Nat.zero_le _, rfl, Lib.hid (fun _ h => absurd h (Nat.not_lt_zero _))⟩
  case round =>
    obtain ⟨k, hk, rfl, HA⟩ := hrel
    by_cases hlt : k < L.length
    · obtain ⟨b, off, rfl, hb, hc⟩ := HI.out (by omega)
      obtain ⟨d0, _⟩ := hc k hlt
      have H := Lib.hid (str_eq (cg L k).name s)
      have hs := str_eq (cg L k).name s
      clear hc
      by_cases hx : (cg L k).name = s
      · have H := Lib.hid (cue_first_hit L (fun r => decide (r.name = s)) k hlt (decide_eq_true hx) HA.out)
        rw [decide_eq_true hx] at hs
        clear hx
        go_wp2
        go_ret
        exact ⟨ret_int H.out.symm, HB.out⟩
      · rw [decide_eq_false hx] at hs
        have HB' : Hid (∀ j, j < k + 1 → decide ((cg L j).name = s) = false) := Lib.hid fun j hj => by
          rcases Nat.lt_or_ge j k with l | l
          · exact HA.out j l
          · obtain rfl : j = k := by omega
            exact decide_eq_false hx
        clear hx
        go_wp2
        go_round
        case rel => exact ⟨k + 1, by omega, by go_num, HB'⟩
        case measure => simp [intOf]; omega
    · obtain rfl : k = L.length := by omega
      have H := Lib.hid (cue_first_miss L (fun r => decide (r.name = s)) HA.out)
      go_wp2
      go_ret
      exact ⟨ret_int H.out.symm, HB.out⟩

def timeB (n : Int) : Bool := decide (0 ≤ n ∧ n ≤ 2147483648)
set_option maxHeartbeats 400000 in
theorem time_any (n : Int) (w : World) : Calls Try.prog 50 #[.int .i64 n] w fun e w' => e = .returned (.bool (timeB n)) ∧ w = w' := by
  go_enter Try.func50, Try.ntmps50
  go_wp2
  all_goals (go_ret; exact ⟨ret_bool (by rw [Bool.eq_iff_iff]; simp [timeB]; try omega), rfl⟩)
set_option maxHeartbeats 400000 in
theorem within_any (n m : Int) (w : World) : Calls Try.prog 58 #[.int .i64 n, .int .i64 m] w fun e w' => e = .returned (.bool (decide (0 ≤ n ∧ n ≤ m))) ∧ w = w' := by
  go_enter Try.func58, Try.ntmps58
  go_wp2
  all_goals (go_ret; exact ⟨ret_bool (by rw [Bool.eq_iff_iff]; simp; try omega), rfl⟩)
end Go.Proofs.Ytapjhjpibefooaa
