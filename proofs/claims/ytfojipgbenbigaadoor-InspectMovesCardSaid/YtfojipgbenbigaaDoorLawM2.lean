/-
  THE WALK of the law InspectMoves, its other ways, and the law whole. Condition: the months' table lies in memory as the program's text lays it.
-/
import Derived.Test.YtfojipgbenbigaaDoorLawM
namespace Go.Proofs.YtfojipgbenbigaaDoor
open Go.RowKit Go.Shelf

set_option maxRecDepth 100000 in
set_option maxHeartbeats 4000000 in
theorem moves_more (a : Option Addr) (L : List LogR) (cap : Nat) (rope : ByteArray) (day runs every : Int) (w : World) (hm : Months w) (_hI : Logs w.heap.size w a L) (hl : (39 : Int) < L.length) : Calls Tryd.prog 8 #[.slice a L.length cap, .string rope, .int .i64 day, .int .i64 runs, .int .i64 every] w fun e w' => e = .returned (.bool true) ∧ Below w.heap.size w w' := by
  have HA := Lib.hid (awake_any w hm)
  clear hm
  go_enter Tryd.func8, Tryd.ntmps8
  go_wp2_with (first
    | (go_at_call 10; (with_reducible refine HA.out.mono ?_); rintro e w1 ⟨rfl, hb1⟩))
  go_ret
  exact ⟨rfl, hb1⟩

set_option maxRecDepth 100000 in
set_option maxHeartbeats 4000000 in
theorem moves_no (a : Option Addr) (L : List LogR) (cap : Nat) (rope : ByteArray) (day runs every : Int) (w : World) (hm : Months w) (hI : Logs w.heap.size w a L) (hl : ¬ (39 : Int) < L.length) (hs : shortB L = false) : Calls Tryd.prog 8 #[.slice a L.length cap, .string rope, .int .i64 day, .int .i64 runs, .int .i64 every] w fun e w' => e = .returned (.bool true) ∧ Below w.heap.size w w' := by
  have HA := Lib.hid (awake_any w hm)
  have HI := Lib.hid hI; clear hI hm
  have HSH := Lib.hid hs; clear hs
  go_enter Tryd.func8, Tryd.ntmps8
  go_wp2_with (first
    | (go_at_call 10; (with_reducible refine HA.out.mono ?_); rintro e w1 ⟨rfl, hb1⟩)
    | (go_at_call 15; (with_reducible refine (short_any _ L _ _ (HI.out.grow hb1)).mono ?_); rintro e w2 ⟨rfl, hb2⟩; have hB2 := hb1.trans (hb2.mono hb1.size); rw [HSH.out]))
  go_ret
  exact ⟨rfl, hB2⟩

set_option maxRecDepth 100000 in
set_option maxHeartbeats 4000000 in
theorem moves_long (a : Option Addr) (L : List LogR) (cap : Nat) (rope : ByteArray) (day runs every : Int) (w : World) (hm : Months w) (hI : Logs w.heap.size w a L) (hl : ¬ (39 : Int) < L.length) (hs : shortB L = true) (hr : (60 : Int) < rope.size) : Calls Tryd.prog 8 #[.slice a L.length cap, .string rope, .int .i64 day, .int .i64 runs, .int .i64 every] w fun e w' => e = .returned (.bool true) ∧ Below w.heap.size w w' := by
  have HA := Lib.hid (awake_any w hm)
  have HI := Lib.hid hI; clear hI hm
  have HSH := Lib.hid hs; clear hs
  go_enter Tryd.func8, Tryd.ntmps8
  go_wp2_with (first
    | (go_at_call 10; (with_reducible refine HA.out.mono ?_); rintro e w1 ⟨rfl, hb1⟩)
    | (go_at_call 15; (with_reducible refine (short_any _ L _ _ (HI.out.grow hb1)).mono ?_); rintro e w2 ⟨rfl, hb2⟩; have hB2 := hb1.trans (hb2.mono hb1.size); rw [HSH.out]))
  go_ret
  exact ⟨rfl, hB2⟩

set_option maxRecDepth 100000 in
set_option maxHeartbeats 4000000 in
theorem moves_ev (a : Option Addr) (L : List LogR) (cap : Nat) (rope : ByteArray) (day runs every : Int) (w : World) (hm : Months w) (hI : Logs w.heap.size w a L) (hl : ¬ (39 : Int) < L.length) (hs : shortB L = true) (hr : ¬ (60 : Int) < rope.size) (he : everyB every = false) : Calls Tryd.prog 8 #[.slice a L.length cap, .string rope, .int .i64 day, .int .i64 runs, .int .i64 every] w fun e w' => e = .returned (.bool true) ∧ Below w.heap.size w w' := by
  have HA := Lib.hid (awake_any w hm)
  have HI := Lib.hid hI; clear hI hm
  have HSH := Lib.hid hs; clear hs
  have HE := Lib.hid he; clear he
  go_enter Tryd.func8, Tryd.ntmps8
  go_wp2_with (first
    | (go_at_call 10; (with_reducible refine HA.out.mono ?_); rintro e w1 ⟨rfl, hb1⟩)
    | (go_at_call 15; (with_reducible refine (short_any _ L _ _ (HI.out.grow hb1)).mono ?_); rintro e w2 ⟨rfl, hb2⟩; have hB2 := hb1.trans (hb2.mono hb1.size); rw [HSH.out])
    | (go_at_call 18; (with_reducible refine (every_any _ _).mono ?_); rintro e w' ⟨rfl, rfl⟩; rw [HE.out]))
  go_ret
  exact ⟨rfl, hB2⟩

theorem moves_law (a : Option Addr) (L : List LogR) (cap : Nat) (rope : ByteArray) (day runs every : Int) (w : World) (hm : Months w) (hI : Logs w.heap.size w a L) (hcap : L.length ≤ cap) (hcm : cap ≤ 9223372036854775807) (hnil : a = none → cap = 0) : Calls Tryd.prog 8 #[.slice a L.length cap, .string rope, .int .i64 day, .int .i64 runs, .int .i64 every] w fun e w' => e = .returned (.bool true) ∧ Below w.heap.size w w' := by
  by_cases hl : (39 : Int) < L.length
  · exact moves_more a L cap rope day runs every w hm hI hl
  · cases hs : shortB L
    · exact moves_no a L cap rope day runs every w hm hI hl hs
    · by_cases hr : (60 : Int) < rope.size
      · exact moves_long a L cap rope day runs every w hm hI hl hs hr
      · cases he : everyB every
        · exact moves_ev a L cap rope day runs every w hm hI hl hs hr he
        · exact moves_main a L cap rope day runs every w hm hI hcap hcm hnil hl hs hr he
end Go.Proofs.YtfojipgbenbigaaDoor
