/-
  THE WALK of the law InspectFinds, its other ways, and the law whole. Condition: the months' table lies in memory as the program's text lays it.
-/
import Derived.Test.YtfojipgbenbigaaDoorLawF
namespace Go.Proofs.YtfojipgbenbigaaDoor
open Go.RowKit Go.Shelf

set_option maxRecDepth 100000 in
set_option maxHeartbeats 4000000 in
theorem finds_more (a : Option Addr) (L : List LogR) (cap : Nat) (rope : ByteArray) (today every : Int) (w : World) (hm : Months w)  (hl : (40 : Int) < L.length) : Calls Tryd.prog 9 #[.slice a L.length cap, .string rope, .int .i64 today, .int .i64 every] w fun e w' => e = .returned (.bool true) ∧ Below w.heap.size w w' := by
  have hB0 : Below w.heap.size w (w.alloc (.cells #[.string rope] 9)) := (Below.refl _ w).alloc (Nat.le_refl _) _
  have HA := Lib.hid (awake_any _ (hm.below hB0))
  clear hm hB0
  go_enter Tryd.func9, Tryd.ntmps9
  go_wp2_with (first
    | (go_at_call 10; (with_reducible refine HA.out.mono ?_); rintro e w1 ⟨rfl, hb1⟩))
  go_ret
  exact ⟨rfl, mono_in _ hb1⟩

set_option maxRecDepth 100000 in
set_option maxHeartbeats 4000000 in
theorem finds_noshort (a : Option Addr) (L : List LogR) (cap : Nat) (rope : ByteArray) (today every : Int) (w : World) (hm : Months w) (hI : Logs w.heap.size w a L) (hl : ¬ (40 : Int) < L.length) (hs : shortB L = false) : Calls Tryd.prog 9 #[.slice a L.length cap, .string rope, .int .i64 today, .int .i64 every] w fun e w' => e = .returned (.bool true) ∧ Below w.heap.size w w' := by
  have hB0 : Below w.heap.size w (w.alloc (.cells #[.string rope] 9)) := (Below.refl _ w).alloc (Nat.le_refl _) _
  have HA := Lib.hid (awake_any _ (hm.below hB0))
  have HI := Lib.hid (hI.grow hB0); clear hI hm hB0
  have HSH := Lib.hid hs; clear hs
  go_enter Tryd.func9, Tryd.ntmps9
  go_wp2_with (first
    | (go_at_call 10; (with_reducible refine HA.out.mono ?_); rintro e w1 ⟨rfl, hb1⟩)
    | (go_at_call 15; (with_reducible refine (short_any _ L _ _ (HI.out.grow hb1)).mono ?_); rintro e w2 ⟨rfl, hb2⟩; have hB2 := hb1.trans (hb2.mono hb1.size); have cR2 := rope_in hB2; rw [HSH.out]))
  go_ret
  exact ⟨rfl, mono_in _ hB2⟩

set_option maxRecDepth 100000 in
set_option maxHeartbeats 4000000 in
theorem finds_long (a : Option Addr) (L : List LogR) (cap : Nat) (rope : ByteArray) (today every : Int) (w : World) (hm : Months w) (hI : Logs w.heap.size w a L) (hl : ¬ (40 : Int) < L.length) (hs : shortB L = true) (hr : (60 : Int) < rope.size) : Calls Tryd.prog 9 #[.slice a L.length cap, .string rope, .int .i64 today, .int .i64 every] w fun e w' => e = .returned (.bool true) ∧ Below w.heap.size w w' := by
  have hB0 : Below w.heap.size w (w.alloc (.cells #[.string rope] 9)) := (Below.refl _ w).alloc (Nat.le_refl _) _
  have HA := Lib.hid (awake_any _ (hm.below hB0))
  have HI := Lib.hid (hI.grow hB0); clear hI hm hB0
  have HSH := Lib.hid hs; clear hs
  go_enter Tryd.func9, Tryd.ntmps9
  go_wp2_with (first
    | (go_at_call 10; (with_reducible refine HA.out.mono ?_); rintro e w1 ⟨rfl, hb1⟩)
    | (go_at_call 15; (with_reducible refine (short_any _ L _ _ (HI.out.grow hb1)).mono ?_); rintro e w2 ⟨rfl, hb2⟩; have hB2 := hb1.trans (hb2.mono hb1.size); have cR2 := rope_in hB2; rw [HSH.out]))
  go_ret
  exact ⟨rfl, mono_in _ hB2⟩

set_option maxRecDepth 100000 in
set_option maxHeartbeats 4000000 in
theorem finds_bad (a : Option Addr) (L : List LogR) (cap : Nat) (rope : ByteArray) (today every : Int) (w : World) (hm : Months w) (hI : Logs w.heap.size w a L) (hl : ¬ (40 : Int) < L.length) (hs : shortB L = true) (hr : ¬ (60 : Int) < rope.size) (c : Int) (hc : (c != 0) = true) (hp : checkP L today every = ([], c)) : Calls Tryd.prog 9 #[.slice a L.length cap, .string rope, .int .i64 today, .int .i64 every] w fun e w' => e = .returned (.bool true) ∧ Below w.heap.size w w' := by
  have hB0 : Below w.heap.size w (w.alloc (.cells #[.string rope] 9)) := (Below.refl _ w).alloc (Nat.le_refl _) _
  have HA := Lib.hid (awake_any _ (hm.below hB0))
  have HI := Lib.hid (hI.grow hB0); clear hI hm hB0
  have HSH := Lib.hid hs
  have hlen := short_len L hs
  have HCP := Lib.hid hp
  have HN0 : Hid (([] : List (Int × ByteArray)).length = 0) := Lib.hid rfl
  clear hs hp
  go_enter Tryd.func9, Tryd.ntmps9
  go_wp2_with (first
    | (go_at_call 10; (with_reducible refine HA.out.mono ?_); rintro e w1 ⟨rfl, hb1⟩)
    | (go_at_call 15; (with_reducible refine (short_any _ L _ _ (HI.out.grow hb1)).mono ?_); rintro e w2 ⟨rfl, hb2⟩; have hB2 := hb1.trans (hb2.mono hb1.size); have cR2 := rope_in hB2; rw [HSH.out])
    | (go_at_call 16; (with_reducible refine (check_at2 _ L _ today every _ _ hlen (HI.out.grow hB2) HCP.out).mono ?_); rintro e w3 ⟨hx, hb3⟩; obtain ⟨a1, cap1, rfl, hF1, hc1, hc1m, hn1⟩ := hx.out; clear hF1 hx hn1; have hB3 := hB2.trans (hb3.mono hB2.size); rw [HN0.out] at hc1 ⊢))
  go_ret
  exact ⟨rfl, mono_in _ hB3⟩

theorem finds_law (a : Option Addr) (L : List LogR) (cap : Nat) (rope : ByteArray) (today every : Int) (w : World) (hm : Months w) (hI : Logs w.heap.size w a L) (hnil : a = none → cap = 0) : Calls Tryd.prog 9 #[.slice a L.length cap, .string rope, .int .i64 today, .int .i64 every] w fun e w' => e = .returned (.bool true) ∧ Below w.heap.size w w' := by
  by_cases hl : (40 : Int) < L.length
  · exact finds_more a L cap rope today every w hm hl
  · cases hs : shortB L
    · exact finds_noshort a L cap rope today every w hm hI hl hs
    · by_cases hr : (60 : Int) < rope.size
      · exact finds_long a L cap rope today every w hm hI hl hs hr
      · cases hv : validB L
        · exact finds_bad a L cap rope today every w hm hI hl hs hr 1 rfl (by unfold checkP; rw [hv]; rfl)
        · cases he : everyB every
          · exact finds_bad a L cap rope today every w hm hI hl hs hr 2 rfl (by unfold checkP; rw [hv, he, Bool.and_false]; rfl)
          · by_cases h0 : today < 0
            · exact finds_bad a L cap rope today every w hm hI hl hs hr 2 rfl (by unfold checkP; rw [hv, show isDayB today = false from decide_eq_false (by omega)]; rfl)
            · by_cases h1 : 109572 < today
              · exact finds_bad a L cap rope today every w hm hI hl hs hr 2 rfl (by unfold checkP; rw [hv, show isDayB today = false from decide_eq_false (by omega)]; rfl)
              · exact finds_main a L cap rope today every w hm hI hnil hl hs hr hv h0 h1 he
end Go.Proofs.YtfojipgbenbigaaDoor
