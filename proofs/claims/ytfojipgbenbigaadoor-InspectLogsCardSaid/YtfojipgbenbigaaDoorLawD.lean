/-
  THE WALKS of the laws InspectDue and InspectLogs: they answer true at every input. Condition: the months' table lies in memory as the program's text lays it.
-/
import Derived.Test.YtfojipgbenbigaaDoorLawC
namespace Go.Proofs.YtfojipgbenbigaaDoor
open Go.RowKit Go.Shelf

set_option maxRecDepth 100000 in
set_option maxHeartbeats 4000000 in
theorem duel_no (a : Option Addr) (L : List LogR) (cap : Nat) (rope : ByteArray) (every : Int) (w : World) (hm : Months w) (hI : Logs w.heap.size w a L) (_hcap : L.length ≤ cap) (hs : shortB L = false) : Calls Tryd.prog 6 #[.slice a L.length cap, .string rope, .int .i64 every] w fun e w' => e = .returned (.bool true) ∧ Below w.heap.size w w' := by
  have HA := Lib.hid (awake_any w hm)
  have HI := Lib.hid hI; clear hI hm
  have HSH := Lib.hid hs; clear hs
  go_enter Tryd.func6, Tryd.ntmps6
  go_wp2_with (first
    | (go_at_call 10; (with_reducible refine HA.out.mono ?_); rintro e w1 ⟨rfl, hb1⟩)
    | (go_at_call 15; (with_reducible refine (short_any _ L _ _ (HI.out.grow hb1)).mono ?_); rintro e w2 ⟨rfl, hb2⟩; have hB2 := hb1.trans (hb2.mono hb1.size); rw [HSH.out]))
  go_ret
  exact ⟨rfl, hB2⟩

set_option maxRecDepth 100000 in
set_option maxHeartbeats 4000000 in
theorem due_long (a : Option Addr) (L : List LogR) (cap : Nat) (rope : ByteArray) (every : Int) (w : World) (hm : Months w) (hI : Logs w.heap.size w a L) (_hcap : L.length ≤ cap) (hs : shortB L = true) (hr : (60 : Int) < rope.size) : Calls Tryd.prog 6 #[.slice a L.length cap, .string rope, .int .i64 every] w fun e w' => e = .returned (.bool true) ∧ Below w.heap.size w w' := by
  have HA := Lib.hid (awake_any w hm)
  have HI := Lib.hid hI; clear hI hm
  have HSH := Lib.hid hs; clear hs
  go_enter Tryd.func6, Tryd.ntmps6
  go_wp2_with (first
    | (go_at_call 10; (with_reducible refine HA.out.mono ?_); rintro e w1 ⟨rfl, hb1⟩)
    | (go_at_call 15; (with_reducible refine (short_any _ L _ _ (HI.out.grow hb1)).mono ?_); rintro e w2 ⟨rfl, hb2⟩; have hB2 := hb1.trans (hb2.mono hb1.size); rw [HSH.out]))
  go_ret
  exact ⟨rfl, hB2⟩

set_option maxRecDepth 100000 in
set_option maxHeartbeats 4000000 in
theorem due_bad (a : Option Addr) (L : List LogR) (cap : Nat) (rope : ByteArray) (every : Int) (w : World) (hm : Months w) (hI : Logs w.heap.size w a L) (hcap : L.length ≤ cap) (hs : shortB L = true) (hr : ¬ (60 : Int) < rope.size) (hv : validB L = false) : Calls Tryd.prog 6 #[.slice a L.length cap, .string rope, .int .i64 every] w fun e w' => e = .returned (.bool true) ∧ Below w.heap.size w w' := by
  have HA := Lib.hid (awake_any w hm)
  have HI := Lib.hid hI; clear hI hm
  have _hcap := hcap
  have HSH := Lib.hid hs
  have hlen := short_len L hs
  clear hs
  have HV := Lib.hid hv
  have HP : Hid (dueP L rope every = (0, 1)) := Lib.hid (by unfold dueP; rw [hv]; rfl)
  clear hv
  go_enter Tryd.func6, Tryd.ntmps6
  go_wp2_with (first
    | (go_at_call 10; (with_reducible refine HA.out.mono ?_); rintro e w1 ⟨rfl, hb1⟩)
    | (go_at_call 15; (with_reducible refine (short_any _ L _ _ (HI.out.grow hb1)).mono ?_); rintro e w2 ⟨rfl, hb2⟩; have hB2 := hb1.trans (hb2.mono hb1.size); rw [HSH.out])
    | (go_at_call 21; (with_reducible refine (due2_any _ L _ rope every _ hlen (HI.out.grow hB2)).mono ?_); rintro e w3 ⟨rfl, hb3⟩; have hB3 := hB2.trans (hb3.mono hB2.size); rw [HP.out])
    | (go_at_call 17; (with_reducible refine (refvalid_any _ L _ _ hlen hcap (HI.out.grow hB3)).mono ?_); rintro e w4 ⟨rfl, hb4⟩; have hB4 := hB3.trans (hb4.mono hB3.size); rw [HV.out]))
  go_ret
  exact ⟨rfl, hB4⟩

set_option maxRecDepth 100000 in
set_option maxHeartbeats 4000000 in
theorem due_ev (a : Option Addr) (L : List LogR) (cap : Nat) (rope : ByteArray) (every : Int) (w : World) (hm : Months w) (hI : Logs w.heap.size w a L) (hcap : L.length ≤ cap) (hs : shortB L = true) (hr : ¬ (60 : Int) < rope.size) (hv : validB L = true) (he : everyB every = false) : Calls Tryd.prog 6 #[.slice a L.length cap, .string rope, .int .i64 every] w fun e w' => e = .returned (.bool true) ∧ Below w.heap.size w w' := by
  have HA := Lib.hid (awake_any w hm)
  have HI := Lib.hid hI; clear hI hm
  have _hcap := hcap
  have HSH := Lib.hid hs
  have hlen := short_len L hs
  clear hs
  have HV := Lib.hid hv
  have HE := Lib.hid he
  have HP : Hid (dueP L rope every = (0, 2)) := Lib.hid (by unfold dueP; rw [hv, he]; rfl)
  clear hv he
  go_enter Tryd.func6, Tryd.ntmps6
  go_wp2_with (first
    | (go_at_call 10; (with_reducible refine HA.out.mono ?_); rintro e w1 ⟨rfl, hb1⟩)
    | (go_at_call 15; (with_reducible refine (short_any _ L _ _ (HI.out.grow hb1)).mono ?_); rintro e w2 ⟨rfl, hb2⟩; have hB2 := hb1.trans (hb2.mono hb1.size); rw [HSH.out])
    | (go_at_call 21; (with_reducible refine (due2_any _ L _ rope every _ hlen (HI.out.grow hB2)).mono ?_); rintro e w3 ⟨rfl, hb3⟩; have hB3 := hB2.trans (hb3.mono hB2.size); rw [HP.out])
    | (go_at_call 17; (with_reducible refine (refvalid_any _ L _ _ hlen hcap (HI.out.grow hB3)).mono ?_); rintro e w4 ⟨rfl, hb4⟩; have hB4 := hB3.trans (hb4.mono hB3.size); rw [HV.out])
    | (go_at_call 18; (with_reducible refine (every_any _ _).mono ?_); rintro e w' ⟨rfl, rfl⟩; rw [HE.out]))
  go_ret
  exact ⟨rfl, hB4⟩

set_option maxRecDepth 100000 in
set_option maxHeartbeats 4000000 in
theorem due_name (a : Option Addr) (L : List LogR) (cap : Nat) (rope : ByteArray) (every : Int) (w : World) (hm : Months w) (hI : Logs w.heap.size w a L) (hcap : L.length ≤ cap) (hs : shortB L = true) (hr : ¬ (60 : Int) < rope.size) (hv : validB L = true) (he : everyB every = true) (hf : firstI L rope = -1) : Calls Tryd.prog 6 #[.slice a L.length cap, .string rope, .int .i64 every] w fun e w' => e = .returned (.bool true) ∧ Below w.heap.size w w' := by
  have HA := Lib.hid (awake_any w hm)
  have HI := Lib.hid hI; clear hI hm
  have _hcap := hcap
  have HSH := Lib.hid hs
  have hlen := short_len L hs
  clear hs
  have HV := Lib.hid hv
  have HE := Lib.hid he
  have HF := Lib.hid hf
  have HP : Hid (dueP L rope every = (0, 9)) := Lib.hid (by unfold dueP; rw [hv, he, hf]; rfl)
  clear hv he hf
  go_enter Tryd.func6, Tryd.ntmps6
  go_wp2_with (first
    | (go_at_call 10; (with_reducible refine HA.out.mono ?_); rintro e w1 ⟨rfl, hb1⟩)
    | (go_at_call 15; (with_reducible refine (short_any _ L _ _ (HI.out.grow hb1)).mono ?_); rintro e w2 ⟨rfl, hb2⟩; have hB2 := hb1.trans (hb2.mono hb1.size); rw [HSH.out])
    | (go_at_call 21; (with_reducible refine (due2_any _ L _ rope every _ hlen (HI.out.grow hB2)).mono ?_); rintro e w3 ⟨rfl, hb3⟩; have hB3 := hB2.trans (hb3.mono hB2.size); rw [HP.out])
    | (go_at_call 17; (with_reducible refine (refvalid_any _ L _ _ hlen hcap (HI.out.grow hB3)).mono ?_); rintro e w4 ⟨rfl, hb4⟩; have hB4 := hB3.trans (hb4.mono hB3.size); rw [HV.out])
    | (go_at_call 18; (with_reducible refine (every_any _ _).mono ?_); rintro e w' ⟨rfl, rfl⟩; rw [HE.out])
    | (go_at_call 22; (with_reducible refine (reffirst_any _ L _ rope _ _ hlen (HI.out.grow hB4)).mono ?_); rintro e w' ⟨rfl, rfl⟩; rw [HF.out]))
  go_ret
  exact ⟨rfl, hB4⟩

set_option maxRecDepth 100000 in
set_option maxHeartbeats 4000000 in
theorem due_ret (a : Option Addr) (L : List LogR) (cap : Nat) (rope : ByteArray) (every : Int) (w : World) (hm : Months w) (hI : Logs w.heap.size w a L) (hcap : L.length ≤ cap) (hs : shortB L = true) (hr : ¬ (60 : Int) < rope.size) (hv : validB L = true) (he : everyB every = true) (hf : firstI L rope ≠ -1) (ht : retB L rope = true) : Calls Tryd.prog 6 #[.slice a L.length cap, .string rope, .int .i64 every] w fun e w' => e = .returned (.bool true) ∧ Below w.heap.size w w' := by
  have HA := Lib.hid (awake_any w hm)
  have HI := Lib.hid hI; clear hI hm
  have _hcap := hcap
  have HSH := Lib.hid hs
  have hlen := short_len L hs
  clear hs
  obtain ⟨kf, hkf⟩ : ∃ kf : Nat, firstI L rope = kf := by
    rcases first_cases L rope with ⟨h, _⟩ | ⟨k, _, h, _⟩
    · exact absurd h hf
    · exact ⟨k, h⟩
  have HFk := Lib.hid hkf; clear hkf
  have HV := Lib.hid hv
  have HE := Lib.hid he
  have HR := Lib.hid ht
  have HP : Hid (dueP L rope every = (0, 13)) := Lib.hid (by unfold dueP; rw [hv, he, if_neg hf, ht]; rfl)
  clear hv he ht hf
  go_enter Tryd.func6, Tryd.ntmps6
  go_wp2_with (first
    | (go_at_call 10; (with_reducible refine HA.out.mono ?_); rintro e w1 ⟨rfl, hb1⟩)
    | (go_at_call 15; (with_reducible refine (short_any _ L _ _ (HI.out.grow hb1)).mono ?_); rintro e w2 ⟨rfl, hb2⟩; have hB2 := hb1.trans (hb2.mono hb1.size); rw [HSH.out])
    | (go_at_call 21; (with_reducible refine (due2_any _ L _ rope every _ hlen (HI.out.grow hB2)).mono ?_); rintro e w3 ⟨rfl, hb3⟩; have hB3 := hB2.trans (hb3.mono hB2.size); rw [HP.out])
    | (go_at_call 17; (with_reducible refine (refvalid_any _ L _ _ hlen hcap (HI.out.grow hB3)).mono ?_); rintro e w4 ⟨rfl, hb4⟩; have hB4 := hB3.trans (hb4.mono hB3.size); rw [HV.out])
    | (go_at_call 18; (with_reducible refine (every_any _ _).mono ?_); rintro e w' ⟨rfl, rfl⟩; rw [HE.out])
    | (go_at_call 22; (with_reducible refine (reffirst_any _ L _ rope _ _ hlen (HI.out.grow hB4)).mono ?_); rintro e w' ⟨rfl, rfl⟩; rw [HFk.out])
    | (go_at_call 23; (with_reducible refine (refret_any _ L _ _ rope _ _ (Nat.le_refl _) hlen (HI.out.grow hB4)).mono ?_); rintro e w' ⟨rfl, rfl⟩; rw [show retTo L rope L.length = _ from HR.out]))
  go_ret
  exact ⟨rfl, hB4⟩

set_option maxRecDepth 100000 in
set_option maxHeartbeats 4000000 in
theorem due_ok (a : Option Addr) (L : List LogR) (cap : Nat) (rope : ByteArray) (every : Int) (w : World) (hm : Months w) (hI : Logs w.heap.size w a L) (hcap : L.length ≤ cap) (hs : shortB L = true) (hr : ¬ (60 : Int) < rope.size) (hv : validB L = true) (he : everyB every = true) (hf : firstI L rope ≠ -1) (ht : retB L rope = false) : Calls Tryd.prog 6 #[.slice a L.length cap, .string rope, .int .i64 every] w fun e w' => e = .returned (.bool true) ∧ Below w.heap.size w w' := by
  have HA := Lib.hid (awake_any w hm)
  have HI := Lib.hid hI; clear hI hm
  have _hcap := hcap
  have HSH := Lib.hid hs
  have hlen := short_len L hs
  clear hs
  obtain ⟨kf, hkf⟩ : ∃ kf : Nat, firstI L rope = kf := by
    rcases first_cases L rope with ⟨h, _⟩ | ⟨k, _, h, _⟩
    · exact absurd h hf
    · exact ⟨k, h⟩
  have HFk := Lib.hid hkf; clear hkf
  have HV := Lib.hid hv
  have HT := Lib.hid (valid_tame L hv).1
  have e0 : 1 ≤ every := by simp [everyB] at he; omega
  have e1 : every ≤ 36600 := by simp [everyB] at he; omega
  have HE := Lib.hid he
  have HR := Lib.hid ht
  have HN := Lib.hid hf
  have HP : Hid (dueP L rope every = (dueI L rope every, 0)) := Lib.hid (by unfold dueP; rw [hv, he, if_neg hf, ht]; rfl)
  clear hv he ht hf
  go_enter Tryd.func6, Tryd.ntmps6
  go_wp2_with (first
    | (go_at_call 10; (with_reducible refine HA.out.mono ?_); rintro e w1 ⟨rfl, hb1⟩)
    | (go_at_call 15; (with_reducible refine (short_any _ L _ _ (HI.out.grow hb1)).mono ?_); rintro e w2 ⟨rfl, hb2⟩; have hB2 := hb1.trans (hb2.mono hb1.size); rw [HSH.out])
    | (go_at_call 21; (with_reducible refine (due2_any _ L _ rope every _ hlen (HI.out.grow hB2)).mono ?_); rintro e w3 ⟨rfl, hb3⟩; have hB3 := hB2.trans (hb3.mono hB2.size); rw [HP.out])
    | (go_at_call 17; (with_reducible refine (refvalid_any _ L _ _ hlen hcap (HI.out.grow hB3)).mono ?_); rintro e w4 ⟨rfl, hb4⟩; have hB4 := hB3.trans (hb4.mono hB3.size); rw [HV.out])
    | (go_at_call 18; (with_reducible refine (every_any _ _).mono ?_); rintro e w' ⟨rfl, rfl⟩; rw [HE.out])
    | (go_at_call 22; (with_reducible refine (reffirst_any _ L _ rope _ _ hlen (HI.out.grow hB4)).mono ?_); rintro e w' ⟨rfl, rfl⟩; rw [HFk.out])
    | (go_at_call 23; (with_reducible refine (refret_any _ L _ _ rope _ _ (Nat.le_refl _) hlen (HI.out.grow hB4)).mono ?_); rintro e w' ⟨rfl, rfl⟩; rw [show retTo L rope L.length = _ from HR.out])
    | (go_at_call 24; (with_reducible refine (refdue_any _ L _ rope every _ _ hlen (HI.out.grow hB4) HT.out e0 e1 HN.out).mono ?_); rintro e w' ⟨rfl, rfl⟩))
  go_ret
  exact ⟨rfl, hB4⟩

theorem due_law (a : Option Addr) (L : List LogR) (cap : Nat) (rope : ByteArray) (every : Int) (w : World) (hm : Months w) (hI : Logs w.heap.size w a L) (hcap : L.length ≤ cap) : Calls Tryd.prog 6 #[.slice a L.length cap, .string rope, .int .i64 every] w fun e w' => e = .returned (.bool true) ∧ Below w.heap.size w w' := by
  cases hs : shortB L
  · exact duel_no a L cap rope every w hm hI hcap hs
  · by_cases hr : (60 : Int) < rope.size
    · exact due_long a L cap rope every w hm hI hcap hs hr
    · cases hv : validB L
      · exact due_bad a L cap rope every w hm hI hcap hs hr hv
      · cases he : everyB every
        · exact due_ev a L cap rope every w hm hI hcap hs hr hv he
        · by_cases hf : firstI L rope = -1
          · exact due_name a L cap rope every w hm hI hcap hs hr hv he hf
          · cases ht : retB L rope
            · exact due_ok a L cap rope every w hm hI hcap hs hr hv he hf ht
            · exact due_ret a L cap rope every w hm hI hcap hs hr hv he hf ht

set_option maxRecDepth 100000 in
set_option maxHeartbeats 4000000 in
theorem logs_no (a : Option Addr) (L : List LogR) (cap : Nat) (rope : ByteArray) (w : World) (hm : Months w) (hI : Logs w.heap.size w a L) (_hcap : L.length ≤ cap) (_hcm : cap ≤ 9223372036854775807) (hs : shortB L = false) : Calls Tryd.prog 7 #[.slice a L.length cap, .string rope] w fun e w' => e = .returned (.bool true) ∧ Below w.heap.size w w' := by
  have HA := Lib.hid (awake_any w hm)
  have HI := Lib.hid hI; clear hI hm
  have HSH := Lib.hid hs; clear hs
  go_enter Tryd.func7, Tryd.ntmps7
  go_wp2_with (first
    | (go_at_call 10; (with_reducible refine HA.out.mono ?_); rintro e w1 ⟨rfl, hb1⟩)
    | (go_at_call 15; (with_reducible refine (short_any _ L _ _ (HI.out.grow hb1)).mono ?_); rintro e w2 ⟨rfl, hb2⟩; have hB2 := hb1.trans (hb2.mono hb1.size); rw [HSH.out]))
  go_ret
  exact ⟨rfl, hB2⟩

set_option maxRecDepth 100000 in
set_option maxHeartbeats 4000000 in
theorem logs_long (a : Option Addr) (L : List LogR) (cap : Nat) (rope : ByteArray) (w : World) (hm : Months w) (hI : Logs w.heap.size w a L) (_hcap : L.length ≤ cap) (_hcm : cap ≤ 9223372036854775807) (hs : shortB L = true) (hr : (60 : Int) < rope.size) : Calls Tryd.prog 7 #[.slice a L.length cap, .string rope] w fun e w' => e = .returned (.bool true) ∧ Below w.heap.size w w' := by
  have HA := Lib.hid (awake_any w hm)
  have HI := Lib.hid hI; clear hI hm
  have HSH := Lib.hid hs; clear hs
  go_enter Tryd.func7, Tryd.ntmps7
  go_wp2_with (first
    | (go_at_call 10; (with_reducible refine HA.out.mono ?_); rintro e w1 ⟨rfl, hb1⟩)
    | (go_at_call 15; (with_reducible refine (short_any _ L _ _ (HI.out.grow hb1)).mono ?_); rintro e w2 ⟨rfl, hb2⟩; have hB2 := hb1.trans (hb2.mono hb1.size); rw [HSH.out]))
  go_ret
  exact ⟨rfl, hB2⟩

set_option maxRecDepth 100000 in
set_option maxHeartbeats 4000000 in
theorem logs_bad (a : Option Addr) (L : List LogR) (cap : Nat) (rope : ByteArray) (w : World) (hm : Months w) (hI : Logs w.heap.size w a L) (hcap : L.length ≤ cap) (hcm : cap ≤ 9223372036854775807) (hs : shortB L = true) (hr : ¬ (60 : Int) < rope.size) (hv : validB L = false) : Calls Tryd.prog 7 #[.slice a L.length cap, .string rope] w fun e w' => e = .returned (.bool true) ∧ Below w.heap.size w w' := by
  have HA := Lib.hid (awake_any w hm)
  have HI := Lib.hid hI; clear hI hm
  have _hcap := hcap
  have HSH := Lib.hid hs
  have hlen := short_len L hs
  clear hs
  have HV := Lib.hid hv
  have HPW : Hid (wornP L rope = (0, 1)) := Lib.hid (by unfold wornP givenI; rw [hv]; rfl)
  have HPR : Hid (retP L rope = (false, 1)) := Lib.hid (by unfold retP givenI; rw [hv]; rfl)
  clear hv
  go_enter Tryd.func7, Tryd.ntmps7
  go_wp2_with (first
    | (go_at_call 10; (with_reducible refine HA.out.mono ?_); rintro e w1 ⟨rfl, hb1⟩)
    | (go_at_call 15; (with_reducible refine (short_any _ L _ _ (HI.out.grow hb1)).mono ?_); rintro e w2 ⟨rfl, hb2⟩; have hB2 := hb1.trans (hb2.mono hb1.size); rw [HSH.out])
    | (go_at_call 25; (with_reducible refine (worn2_any _ L _ rope _ hlen hcap hcm (HI.out.grow hB2)).mono ?_); rintro e w3 ⟨rfl, hb3⟩; have hB3 := hB2.trans (hb3.mono hB2.size); rw [HPW.out])
    | (go_at_call 26; (with_reducible refine (retired2_any _ L _ rope _ hlen (HI.out.grow hB3)).mono ?_); rintro e w4 ⟨rfl, hb4⟩; have hB4 := hB3.trans (hb4.mono hB3.size); rw [HPR.out])
    | (go_at_call 17; (with_reducible refine (refvalid_any _ L _ _ hlen hcap (HI.out.grow hB4)).mono ?_); rintro e w5 ⟨rfl, hb5⟩; have hB5 := hB4.trans (hb5.mono hB4.size); rw [HV.out])
    | (go_at_call 27; (with_reducible refine (valid_any _ L _ _ hlen (HI.out.grow hB5)).mono ?_); rintro e w6 ⟨rfl, hb6⟩; have hB6 := hB5.trans (hb6.mono hB5.size); rw [HV.out]))
  go_ret
  exact ⟨rfl, hB6⟩

set_option maxRecDepth 100000 in
set_option maxHeartbeats 4000000 in
theorem logs_name (a : Option Addr) (L : List LogR) (cap : Nat) (rope : ByteArray) (w : World) (hm : Months w) (hI : Logs w.heap.size w a L) (hcap : L.length ≤ cap) (hcm : cap ≤ 9223372036854775807) (hs : shortB L = true) (hr : ¬ (60 : Int) < rope.size) (hv : validB L = true) (hf : firstI L rope = -1) : Calls Tryd.prog 7 #[.slice a L.length cap, .string rope] w fun e w' => e = .returned (.bool true) ∧ Below w.heap.size w w' := by
  have HA := Lib.hid (awake_any w hm)
  have HI := Lib.hid hI; clear hI hm
  have _hcap := hcap
  have HSH := Lib.hid hs
  have hlen := short_len L hs
  clear hs
  have HV := Lib.hid hv
  have HF := Lib.hid hf
  have HPW : Hid (wornP L rope = (0, 9)) := Lib.hid (by unfold wornP givenI; rw [hv, hf]; rfl)
  have HPR : Hid (retP L rope = (false, 9)) := Lib.hid (by unfold retP givenI; rw [hv, hf]; rfl)
  clear hv hf
  go_enter Tryd.func7, Tryd.ntmps7
  go_wp2_with (first
    | (go_at_call 10; (with_reducible refine HA.out.mono ?_); rintro e w1 ⟨rfl, hb1⟩)
    | (go_at_call 15; (with_reducible refine (short_any _ L _ _ (HI.out.grow hb1)).mono ?_); rintro e w2 ⟨rfl, hb2⟩; have hB2 := hb1.trans (hb2.mono hb1.size); rw [HSH.out])
    | (go_at_call 25; (with_reducible refine (worn2_any _ L _ rope _ hlen hcap hcm (HI.out.grow hB2)).mono ?_); rintro e w3 ⟨rfl, hb3⟩; have hB3 := hB2.trans (hb3.mono hB2.size); rw [HPW.out])
    | (go_at_call 26; (with_reducible refine (retired2_any _ L _ rope _ hlen (HI.out.grow hB3)).mono ?_); rintro e w4 ⟨rfl, hb4⟩; have hB4 := hB3.trans (hb4.mono hB3.size); rw [HPR.out])
    | (go_at_call 17; (with_reducible refine (refvalid_any _ L _ _ hlen hcap (HI.out.grow hB4)).mono ?_); rintro e w5 ⟨rfl, hb5⟩; have hB5 := hB4.trans (hb5.mono hB4.size); rw [HV.out])
    | (go_at_call 27; (with_reducible refine (valid_any _ L _ _ hlen (HI.out.grow hB5)).mono ?_); rintro e w6 ⟨rfl, hb6⟩; have hB6 := hB5.trans (hb6.mono hB5.size); rw [HV.out])
    | (go_at_call 22; (with_reducible refine (reffirst_any _ L _ rope _ _ hlen (HI.out.grow hB6)).mono ?_); rintro e w' ⟨rfl, rfl⟩; rw [HF.out]))
  go_ret
  exact ⟨rfl, hB6⟩

set_option maxRecDepth 100000 in
set_option maxHeartbeats 4000000 in
theorem logs_ok_true (a : Option Addr) (L : List LogR) (cap : Nat) (rope : ByteArray) (w : World) (hm : Months w) (hI : Logs w.heap.size w a L) (hcap : L.length ≤ cap) (hcm : cap ≤ 9223372036854775807) (hs : shortB L = true) (hr : ¬ (60 : Int) < rope.size) (hv : validB L = true) (hf : firstI L rope ≠ -1) (ht : retB L rope = true) : Calls Tryd.prog 7 #[.slice a L.length cap, .string rope] w fun e w' => e = .returned (.bool true) ∧ Below w.heap.size w w' := by
  have HA := Lib.hid (awake_any w hm)
  have HI := Lib.hid hI; clear hI hm
  have _hcap := hcap
  have HSH := Lib.hid hs
  have hlen := short_len L hs
  clear hs
  obtain ⟨kf, hkf⟩ : ∃ kf : Nat, firstI L rope = kf := by
    rcases first_cases L rope with ⟨h, _⟩ | ⟨k, _, h, _⟩
    · exact absurd h hf
    · exact ⟨k, h⟩
  have HFk := Lib.hid hkf; clear hkf
  have HV := Lib.hid hv
  have HT := Lib.hid (valid_tame L hv).1
  have HR := Lib.hid ht
  have HPW : Hid (wornP L rope = (wornI L rope, 0)) := Lib.hid (by unfold wornP givenI; rw [hv, if_neg hf]; rfl)
  have HPR : Hid (retP L rope = (true, 0)) := Lib.hid (by unfold retP givenI; rw [hv, if_neg hf, ht]; rfl)
  clear hv hf ht
  go_enter Tryd.func7, Tryd.ntmps7
  go_wp2_with (first
    | (go_at_call 10; (with_reducible refine HA.out.mono ?_); rintro e w1 ⟨rfl, hb1⟩)
    | (go_at_call 15; (with_reducible refine (short_any _ L _ _ (HI.out.grow hb1)).mono ?_); rintro e w2 ⟨rfl, hb2⟩; have hB2 := hb1.trans (hb2.mono hb1.size); rw [HSH.out])
    | (go_at_call 25; (with_reducible refine (worn2_any _ L _ rope _ hlen hcap hcm (HI.out.grow hB2)).mono ?_); rintro e w3 ⟨rfl, hb3⟩; have hB3 := hB2.trans (hb3.mono hB2.size); rw [HPW.out])
    | (go_at_call 26; (with_reducible refine (retired2_any _ L _ rope _ hlen (HI.out.grow hB3)).mono ?_); rintro e w4 ⟨rfl, hb4⟩; have hB4 := hB3.trans (hb4.mono hB3.size); rw [HPR.out])
    | (go_at_call 17; (with_reducible refine (refvalid_any _ L _ _ hlen hcap (HI.out.grow hB4)).mono ?_); rintro e w5 ⟨rfl, hb5⟩; have hB5 := hB4.trans (hb5.mono hB4.size); rw [HV.out])
    | (go_at_call 27; (with_reducible refine (valid_any _ L _ _ hlen (HI.out.grow hB5)).mono ?_); rintro e w6 ⟨rfl, hb6⟩; have hB6 := hB5.trans (hb6.mono hB5.size); rw [HV.out])
    | (go_at_call 22; (with_reducible refine (reffirst_any _ L _ rope _ _ hlen (HI.out.grow hB6)).mono ?_); rintro e w' ⟨rfl, rfl⟩; rw [HFk.out])
    | (go_at_call 28; (with_reducible refine (refworn_any _ L _ rope _ _ hlen (HI.out.grow hB6) HT.out).mono ?_); rintro e w' ⟨rfl, rfl⟩)
    | (go_at_call 23; (with_reducible refine (refret_any _ L _ _ rope _ _ (Nat.le_refl _) hlen (HI.out.grow hB6)).mono ?_); rintro e w' ⟨rfl, rfl⟩; rw [show retTo L rope L.length = _ from HR.out]))
  go_ret
  exact ⟨rfl, hB6⟩

set_option maxRecDepth 100000 in
set_option maxHeartbeats 4000000 in
theorem logs_ok_false (a : Option Addr) (L : List LogR) (cap : Nat) (rope : ByteArray) (w : World) (hm : Months w) (hI : Logs w.heap.size w a L) (hcap : L.length ≤ cap) (hcm : cap ≤ 9223372036854775807) (hs : shortB L = true) (hr : ¬ (60 : Int) < rope.size) (hv : validB L = true) (hf : firstI L rope ≠ -1) (ht : retB L rope = false) : Calls Tryd.prog 7 #[.slice a L.length cap, .string rope] w fun e w' => e = .returned (.bool true) ∧ Below w.heap.size w w' := by
  have HA := Lib.hid (awake_any w hm)
  have HI := Lib.hid hI; clear hI hm
  have _hcap := hcap
  have HSH := Lib.hid hs
  have hlen := short_len L hs
  clear hs
  obtain ⟨kf, hkf⟩ : ∃ kf : Nat, firstI L rope = kf := by
    rcases first_cases L rope with ⟨h, _⟩ | ⟨k, _, h, _⟩
    · exact absurd h hf
    · exact ⟨k, h⟩
  have HFk := Lib.hid hkf; clear hkf
  have HV := Lib.hid hv
  have HT := Lib.hid (valid_tame L hv).1
  have HR := Lib.hid ht
  have HPW : Hid (wornP L rope = (wornI L rope, 0)) := Lib.hid (by unfold wornP givenI; rw [hv, if_neg hf]; rfl)
  have HPR : Hid (retP L rope = (false, 0)) := Lib.hid (by unfold retP givenI; rw [hv, if_neg hf, ht]; rfl)
  clear hv hf ht
  go_enter Tryd.func7, Tryd.ntmps7
  go_wp2_with (first
    | (go_at_call 10; (with_reducible refine HA.out.mono ?_); rintro e w1 ⟨rfl, hb1⟩)
    | (go_at_call 15; (with_reducible refine (short_any _ L _ _ (HI.out.grow hb1)).mono ?_); rintro e w2 ⟨rfl, hb2⟩; have hB2 := hb1.trans (hb2.mono hb1.size); rw [HSH.out])
    | (go_at_call 25; (with_reducible refine (worn2_any _ L _ rope _ hlen hcap hcm (HI.out.grow hB2)).mono ?_); rintro e w3 ⟨rfl, hb3⟩; have hB3 := hB2.trans (hb3.mono hB2.size); rw [HPW.out])
    | (go_at_call 26; (with_reducible refine (retired2_any _ L _ rope _ hlen (HI.out.grow hB3)).mono ?_); rintro e w4 ⟨rfl, hb4⟩; have hB4 := hB3.trans (hb4.mono hB3.size); rw [HPR.out])
    | (go_at_call 17; (with_reducible refine (refvalid_any _ L _ _ hlen hcap (HI.out.grow hB4)).mono ?_); rintro e w5 ⟨rfl, hb5⟩; have hB5 := hB4.trans (hb5.mono hB4.size); rw [HV.out])
    | (go_at_call 27; (with_reducible refine (valid_any _ L _ _ hlen (HI.out.grow hB5)).mono ?_); rintro e w6 ⟨rfl, hb6⟩; have hB6 := hB5.trans (hb6.mono hB5.size); rw [HV.out])
    | (go_at_call 22; (with_reducible refine (reffirst_any _ L _ rope _ _ hlen (HI.out.grow hB6)).mono ?_); rintro e w' ⟨rfl, rfl⟩; rw [HFk.out])
    | (go_at_call 28; (with_reducible refine (refworn_any _ L _ rope _ _ hlen (HI.out.grow hB6) HT.out).mono ?_); rintro e w' ⟨rfl, rfl⟩)
    | (go_at_call 23; (with_reducible refine (refret_any _ L _ _ rope _ _ (Nat.le_refl _) hlen (HI.out.grow hB6)).mono ?_); rintro e w' ⟨rfl, rfl⟩; rw [show retTo L rope L.length = _ from HR.out]))
  go_ret
  exact ⟨rfl, hB6⟩

theorem logs_law (a : Option Addr) (L : List LogR) (cap : Nat) (rope : ByteArray) (w : World) (hm : Months w) (hI : Logs w.heap.size w a L) (hcap : L.length ≤ cap) (hcm : cap ≤ 9223372036854775807) : Calls Tryd.prog 7 #[.slice a L.length cap, .string rope] w fun e w' => e = .returned (.bool true) ∧ Below w.heap.size w w' := by
  cases hs : shortB L
  · exact logs_no a L cap rope w hm hI hcap hcm hs
  · by_cases hr : (60 : Int) < rope.size
    · exact logs_long a L cap rope w hm hI hcap hcm hs hr
    · cases hv : validB L
      · exact logs_bad a L cap rope w hm hI hcap hcm hs hr hv
      · by_cases hf : firstI L rope = -1
        · exact logs_name a L cap rope w hm hI hcap hcm hs hr hv hf
        · cases ht : retB L rope
          · exact logs_ok_false a L cap rope w hm hI hcap hcm hs hr hv hf ht
          · exact logs_ok_true a L cap rope w hm hI hcap hcm hs hr hv hf ht
end Go.Proofs.YtfojipgbenbigaaDoor
