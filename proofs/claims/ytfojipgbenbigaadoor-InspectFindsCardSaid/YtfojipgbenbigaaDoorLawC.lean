/-
  THE WALKS of the laws InspectChecks, InspectDue, InspectLogs: they answer true at every input. Condition: the months' table lies in memory as the program's text lays it.
-/
import Derived.Test.YtfojipgbenbigaaDoorLawA
namespace Go.Proofs.YtfojipgbenbigaaDoor
open Go.RowKit Go.Shelf

theorem check_at (a : Option Addr) (L : List LogR) (cap : Nat) (today every : Int) (F : List (Int × ByteArray)) (c : Int) (n : Nat) {w : World} (hlen : L.length ≤ 1100) (hI : Logs w.heap.size w a L) (hP : checkP L today every = (F, c)) (hn : F.length = n) :
    Calls Tryd.prog 16 #[.slice a L.length cap, .int .i64 today, .int .i64 every] w fun e w' => Hid (∃ a cap, e = .returned (.tuple #[.slice a n cap, .int .i64 c]) ∧ Finds w'.heap.size w' a F) ∧ Below w.heap.size w w' :=
  (check_any a L cap today every w hlen hI).mono fun e w' h => by
    rw [hP] at h
    obtain ⟨v, he, hrow, hb⟩ := h
    obtain ⟨a, cap, rfl, hF⟩ := finds_of_row hrow
    subst hn
    exact ⟨Lib.hid ⟨a, cap, he, hF⟩, hb⟩
theorem refcheck_at (a : Option Addr) (L : List LogR) (cap : Nat) (today every : Int) (F : List (Int × ByteArray)) (n : Nat) {w : World} (hlen : L.length ≤ 1000) (hI : Logs w.heap.size w a L) (ht : Tame L) (e0 : 1 ≤ every) (e1 : every ≤ 36600) (hP : findTo L today every L.length = F) (hn : F.length = n) :
    Calls Tryd.prog 20 #[.slice a L.length cap, .int .i64 today, .int .i64 every] w fun e w' => Hid (∃ a cap, e = .returned (.slice a n cap) ∧ Finds w'.heap.size w' a F) ∧ Below w.heap.size w w' :=
  (refcheck_any a L cap today every w hlen hI ht e0 e1).mono fun e w' h => by
    rw [hP] at h
    obtain ⟨v, he, hrow, hb⟩ := h.out
    obtain ⟨a, cap, rfl, hF⟩ := finds_of_row hrow
    subst hn
    exact ⟨Lib.hid ⟨a, cap, he, hF⟩, hb⟩

theorem short_len (L : List LogR) (h : shortB L = true) : L.length ≤ 1100 := by
  unfold shortB at h
  simp only [Bool.and_eq_true, Bool.or_eq_true, decide_eq_true_eq] at h
  omega

set_option maxRecDepth 100000 in
set_option maxHeartbeats 4000000 in
theorem checks_no (a : Option Addr) (L : List LogR) (cap : Nat) (today every : Int) (w : World) (hm : Months w) (hI : Logs w.heap.size w a L) (_hcap : L.length ≤ cap) (hs : shortB L = false) : Calls Tryd.prog 5 #[.slice a L.length cap, .int .i64 today, .int .i64 every] w fun e w' => e = .returned (.bool true) ∧ Below w.heap.size w w' := by
  have HA := Lib.hid (awake_any w hm)
  have HI := Lib.hid hI; clear hI hm
  have HSH := Lib.hid hs; clear hs
  go_enter Tryd.func5, Tryd.ntmps5
  go_wp2_with (first
    | (go_at_call 10; (with_reducible refine HA.out.mono ?_); rintro e w1 ⟨rfl, hb1⟩)
    | (go_at_call 15; (with_reducible refine (short_any _ L _ _ (HI.out.grow hb1)).mono ?_); rintro e w2 ⟨rfl, hb2⟩; have hB2 := hb1.trans (hb2.mono hb1.size); rw [HSH.out]))
  go_ret
  exact ⟨rfl, hB2⟩

set_option maxRecDepth 100000 in
set_option maxHeartbeats 4000000 in
theorem checks_bad (a : Option Addr) (L : List LogR) (cap : Nat) (today every : Int) (w : World) (hm : Months w) (hI : Logs w.heap.size w a L) (hcap : L.length ≤ cap) (hs : shortB L = true) (hv : validB L = false) : Calls Tryd.prog 5 #[.slice a L.length cap, .int .i64 today, .int .i64 every] w fun e w' => e = .returned (.bool true) ∧ Below w.heap.size w w' := by
  have HA := Lib.hid (awake_any w hm)
  have HI := Lib.hid hI; clear hI hm
  have _hcap := hcap
  have HSH := Lib.hid hs
  have hlen := short_len L hs
  clear hs
  have HV := Lib.hid hv
  have HCP : Hid (checkP L today every = ([], 1)) := Lib.hid (by unfold checkP; rw [hv]; rfl)
  have HCN : Hid (([] : List (Int × ByteArray)).length = 0) := Lib.hid rfl
  clear hv
  go_enter Tryd.func5, Tryd.ntmps5
  go_wp2_with (first
    | (go_at_call 10; (with_reducible refine HA.out.mono ?_); rintro e w1 ⟨rfl, hb1⟩)
    | (go_at_call 15; (with_reducible refine (short_any _ L _ _ (HI.out.grow hb1)).mono ?_); rintro e w2 ⟨rfl, hb2⟩; have hB2 := hb1.trans (hb2.mono hb1.size); rw [HSH.out])
    | (go_at_call 16; (with_reducible refine (check_at _ L _ today every _ _ _ hlen (HI.out.grow hB2) HCP.out HCN.out).mono ?_); rintro e w3 ⟨hx, hb3⟩; obtain ⟨a1, cap1, rfl, hF1⟩ := hx.out; have HF3 := Lib.hid hF1; clear hF1 hx; have hB3 := hB2.trans (hb3.mono hB2.size))
    | (go_at_call 17; (with_reducible refine (refvalid_any _ L _ _ hlen hcap (HI.out.grow hB3)).mono ?_); rintro e w4 ⟨rfl, hb4⟩; have hB4 := hB3.trans (hb4.mono hB3.size); rw [HV.out]))
  go_ret
  exact ⟨rfl, hB4⟩

set_option maxRecDepth 100000 in
set_option maxHeartbeats 4000000 in
theorem checks_neg (a : Option Addr) (L : List LogR) (cap : Nat) (today every : Int) (w : World) (hm : Months w) (hI : Logs w.heap.size w a L) (hcap : L.length ≤ cap) (hs : shortB L = true) (hv : validB L = true) (h0 : today < 0) : Calls Tryd.prog 5 #[.slice a L.length cap, .int .i64 today, .int .i64 every] w fun e w' => e = .returned (.bool true) ∧ Below w.heap.size w w' := by
  have HA := Lib.hid (awake_any w hm)
  have HI := Lib.hid hI; clear hI hm
  have _hcap := hcap
  have HSH := Lib.hid hs
  have hlen := short_len L hs
  clear hs
  have HV := Lib.hid hv
  have HCP : Hid (checkP L today every = ([], 2)) := Lib.hid (by unfold checkP; rw [hv, show isDayB today = false from decide_eq_false (by omega)]; first | rfl | (rw [Bool.and_false]; rfl))
  have HCN : Hid (([] : List (Int × ByteArray)).length = 0) := Lib.hid rfl
  clear hv
  go_enter Tryd.func5, Tryd.ntmps5
  go_wp2_with (first
    | (go_at_call 10; (with_reducible refine HA.out.mono ?_); rintro e w1 ⟨rfl, hb1⟩)
    | (go_at_call 15; (with_reducible refine (short_any _ L _ _ (HI.out.grow hb1)).mono ?_); rintro e w2 ⟨rfl, hb2⟩; have hB2 := hb1.trans (hb2.mono hb1.size); rw [HSH.out])
    | (go_at_call 16; (with_reducible refine (check_at _ L _ today every _ _ _ hlen (HI.out.grow hB2) HCP.out HCN.out).mono ?_); rintro e w3 ⟨hx, hb3⟩; obtain ⟨a1, cap1, rfl, hF1⟩ := hx.out; have HF3 := Lib.hid hF1; clear hF1 hx; have hB3 := hB2.trans (hb3.mono hB2.size))
    | (go_at_call 17; (with_reducible refine (refvalid_any _ L _ _ hlen hcap (HI.out.grow hB3)).mono ?_); rintro e w4 ⟨rfl, hb4⟩; have hB4 := hB3.trans (hb4.mono hB3.size); rw [HV.out])
    | (go_at_call 18; (with_reducible refine (every_any _ _).mono ?_); rintro e w' ⟨rfl, rfl⟩; rw [HE.out]))
  go_ret
  exact ⟨rfl, hB4⟩

set_option maxRecDepth 100000 in
set_option maxHeartbeats 4000000 in
theorem checks_big (a : Option Addr) (L : List LogR) (cap : Nat) (today every : Int) (w : World) (hm : Months w) (hI : Logs w.heap.size w a L) (hcap : L.length ≤ cap) (hs : shortB L = true) (hv : validB L = true) (h0 : ¬ today < 0) (h1 : 109572 < today) : Calls Tryd.prog 5 #[.slice a L.length cap, .int .i64 today, .int .i64 every] w fun e w' => e = .returned (.bool true) ∧ Below w.heap.size w w' := by
  have HA := Lib.hid (awake_any w hm)
  have HI := Lib.hid hI; clear hI hm
  have _hcap := hcap
  have HSH := Lib.hid hs
  have hlen := short_len L hs
  clear hs
  have HV := Lib.hid hv
  have HCP : Hid (checkP L today every = ([], 2)) := Lib.hid (by unfold checkP; rw [hv, show isDayB today = false from decide_eq_false (by omega)]; first | rfl | (rw [Bool.and_false]; rfl))
  have HCN : Hid (([] : List (Int × ByteArray)).length = 0) := Lib.hid rfl
  clear hv
  go_enter Tryd.func5, Tryd.ntmps5
  go_wp2_with (first
    | (go_at_call 10; (with_reducible refine HA.out.mono ?_); rintro e w1 ⟨rfl, hb1⟩)
    | (go_at_call 15; (with_reducible refine (short_any _ L _ _ (HI.out.grow hb1)).mono ?_); rintro e w2 ⟨rfl, hb2⟩; have hB2 := hb1.trans (hb2.mono hb1.size); rw [HSH.out])
    | (go_at_call 16; (with_reducible refine (check_at _ L _ today every _ _ _ hlen (HI.out.grow hB2) HCP.out HCN.out).mono ?_); rintro e w3 ⟨hx, hb3⟩; obtain ⟨a1, cap1, rfl, hF1⟩ := hx.out; have HF3 := Lib.hid hF1; clear hF1 hx; have hB3 := hB2.trans (hb3.mono hB2.size))
    | (go_at_call 17; (with_reducible refine (refvalid_any _ L _ _ hlen hcap (HI.out.grow hB3)).mono ?_); rintro e w4 ⟨rfl, hb4⟩; have hB4 := hB3.trans (hb4.mono hB3.size); rw [HV.out])
    | (go_at_call 18; (with_reducible refine (every_any _ _).mono ?_); rintro e w' ⟨rfl, rfl⟩; rw [HE.out]))
  go_ret
  exact ⟨rfl, hB4⟩

set_option maxRecDepth 100000 in
set_option maxHeartbeats 4000000 in
theorem checks_ev (a : Option Addr) (L : List LogR) (cap : Nat) (today every : Int) (w : World) (hm : Months w) (hI : Logs w.heap.size w a L) (hcap : L.length ≤ cap) (hs : shortB L = true) (hv : validB L = true) (h0 : ¬ today < 0) (h1 : ¬ 109572 < today) (he : everyB every = false) : Calls Tryd.prog 5 #[.slice a L.length cap, .int .i64 today, .int .i64 every] w fun e w' => e = .returned (.bool true) ∧ Below w.heap.size w w' := by
  have HA := Lib.hid (awake_any w hm)
  have HI := Lib.hid hI; clear hI hm
  have _hcap := hcap
  have HSH := Lib.hid hs
  have hlen := short_len L hs
  clear hs
  have HV := Lib.hid hv
  have HCP : Hid (checkP L today every = ([], 2)) := Lib.hid (by unfold checkP; rw [hv, he]; first | rfl | (rw [Bool.and_false]; rfl))
  have HCN : Hid (([] : List (Int × ByteArray)).length = 0) := Lib.hid rfl
  have HE := Lib.hid he
  clear hv he
  go_enter Tryd.func5, Tryd.ntmps5
  go_wp2_with (first
    | (go_at_call 10; (with_reducible refine HA.out.mono ?_); rintro e w1 ⟨rfl, hb1⟩)
    | (go_at_call 15; (with_reducible refine (short_any _ L _ _ (HI.out.grow hb1)).mono ?_); rintro e w2 ⟨rfl, hb2⟩; have hB2 := hb1.trans (hb2.mono hb1.size); rw [HSH.out])
    | (go_at_call 16; (with_reducible refine (check_at _ L _ today every _ _ _ hlen (HI.out.grow hB2) HCP.out HCN.out).mono ?_); rintro e w3 ⟨hx, hb3⟩; obtain ⟨a1, cap1, rfl, hF1⟩ := hx.out; have HF3 := Lib.hid hF1; clear hF1 hx; have hB3 := hB2.trans (hb3.mono hB2.size))
    | (go_at_call 17; (with_reducible refine (refvalid_any _ L _ _ hlen hcap (HI.out.grow hB3)).mono ?_); rintro e w4 ⟨rfl, hb4⟩; have hB4 := hB3.trans (hb4.mono hB3.size); rw [HV.out])
    | (go_at_call 18; (with_reducible refine (every_any _ _).mono ?_); rintro e w' ⟨rfl, rfl⟩; rw [HE.out]))
  go_ret
  exact ⟨rfl, hB4⟩

set_option maxRecDepth 100000 in
set_option maxHeartbeats 4000000 in
theorem checks_ok (a : Option Addr) (L : List LogR) (cap : Nat) (today every : Int) (w : World) (hm : Months w) (hI : Logs w.heap.size w a L) (hcap : L.length ≤ cap) (hs : shortB L = true) (hv : validB L = true) (h0 : ¬ today < 0) (h1 : ¬ 109572 < today) (he : everyB every = true) : Calls Tryd.prog 5 #[.slice a L.length cap, .int .i64 today, .int .i64 every] w fun e w' => e = .returned (.bool true) ∧ Below w.heap.size w w' := by
  have HA := Lib.hid (awake_any w hm)
  have HI := Lib.hid hI; clear hI hm
  have _hcap := hcap
  have HSH := Lib.hid hs
  have hlen := short_len L hs
  clear hs
  have HV := Lib.hid hv
  obtain ⟨ht, hlen2⟩ := valid_tame L hv
  have HT := Lib.hid ht
  have e0 : 1 ≤ every := by simp [everyB] at he; omega
  have e1 : every ≤ 36600 := by simp [everyB] at he; omega
  obtain ⟨F, hF⟩ : ∃ F, findTo L today every L.length = F := ⟨_, rfl⟩
  have hFl : F.length ≤ 1100 := by have := findTo_len L today every L.length; rw [hF] at this; omega
  have HCP : Hid (checkP L today every = (F, 0)) := Lib.hid (by unfold checkP; rw [hv, show isDayB today = true from decide_eq_true (by omega), he, hF]; rfl)
  have HRP := Lib.hid hF
  have HE := Lib.hid he
  clear hv ht he hF
  go_enter Tryd.func5, Tryd.ntmps5
  go_wp2_with (first
    | (go_at_call 10; (with_reducible refine HA.out.mono ?_); rintro e w1 ⟨rfl, hb1⟩)
    | (go_at_call 15; (with_reducible refine (short_any _ L _ _ (HI.out.grow hb1)).mono ?_); rintro e w2 ⟨rfl, hb2⟩; have hB2 := hb1.trans (hb2.mono hb1.size); rw [HSH.out])
    | (go_at_call 16; (with_reducible refine (check_at _ L _ today every _ _ _ hlen (HI.out.grow hB2) HCP.out rfl).mono ?_); rintro e w3 ⟨hx, hb3⟩; obtain ⟨a1, cap1, rfl, hF1⟩ := hx.out; have HF3 := Lib.hid hF1; clear hF1 hx; have hB3 := hB2.trans (hb3.mono hB2.size))
    | (go_at_call 17; (with_reducible refine (refvalid_any _ L _ _ hlen hcap (HI.out.grow hB3)).mono ?_); rintro e w4 ⟨rfl, hb4⟩; have hB4 := hB3.trans (hb4.mono hB3.size); rw [HV.out])
    | (go_at_call 18; (with_reducible refine (every_any _ _).mono ?_); rintro e w' ⟨rfl, rfl⟩; rw [HE.out])
    | (go_at_call 20; (with_reducible refine (refcheck_at _ L _ today every _ _ hlen2 (HI.out.grow hB4) HT.out e0 e1 HRP.out rfl).mono ?_); rintro e w5 ⟨hx, hb5⟩; obtain ⟨a2, cap2, rfl, hF2⟩ := hx.out; have HF5 := Lib.hid hF2; have HF35 := Lib.hid ((HF3.out.grow hb4).grow hb5); clear hF2 hx; have hB5 := hB4.trans (hb5.mono hB4.size))
    | (go_at_call 19; (refine ((equal_any _ _ F F _ _ _ hFl HF35.out HF5.out hFl).mono fun e w' h => show e = .returned (.bool true) ∧ Below w5.heap.size w5 w' by (rw [decide_eq_true rfl] at h; exact h)).mono ?_); rintro e w6 ⟨rfl, hb6⟩; have hB6 := hB5.trans (hb6.mono hB5.size)))
  go_ret
  exact ⟨rfl, hB6⟩

theorem checks_law (a : Option Addr) (L : List LogR) (cap : Nat) (today every : Int) (w : World) (hm : Months w) (hI : Logs w.heap.size w a L) (hcap : L.length ≤ cap) : Calls Tryd.prog 5 #[.slice a L.length cap, .int .i64 today, .int .i64 every] w fun e w' => e = .returned (.bool true) ∧ Below w.heap.size w w' := by
  cases hs : shortB L
  · exact checks_no a L cap today every w hm hI hcap hs
  · cases hv : validB L
    · exact checks_bad a L cap today every w hm hI hcap hs hv
    · by_cases h0 : today < 0
      · exact checks_neg a L cap today every w hm hI hcap hs hv h0
      · by_cases h1 : 109572 < today
        · exact checks_big a L cap today every w hm hI hcap hs hv h0 h1
        · cases he : everyB every
          · exact checks_ev a L cap today every w hm hI hcap hs hv h0 h1 he
          · exact checks_ok a L cap today every w hm hI hcap hs hv h0 h1 he
end Go.Proofs.YtfojipgbenbigaaDoor
