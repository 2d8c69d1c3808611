/-
  THE WALKS of given, Due, Retired, Worn (package inspect).
-/
import Derived.Test.YtfojipgbenbigaaDoorValid
namespace Go.Proofs.YtfojipgbenbigaaDoor
open Go.RowKit Go.Shelf

/-- The error of a log and a rope; what Due, Worn, Retired hand back. -/
def givenI (L : List LogR) (rope : ByteArray) : Int := if validB L then (if firstI L rope = -1 then 9 else 0) else 1
def dueP (L : List LogR) (rope : ByteArray) (every : Int) : Int × Int :=
  if validB L then (if everyB every then (if firstI L rope = -1 then (0, 9) else if retB L rope then (0, 13) else (dueI L rope every, 0)) else (0, 2)) else (0, 1)
def wornP (L : List LogR) (rope : ByteArray) : Int × Int := if givenI L rope = 0 then (wornI L rope, 0) else (0, givenI L rope)
def retP (L : List LogR) (rope : ByteArray) : Bool × Int := if givenI L rope = 0 then (retB L rope, 0) else (false, givenI L rope)

theorem has_first (L : List LogR) (rope : ByteArray) : hasP L (fun r => decide (r.rope = rope)) = decide (¬ firstI L rope = -1) := by
  unfold hasP
  rw [firstP_rope]
  rcases first_cases L rope with ⟨h, _⟩ | ⟨k, _, h, _, _⟩ <;> rw [h, Bool.eq_iff_iff] <;> simp <;> omega

set_option maxHeartbeats 1000000 in
theorem given_any (a : Option Addr) (L : List LogR) (cap : Nat) (rope : ByteArray) (w : World) (hlen : L.length ≤ 1100) (hI : Logs w.heap.size w a L) :
    Calls Tryd.prog 49 #[.slice a L.length cap, .string rope] w fun e w' => e = .returned (.int .i64 (givenI L rope)) ∧ Below w.heap.size w w' := by
  have HI := Lib.hid hI
  have hB0 : Below w.heap.size w (w.alloc (.cells #[.string rope] 9)) := (Below.refl _ w).alloc (Nat.le_refl _) _
  have HC := Lib.hid (valid_any a L cap (w.alloc (.cells #[.string rope] 9)) hlen (hI.grow hB0))
  have cR : (w.alloc (.cells #[.string rope] 9)).cell? ⟨w.heap.size, 0, none⟩ = some (.string rope) := by simp
  have HcR := Lib.hid cR; clear cR
  have HB0 := Lib.hid hB0; clear hB0 hI
  have HG : Hid (givenI L rope = if validB L then (if firstI L rope = -1 then 9 else 0) else 1) := Lib.hid rfl
  cases hv : validB L
  · rw [hv] at HC
    have HV := Lib.hid hv; clear hv
    go_enter Tryd.func49, Tryd.ntmps49
    go_wp2_with (go_at_call 27; (with_reducible refine HC.out.mono ?_); rintro e w1 ⟨rfl, hb1⟩)
    go_ret
    exact ⟨ret_int (by rw [HG.out, HV.out]; rfl), HB0.out.trans (hb1.mono (by simp))⟩
  · rw [hv] at HC
    have HV := Lib.hid hv; clear hv
    have hh := has_first L rope
    obtain ⟨bf, hbf⟩ : ∃ bf, decide (¬ firstI L rope = -1) = bf := ⟨_, rfl⟩
    rw [hbf] at hh
    have HH := Lib.hid hh
    have HF := Lib.hid hbf
    clear hh hbf
    cases bf
    all_goals
      go_enter Tryd.func49, Tryd.ntmps49
      go_wp2_with (first
        | (go_at_call 27; (with_reducible refine HC.out.mono ?_); rintro e w1 ⟨rfl, hb1⟩; have hB1 := HB0.out.trans (hb1.mono (by simp)); have e1 := (hb1.cell (p := ⟨w.heap.size, 0, none⟩) (by simp)).trans HcR.out)
        | (go_at_call 43; (refine (containsFunc_any _ L _ w1.heap.size _ _ (fun r => decide (r.rope = rope)) _ (enters_of Tryd.func58 (by kernel_rfl) rfl) hlen (Nat.le_refl _) (HI.out.grow hB1) (asks_given _ rope _ _ (by have := hb1.size; simp at this; omega) e1)).mono ?_); rintro e w2 ⟨rfl, hb2⟩; have hB2 := hB1.trans (hb2.mono hB1.size); rw [HH.out]))
      go_ret
    · exact ⟨ret_int (by rw [HG.out, HV.out, if_pos rfl, if_pos (by have := of_decide_eq_false HF.out; omega)]), hB2⟩
    · exact ⟨ret_int (by rw [HG.out, HV.out, if_pos rfl, if_neg (of_decide_eq_true HF.out)]), hB2⟩

theorem given_zero (L : List LogR) (rope : ByteArray) : givenI L rope = 0 ↔ validB L = true ∧ firstI L rope ≠ -1 := by
  unfold givenI
  cases validB L <;> simp

set_option maxHeartbeats 1000000 in
theorem due2_any (a : Option Addr) (L : List LogR) (cap : Nat) (rope : ByteArray) (every : Int) (w : World) (hlen : L.length ≤ 1100) (hI : Logs w.heap.size w a L) :
    Calls Tryd.prog 21 #[.slice a L.length cap, .string rope, .int .i64 every] w fun e w' => e = .returned (.tuple #[.int .i64 (dueP L rope every).1, .int .i64 (dueP L rope every).2]) ∧ Below w.heap.size w w' := by
  have HC := Lib.hid (valid_any a L cap w hlen hI)
  have HI := Lib.hid hI; clear hI
  have HD : Hid (dueP L rope every = if validB L then (if everyB every then (if firstI L rope = -1 then (0, 9) else if retB L rope then (0, 13) else (dueI L rope every, 0)) else (0, 2)) else (0, 1)) := Lib.hid rfl
  have HG : Hid (givenI L rope = if validB L then (if firstI L rope = -1 then 9 else 0) else 1) := Lib.hid rfl
  cases hv : validB L
  · rw [hv] at HC HD
    clear hv
    go_enter Tryd.func21, Tryd.ntmps21
    go_wp2_with (go_at_call 27; (with_reducible refine HC.out.mono ?_); rintro e w1 ⟨rfl, hb1⟩)
    go_ret2
    exact ⟨by rw [HD.out]; rfl, hb1⟩
  · have ht := (valid_tame L hv).1
    rw [hv] at HC HD HG
    have HT := Lib.hid ht
    clear hv ht
    by_cases q1 : every < 1
    · have HE : Hid (everyB every = false) := Lib.hid (by unfold everyB; exact decide_eq_false (by omega))
      go_enter Tryd.func21, Tryd.ntmps21
      go_wp2_with (go_at_call 27; (with_reducible refine HC.out.mono ?_); rintro e w1 ⟨rfl, hb1⟩)
      go_ret2
      exact ⟨by rw [HD.out, HE.out]; rfl, hb1⟩
    · by_cases q2 : 36600 < every
      · have HE : Hid (everyB every = false) := Lib.hid (by unfold everyB; exact decide_eq_false (by omega))
        go_enter Tryd.func21, Tryd.ntmps21
        go_wp2_with (go_at_call 27; (with_reducible refine HC.out.mono ?_); rintro e w1 ⟨rfl, hb1⟩)
        go_ret2
        exact ⟨by rw [HD.out, HE.out]; rfl, hb1⟩
      · have HE : Hid (everyB every = true) := Lib.hid (by unfold everyB; exact decide_eq_true (by omega))
        by_cases hf : firstI L rope = -1
        · rw [if_pos rfl, if_pos hf] at HG
          have HF := Lib.hid hf; clear hf
          go_enter Tryd.func21, Tryd.ntmps21
          go_wp2_with (first
            | (go_at_call 27; (with_reducible refine HC.out.mono ?_); rintro e w1 ⟨rfl, hb1⟩)
            | (go_at_call 49; (with_reducible refine (given_any _ L _ rope _ hlen (HI.out.grow hb1)).mono ?_); rintro e w2 ⟨rfl, hb2⟩; have hB2 := hb1.trans (hb2.mono hb1.size); rw [HG.out]))
          go_ret2
          exact ⟨by rw [HD.out, HE.out, HF.out]; rfl, hB2⟩
        · rw [if_pos rfl, if_neg hf] at HG
          have HF := Lib.hid hf; clear hf
          cases hr : retB L rope
          · have HR := Lib.hid hr; clear hr
            go_enter Tryd.func21, Tryd.ntmps21
            go_wp2_with (first
              | (go_at_call 27; (with_reducible refine HC.out.mono ?_); rintro e w1 ⟨rfl, hb1⟩)
              | (go_at_call 49; (with_reducible refine (given_any _ L _ rope _ hlen (HI.out.grow hb1)).mono ?_); rintro e w2 ⟨rfl, hb2⟩; have hB2 := hb1.trans (hb2.mono hb1.size); rw [HG.out])
              | (go_at_call 46; (with_reducible refine (isRetired_any _ L _ rope _ hlen (HI.out.grow hB2)).mono ?_); rintro e w3 ⟨rfl, hb3⟩; have hB3 := hB2.trans (hb3.mono hB2.size); rw [HR.out])
              | (go_at_call 47; (with_reducible refine (due_any _ L _ rope every _ hlen (HI.out.grow hB3) HT.out (by omega) (by omega) HF.out).mono ?_); rintro e w4 ⟨rfl, hb4⟩; have hB4 := hB3.trans (hb4.mono hB3.size)))
            go_ret2
            exact ⟨by rw [HD.out, HE.out, HR.out, if_neg HF.out]; rfl, hB4⟩
          · have HR := Lib.hid hr; clear hr
            go_enter Tryd.func21, Tryd.ntmps21
            go_wp2_with (first
              | (go_at_call 27; (with_reducible refine HC.out.mono ?_); rintro e w1 ⟨rfl, hb1⟩)
              | (go_at_call 49; (with_reducible refine (given_any _ L _ rope _ hlen (HI.out.grow hb1)).mono ?_); rintro e w2 ⟨rfl, hb2⟩; have hB2 := hb1.trans (hb2.mono hb1.size); rw [HG.out])
              | (go_at_call 46; (with_reducible refine (isRetired_any _ L _ rope _ hlen (HI.out.grow hB2)).mono ?_); rintro e w3 ⟨rfl, hb3⟩; have hB3 := hB2.trans (hb3.mono hB2.size); rw [HR.out]))
            go_ret2
            exact ⟨by rw [HD.out, HE.out, HR.out, if_neg HF.out]; rfl, hB3⟩

set_option maxHeartbeats 1000000 in
theorem retired2_any (a : Option Addr) (L : List LogR) (cap : Nat) (rope : ByteArray) (w : World) (hlen : L.length ≤ 1100) (hI : Logs w.heap.size w a L) :
    Calls Tryd.prog 26 #[.slice a L.length cap, .string rope] w fun e w' => e = .returned (.tuple #[.bool (retP L rope).1, .int .i64 (retP L rope).2]) ∧ Below w.heap.size w w' := by
  have HC := Lib.hid (given_any a L cap rope w hlen hI)
  have HI := Lib.hid hI; clear hI
  by_cases hg : givenI L rope = 0
  · have HP : Hid (retP L rope = (retB L rope, 0)) := Lib.hid (by unfold retP; rw [if_pos hg])
    rw [hg] at HC
    clear hg
    go_enter Tryd.func26, Tryd.ntmps26
    go_wp2_with (first
      | (go_at_call 49; (with_reducible refine HC.out.mono ?_); rintro e w1 ⟨rfl, hb1⟩)
      | (go_at_call 46; (with_reducible refine (isRetired_any _ L _ rope _ hlen (HI.out.grow hb1)).mono ?_); rintro e w3 ⟨rfl, hb3⟩; have hB3 := hb1.trans (hb3.mono hb1.size)))
    go_ret2
    exact ⟨by rw [HP.out]; rfl, hB3⟩
  · have HP : Hid (retP L rope = (false, givenI L rope)) := Lib.hid (by unfold retP; rw [if_neg hg])
    have hgn : (givenI L rope != 0) = true := bne_iff_ne.2 hg
    clear hg
    go_enter Tryd.func26, Tryd.ntmps26
    go_wp2_with (go_at_call 49; (with_reducible refine HC.out.mono ?_); rintro e w1 ⟨rfl, hb1⟩)
    go_ret2
    exact ⟨by rw [HP.out]; rfl, hb1⟩

theorem runsFrom_eq (L : List LogR) (rope : ByteArray) (s k : Nat) : runsFrom L rope s (k + 1) = runsFrom L rope s k + if (lg L (s + k)).rope = rope then (lg L (s + k)).runs else 0 := rfl

set_option maxHeartbeats 2000000 in
theorem worn2_any (a : Option Addr) (L : List LogR) (cap : Nat) (rope : ByteArray) (w : World) (hlen : L.length ≤ 1100) (hcap : L.length ≤ cap) (hcm : cap ≤ 9223372036854775807) (hI : Logs w.heap.size w a L) :
    Calls Tryd.prog 25 #[.slice a L.length cap, .string rope] w fun e w' => e = .returned (.tuple #[.int .i64 (wornP L rope).1, .int .i64 (wornP L rope).2]) ∧ Below w.heap.size w w' := by
  have HC := Lib.hid (given_any a L cap rope w hlen hI)
  have HI := Lib.hid hI
  by_cases hg : givenI L rope = 0
  · have HP : Hid (wornP L rope = (wornI L rope, 0)) := Lib.hid (by unfold wornP; rw [if_pos hg])
    obtain ⟨hv, hf⟩ := (given_zero L rope).1 hg
    have HT := Lib.hid (valid_tame L hv).1
    have hpos : 0 < L.length := by
      rcases first_cases L rope with ⟨h, _⟩ | ⟨k, hk, _⟩
      · exact absurd h hf
      · omega
    obtain ⟨b, off, rfl, hb, hc⟩ := hI hpos
    rw [hg] at HC
    clear hg hv hf
    obtain ⟨s, hs, hsl⟩ := last_bd L rope [2] L.length
    have HW : Hid (wornI L rope = runsFrom L rope s (L.length - s)) := Lib.hid (by unfold wornI lastI; rw [hs, Int.toNat_natCast])
    have HS : Hid (lastI L rope [2] = (s : Int) - 1) := Lib.hid (by unfold lastI; omega)
    clear hs
    have hcs : ∀ i, s + i < L.length → w.cell? ⟨b, off + s * 4 + i * 4, none⟩ = some (.int .i64 (lg L (s + i)).day) ∧ w.cell? ⟨b, off + s * 4 + i * 4 + 1, none⟩ = some (.string (lg L (s + i)).rope) ∧
        w.cell? ⟨b, off + s * 4 + i * 4 + 2, none⟩ = some (.int .i64 (lg L (s + i)).kind) ∧ w.cell? ⟨b, off + s * 4 + i * 4 + 3, none⟩ = some (.int .i64 (lg L (s + i)).runs) := fun i hi => by
      have := hc (s + i) hi
      rwa [show off + (s + i) * 4 = off + s * 4 + i * 4 by omega] at this
    have HCS := Lib.hid hcs
    clear hc hcs
    go_enter Tryd.func25, Tryd.ntmps25
    go_wp2_with (first
      | (go_at_call 49; (with_reducible refine HC.out.mono ?_); rintro e w1 ⟨rfl, hb1⟩)
      | (go_at_call 51; (with_reducible refine (last_one _ L _ rope 2 _ hlen (HI.out.grow hb1)).mono ?_); rintro e w2 ⟨rfl, hb2⟩; have hB2 := hb1.trans (hb2.mono hb1.size); rw [HS.out]))
    · have h0 : L.length - s = 0 := by omega
      rw [h0]
      have H : Hid (wornI L rope = 0) := Lib.hid (by rw [HW.out, h0]; rfl)
      clear h0
      go_loopw [7, 24] (fun n i wr => n = .int .i64 0 ∧ i = .int .i64 0 ∧ Below w.heap.size w wr) (fun _ _ _ => 0)
      case atStart => exact ⟨rfl, rfl, hB2⟩
      case round =>
        obtain ⟨rfl, rfl, hB⟩ := hrel
        go_wp2
        go_ret2
        exact ⟨by rw [HP.out, H.out]; rfl, hB⟩
    · go_loopw [7, 24] (fun n i wr => ∃ k : Nat, s + k ≤ L.length ∧ i = .int .i64 k ∧ n = .int .i64 (runsFrom L rope s k) ∧ Below w.heap.size w wr) (fun _ i _ => L.length - (intOf i).toNat)
      case atStart => exact ⟨0, by omega, rfl, rfl, hB2⟩
      case round =>
        obtain ⟨k, hk, rfl, rfl, hB⟩ := hrel
        have bd := runsFrom_bd L rope s HT.out k hk
        have hk2 : k ≤ 1100 := by omega
        by_cases hlt : k < L.length - s
        · obtain ⟨c0, c1, c2, c3⟩ := HCS.out k (by omega)
          obtain ⟨_, _, r1, r2⟩ := HT.out (s + k) (by omega)
          have hbr : b < wr.heap.size := by have := hB.size; omega
          have d0 := (hB.cell (p := ⟨b, off + s * 4 + k * 4, none⟩) hb).trans c0
          have d1 := (hB.cell (p := ⟨b, off + s * 4 + k * 4 + 1, none⟩) hb).trans c1
          have d2 := (hB.cell (p := ⟨b, off + s * 4 + k * 4 + 2, none⟩) hb).trans c2
          have d3 := (hB.cell (p := ⟨b, off + s * 4 + k * 4 + 3, none⟩) hb).trans c3
          clear c0 c1 c2 c3
          have hs := str_eq (lg L (s + k)).rope rope
          have He := Lib.hid (runsFrom_eq L rope s k)
          by_cases e : (lg L (s + k)).rope = rope
          · have H : Hid (runsFrom L rope s (k + 1) = runsFrom L rope s k + (lg L (s + k)).runs) := Lib.hid (by rw [He.out, if_pos e])
            rw [decide_eq_true e] at hs
            clear e
            go_wp2
            go_roundw
            case rel => exact ⟨k + 1, by omega, by go_num, by rw [H.out], hB.alloc hB.size _⟩
            case measure => simp [intOf]; omega
          · have H : Hid (runsFrom L rope s (k + 1) = runsFrom L rope s k) := Lib.hid (by rw [He.out, if_neg e]; omega)
            rw [decide_eq_false e] at hs
            clear e
            go_wp2
            go_roundw
            case rel => exact ⟨k + 1, by omega, by go_num, by rw [H.out], hB.alloc hB.size _⟩
            case measure => simp [intOf]; omega
        · have H : Hid (wornI L rope = runsFrom L rope s k) := Lib.hid (by rw [HW.out, show L.length - s = k by omega])
          go_wp2
          go_ret2
          exact ⟨by rw [HP.out, H.out]; rfl, hB⟩
  · have HP : Hid (wornP L rope = (0, givenI L rope)) := Lib.hid (by unfold wornP; rw [if_neg hg])
    have hgn : (givenI L rope != 0) = true := bne_iff_ne.2 hg
    clear hg
    go_enter Tryd.func25, Tryd.ntmps25
    go_wp2_with (go_at_call 49; (with_reducible refine HC.out.mono ?_); rintro e w1 ⟨rfl, hb1⟩)
    go_ret2
    exact ⟨by rw [HP.out]; rfl, hb1⟩
end Go.Proofs.YtfojipgbenbigaaDoor
