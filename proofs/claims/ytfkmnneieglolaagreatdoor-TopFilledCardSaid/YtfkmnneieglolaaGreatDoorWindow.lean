/-
  THE WALKS of Window, Fewest, Possible (bricks).
-/
import Derived.Test.YtfkmnneieglolaaGreatDoorFirst
namespace Go.Proofs.YtfkmnneieglolaaGreatDoor
open Go.RowKit Go.Shelf
theorem best_congr {low high low' high' : Int} {L : List BrickR} {S : List Int → Prop} {st : St} (hw : ∀ c, S c → winB low' high' (sumC L c) = winB low high (sumC L c)) (h : BestOf low high L S st) : BestOf low' high' L S st := by
  cases st with
  | none => exact fun c hc => (hw c hc).trans (h c hc)
  | some p =>
    obtain ⟨b, m⟩ := p
    obtain ⟨h1, h2, h3, h4⟩ := h
    exact ⟨h1, (hw b h1).trans h2, h3, fun c hc hwc => h4 c hc ((hw c hc).symm.trans hwc)⟩
theorem firstP_congr {low high low' high' : Int} {L : List BrickR} (ok : BrickOK L) (hl : L.length ≤ 8) (h : ∀ s, 0 ≤ s → s ≤ 503316480 → winB low' high' s = winB low high s) : firstP low' high' L = firstP low high L := by
  refine best_unique (first_best low' high' L) (best_congr (fun c hc => h _ ?_ ?_) (first_best low high L))
  · exact (isC_bd ok hc).1
  · have := (isC_bd ok hc).2.1; have := (bounds_bg ok hl).2; omega
/-- A slice of numbers that a call hands back: nil, or a row of its own. -/
def RowV (n₀ : Nat) (w : World) (v : Value) : St → Prop
  | none => v = .slice none 0 0
  | some (c, _) => w.ownsRow n₀ 3 1 v c.length (nflat c)
theorem RowV.of_best {B n₀ : Nat} {w : World} {v : Value} {st : St} (h : BestV B w v st) (hn : n₀ ≤ B + 8) : RowV n₀ w v st := by
  cases st with
  | none => exact h
  | some p => exact ownsRow_base h hn
theorem RowV.base {n₀ n₁ : Nat} {w : World} {v : Value} {st : St} (h : RowV n₁ w v st) (hn : n₀ ≤ n₁) : RowV n₀ w v st := by
  cases st with
  | none => exact h
  | some p => exact ownsRow_base h hn
/-- It reads as the list, nil as the empty one. -/
def listS : St → List Int
  | none => []
  | some (c, _) => c
theorem RowV.nums {n₀ : Nat} {w : World} {v : Value} {st : St} (h : RowV n₀ w v st) : ∃ a cap, v = .slice a (listS st).length cap ∧ (listS st).length ≤ cap ∧ cap ≤ maxLen ∧ (a = none → cap = 0) ∧ Nums w.heap.size w a (listS st) := by
  cases st with
  | none => exact ⟨none, 0, h, Nat.le_refl _, by unfold maxLen; omega, fun _ => rfl, Nums.nil⟩
  | some p => exact num_of_row h
def winC (low high : Int) (L : List BrickR) : St := if brickB L = true ∧ low ≤ high then firstP low high L else none
def winE (low high : Int) (L : List BrickR) : Int := if brickB L = true then (if low ≤ high then (if (firstP low high L).isSome then 0 else 12) else 17) else 1
set_option maxRecDepth 100000 in
set_option maxHeartbeats 16000000 in
theorem window_any (low high : Int) (a : Option Addr) (L : List BrickR) (cap : Nat) (w : World) (hcap : L.length ≤ cap) (h : Bricks w.heap.size w a L) :
    Calls Tryz.prog 47 #[.slice a L.length cap, .int .i64 low, .int .i64 high] w fun e w' => Hid (∃ v, e = .returned (.tuple #[v, .int .i64 (winE low high L)]) ∧ RowV w.heap.size w' v (winC low high L)) ∧ Below w.heap.size w w' := by
  have HU := Lib.hid h
  clear h
  cases hb : brickB L
  · have HB := Lib.hid hb
    have HC : Hid (winC low high L = none) := Lib.hid (by unfold winC; rw [hb]; rfl)
    have HE : Hid (winE low high L = 1) := Lib.hid (by unfold winE; rw [hb]; rfl)
    clear hb
    go_enter Tryz.func47, Tryz.ntmps47
    go_wp2_with (go_at_call 30; (with_reducible refine (valid_any _ L _ _ hcap HU.out).mono ?_); rintro e w1 ⟨rfl, hb1⟩; rw [HB.out])
    go_ret2
    rw [HC.out, HE.out]
    exact ⟨Lib.hid ⟨_, rfl, rfl⟩, hb1⟩
  have HB := Lib.hid hb
  obtain ⟨hl, _, _, hok⟩ := brick_ok hb
  by_cases ho : low ≤ high
  · have HC : Hid (winC low high L = firstP low high L) := Lib.hid (by unfold winC; rw [if_pos ⟨hb, ho⟩])
    have HE : Hid (winE low high L = if (firstP low high L).isSome then 0 else 12) := Lib.hid (by unfold winE; rw [if_pos hb, if_pos ho])
    have g1 : decide (high < low) = false := decide_eq_false (by omega)
    have HOK := Lib.hid hok
    have HFC : Hid (∀ lo hi : Int, (lo = low ∨ lo ≤ -1 ∧ low ≤ -1) → (hi = high ∨ 503316480 ≤ hi ∧ 503316480 ≤ high) → firstP lo hi L = firstP low high L) := Lib.hid fun lo hi h1 h2 => firstP_congr hok hl fun s s0 s1 => by
      unfold winB
      rw [Bool.eq_iff_iff]
      simp only [Bool.and_eq_true, decide_eq_true_eq]
      omega
    clear hb hok
    by_cases q1 : low < -1125899906842624
    · by_cases q2 : 1125899906842624 < high
      · have HF := Lib.hid (HFC.out (-1125899906842624) 1125899906842624 (Or.inr ⟨by omega, by omega⟩) (Or.inr ⟨by omega, by omega⟩))
        go_enter Tryz.func47, Tryz.ntmps47
        go_wp2_with (first
          | (go_at_call 30; (with_reducible refine (valid_any _ L _ _ hcap HU.out).mono ?_); rintro e w1 ⟨rfl, hb1⟩; rw [HB.out])
          | (go_at_call 45; (with_reducible refine (newSearch_any _ L _ _ HOK.out hl (HU.out.grow hb1)).mono ?_); rintro e w2 ⟨hx, hb2⟩; obtain ⟨Bs, rfl, hBs, hSE⟩ := hx.out; have HSE := Lib.hid hSE; have hB2 := hb1.trans (hb2.mono hb1.size); clear hx hSE)
          | (go_at_call 73; (with_reducible refine (first_any _ _ _ L _ _ hl HOK.out HSE.out (HU.out.grow hB2)).mono ?_); rintro e w3 ⟨hx, hb3⟩; obtain ⟨v, rfl, hv⟩ := hx.out; rw [HF.out] at hv ⊢; have HV := Lib.hid (RowV.of_best hv (show w.heap.size ≤ _ by have := hB2.size; omega)); have hB3 := hB2.trans (hb3.mono hB2.size); clear hx hv; cases hs : (firstP low high L).isSome))
        all_goals go_ret2
        all_goals rw [HC.out, HE.out, hs]
        · have hn : firstP low high L = none := by simpa using hs
          rw [hn]
          exact ⟨Lib.hid ⟨_, rfl, rfl⟩, hB3⟩
        · exact ⟨Lib.hid ⟨_, rfl, HV.out⟩, hB3⟩
      · have HF := Lib.hid (HFC.out (-1125899906842624) high (Or.inr ⟨by omega, by omega⟩) (Or.inl rfl))
        go_enter Tryz.func47, Tryz.ntmps47
        go_wp2_with (first
          | (go_at_call 30; (with_reducible refine (valid_any _ L _ _ hcap HU.out).mono ?_); rintro e w1 ⟨rfl, hb1⟩; rw [HB.out])
          | (go_at_call 45; (with_reducible refine (newSearch_any _ L _ _ HOK.out hl (HU.out.grow hb1)).mono ?_); rintro e w2 ⟨hx, hb2⟩; obtain ⟨Bs, rfl, hBs, hSE⟩ := hx.out; have HSE := Lib.hid hSE; have hB2 := hb1.trans (hb2.mono hb1.size); clear hx hSE)
          | (go_at_call 73; (with_reducible refine (first_any _ _ _ L _ _ hl HOK.out HSE.out (HU.out.grow hB2)).mono ?_); rintro e w3 ⟨hx, hb3⟩; obtain ⟨v, rfl, hv⟩ := hx.out; rw [HF.out] at hv ⊢; have HV := Lib.hid (RowV.of_best hv (show w.heap.size ≤ _ by have := hB2.size; omega)); have hB3 := hB2.trans (hb3.mono hB2.size); clear hx hv; cases hs : (firstP low high L).isSome))
        all_goals go_ret2
        all_goals rw [HC.out, HE.out, hs]
        · have hn : firstP low high L = none := by simpa using hs
          rw [hn]
          exact ⟨Lib.hid ⟨_, rfl, rfl⟩, hB3⟩
        · exact ⟨Lib.hid ⟨_, rfl, HV.out⟩, hB3⟩
    · by_cases q2 : 1125899906842624 < high
      · have HF := Lib.hid (HFC.out low 1125899906842624 (Or.inl rfl) (Or.inr ⟨by omega, by omega⟩))
        go_enter Tryz.func47, Tryz.ntmps47
        go_wp2_with (first
          | (go_at_call 30; (with_reducible refine (valid_any _ L _ _ hcap HU.out).mono ?_); rintro e w1 ⟨rfl, hb1⟩; rw [HB.out])
          | (go_at_call 45; (with_reducible refine (newSearch_any _ L _ _ HOK.out hl (HU.out.grow hb1)).mono ?_); rintro e w2 ⟨hx, hb2⟩; obtain ⟨Bs, rfl, hBs, hSE⟩ := hx.out; have HSE := Lib.hid hSE; have hB2 := hb1.trans (hb2.mono hb1.size); clear hx hSE)
          | (go_at_call 73; (with_reducible refine (first_any _ _ _ L _ _ hl HOK.out HSE.out (HU.out.grow hB2)).mono ?_); rintro e w3 ⟨hx, hb3⟩; obtain ⟨v, rfl, hv⟩ := hx.out; rw [HF.out] at hv ⊢; have HV := Lib.hid (RowV.of_best hv (show w.heap.size ≤ _ by have := hB2.size; omega)); have hB3 := hB2.trans (hb3.mono hB2.size); clear hx hv; cases hs : (firstP low high L).isSome))
        all_goals go_ret2
        all_goals rw [HC.out, HE.out, hs]
        · have hn : firstP low high L = none := by simpa using hs
          rw [hn]
          exact ⟨Lib.hid ⟨_, rfl, rfl⟩, hB3⟩
        · exact ⟨Lib.hid ⟨_, rfl, HV.out⟩, hB3⟩
      · have r1 : ¬ low < -1125899906842624 := q1
        have r2 : ¬ 1125899906842624 < high := q2
        go_enter Tryz.func47, Tryz.ntmps47
        go_wp2_with (first
          | (go_at_call 30; (with_reducible refine (valid_any _ L _ _ hcap HU.out).mono ?_); rintro e w1 ⟨rfl, hb1⟩; rw [HB.out])
          | (go_at_call 45; (with_reducible refine (newSearch_any _ L _ _ HOK.out hl (HU.out.grow hb1)).mono ?_); rintro e w2 ⟨hx, hb2⟩; obtain ⟨Bs, rfl, hBs, hSE⟩ := hx.out; have HSE := Lib.hid hSE; have hB2 := hb1.trans (hb2.mono hb1.size); clear hx hSE)
          | (go_at_call 73; (with_reducible refine (first_any _ _ _ L _ _ hl HOK.out HSE.out (HU.out.grow hB2)).mono ?_); rintro e w3 ⟨hx, hb3⟩; obtain ⟨v, rfl, hv⟩ := hx.out; have HV := Lib.hid (RowV.of_best hv (show w.heap.size ≤ _ by have := hB2.size; omega)); have hB3 := hB2.trans (hb3.mono hB2.size); clear hx hv; cases hs : (firstP low high L).isSome))
        all_goals go_ret2
        all_goals rw [HC.out, HE.out, hs]
        · have hn : firstP low high L = none := by simpa using hs
          rw [hn]
          exact ⟨Lib.hid ⟨_, rfl, rfl⟩, hB3⟩
        · exact ⟨Lib.hid ⟨_, rfl, HV.out⟩, hB3⟩
  · have HC : Hid (winC low high L = none) := Lib.hid (by unfold winC; rw [if_neg fun e => ho e.2])
    have HE : Hid (winE low high L = 17) := Lib.hid (by unfold winE; rw [if_pos hb, if_neg ho])
    have g1 : decide (high < low) = true := decide_eq_true (by omega)
    clear hb hok
    go_enter Tryz.func47, Tryz.ntmps47
    go_wp2_with (go_at_call 30; (with_reducible refine (valid_any _ L _ _ hcap HU.out).mono ?_); rintro e w1 ⟨rfl, hb1⟩; rw [HB.out])
    go_ret2
    rw [HC.out, HE.out]
    exact ⟨Lib.hid ⟨_, rfl, rfl⟩, hb1⟩
end Go.Proofs.YtfkmnneieglolaaGreatDoor
