/-
  THE WALK of the law BricksSums.
-/
import Derived.Test.YtgijekinlkpbkaaAwake
namespace Go.Proofs.Ytgijekinlkpbkaa
open Go.RowKit Go.Shelf
theorem first_some {low high : Int} {L : List BrickR} : (firstP low high L).isSome = true ↔ ∃ x, IsSum L x ∧ low ≤ x ∧ x ≤ high := by
  have h := first_best low high L
  cases hq : firstP low high L with
  | none =>
    rw [hq] at h
    simp only [Option.isSome_none, Bool.false_eq_true, false_iff]
    rintro ⟨x, ⟨c, hc, rfl⟩, h1, h2⟩
    have := h c hc
    unfold winB at this
    rw [decide_eq_true h1, decide_eq_true h2] at this
    cases this
  | some p =>
    obtain ⟨b, m⟩ := p
    rw [hq] at h
    simp only [Option.isSome_some, true_iff]
    have hw := h.2.1
    unfold winB at hw
    simp only [Bool.and_eq_true, decide_eq_true_eq] at hw
    exact ⟨_, ⟨b, h.1, rfl⟩, hw.1, hw.2⟩
theorem poss_mem {x : Int} {L : List BrickR} (hb : brickB L = true) : possB x L = num_any (sumsP L) (fun y => decide (y = x)) := by
  rw [num_any_mem, Bool.eq_iff_iff, decide_eq_true_eq, sumsP_mem]
  unfold possB winE
  rw [if_pos hb, if_pos (Int.le_refl _)]
  have h := first_some (low := x) (high := x) (L := L)
  constructor
  · intro h1
    have : (firstP x x L).isSome = true := by
      cases hq : (firstP x x L).isSome
      · rw [hq] at h1; simp at h1
      · rfl
    obtain ⟨y, hy, y1, y2⟩ := h.1 this
    have : y = x := by omega
    rw [← this]; exact hy
  · intro h1
    rw [h.2 ⟨x, h1, Int.le_refl _, Int.le_refl _⟩]
    rfl
set_option maxRecDepth 100000 in
set_option maxHeartbeats 16000000 in
theorem sums_law (x : Int) (a : Option Addr) (L : List BrickR) (cap : Nat) (w : World) (hcap : L.length ≤ cap) (hL : Bricks w.heap.size w a L) :
    Calls Try.prog 7 #[.slice a L.length cap, .int .i64 x] w fun e w' => e = .returned (.bool true) ∧ Below w.heap.size w w' := by
  have HL := Lib.hid hL; clear hL
  cases hf : fewB L
  · have HF := Lib.hid hf
    clear hf
    go_enter Try.func7, Try.ntmps7
    go_wp2_with (first
      | (go_at_call 9; (with_reducible refine (awake_any _).mono ?_); rintro e w1 ⟨rfl, hB1⟩)
      | (go_at_call 10; (with_reducible refine (few_any _ L _ _ (HL.out.grow hB1)).mono ?_); rintro e w2 ⟨rfl, hb2⟩; rw [HF.out]; have hB2 := hB1.trans (hb2.mono hB1.size)))
    go_ret
    exact ⟨rfl, hB2⟩
  · have HF := Lib.hid hf
    obtain ⟨hl, h7⟩ := few_ok hf
    have H7 := Lib.hid h7
    cases hb : brickB L
    · have HB := Lib.hid hb
      have HC : Hid (sumsC L = [] ∧ sumsE L = 1 ∧ possB x L = false ∧ possE L = 1) := Lib.hid (by unfold sumsC sumsE possB possE winE; rw [hb]; exact ⟨rfl, rfl, rfl, rfl⟩)
      clear hf hb h7
      go_enter Try.func7, Try.ntmps7
      go_wp2_with (first
        | (go_at_call 9; (with_reducible refine (awake_any _).mono ?_); rintro e w1 ⟨rfl, hB1⟩)
        | (go_at_call 10; (with_reducible refine (few_any _ L _ _ (HL.out.grow hB1)).mono ?_); rintro e w2 ⟨rfl, hb2⟩; rw [HF.out]; have hB2 := hB1.trans (hb2.mono hB1.size))
        | (go_at_call 18; (with_reducible refine (sums_any _ L _ _ hcap H7.out (HL.out.grow hB2)).mono ?_); rintro e w3 ⟨hx, hb3⟩; obtain ⟨v, rfl, hv⟩ := hx.out; rw [HC.out.1] at hv; rw [HC.out.2.1]; obtain ⟨sa, sc, rfl, _, _, _, _⟩ := num_of_row hv; have hB3 := hB2.trans (hb3.mono hB2.size); clear hx hv)
        | (go_at_call 27; (with_reducible refine (possible_any x _ L _ _ hcap (HL.out.grow hB3)).mono ?_); rintro e w4 ⟨rfl, hb4⟩; rw [HC.out.2.2.1, HC.out.2.2.2]; have hB4 := hB3.trans (hb4.mono hB3.size))
        | (go_at_call 14; (with_reducible refine (right_any _ L _ _ (HL.out.grow hB4)).mono ?_); rintro e w5 ⟨rfl, hb5⟩; rw [HB.out]; have hB5 := hB4.trans (hb5.mono hB4.size)))
      go_ret
      exact ⟨rfl, hB5⟩
    · have HB := Lib.hid hb
      obtain ⟨hl8, _, _, hok⟩ := brick_ok hb
      have HOK := Lib.hid hok
      have H77 := Lib.hid (h7 hb)
      have hk7 : (sumsP L).length ≤ 700 := Nat.le_trans (sumsP_len L) (h7 hb)
      have HC : Hid (sumsC L = sumsP L ∧ sumsE L = 0 ∧ possE L = 0) := Lib.hid (by unfold sumsC sumsE possE; rw [hb]; exact ⟨rfl, rfl, rfl⟩)
      have HP : Hid (num_any (sumsP L) (fun y => decide (y = x)) = possB x L) := Lib.hid (poss_mem hb).symm
      have z1 : (possB x L == possB x L) = true := beq_self_eq_true _
      clear hf hb h7 hok
      obtain ⟨pb, hpb⟩ : ∃ pb, possB x L = pb := ⟨_, rfl⟩
      have HPB := Lib.hid hpb
      rw [hpb] at HP z1
      clear hpb
      go_enter Try.func7, Try.ntmps7
      go_wp2_with (first
        | (go_at_call 9; (with_reducible refine (awake_any _).mono ?_); rintro e w1 ⟨rfl, hB1⟩)
        | (go_at_call 10; (with_reducible refine (few_any _ L _ _ (HL.out.grow hB1)).mono ?_); rintro e w2 ⟨rfl, hb2⟩; rw [HF.out]; have hB2 := hB1.trans (hb2.mono hB1.size))
        | (go_at_call 18; (with_reducible refine (sums_any _ L _ _ hcap H7.out (HL.out.grow hB2)).mono ?_); rintro e w3 ⟨hx, hb3⟩; obtain ⟨v, rfl, hv⟩ := hx.out; rw [HC.out.1] at hv; rw [HC.out.2.1]; obtain ⟨sa, sc, rfl, _, _, _, hS⟩ := num_of_row hv; have HS := Lib.hid hS; have hB3 := hB2.trans (hb3.mono hB2.size); clear hx hv hS)
        | (go_at_call 27; (with_reducible refine (possible_any x _ L _ _ hcap (HL.out.grow hB3)).mono ?_); rintro e w4 ⟨rfl, hb4⟩; rw [HPB.out, HC.out.2.2]; have hB4 := hB3.trans (hb4.mono hB3.size); have HS4 := Lib.hid (HS.out.grow hb4))
        | (go_at_call 14; (with_reducible refine (right_any _ L _ _ (HL.out.grow hB4)).mono ?_); rintro e w5 ⟨rfl, hb5⟩; rw [HB.out]; have hB5 := hB4.trans (hb5.mono hB4.size); have HS5 := Lib.hid (HS4.out.grow hb5))
        | (go_at_call 28; (with_reducible refine (refsums_any _ L _ _ HOK.out hl8 H77.out (HL.out.grow hB5)).mono ?_); rintro e w6 ⟨hx, hb6⟩; obtain ⟨v2, rfl, ta, tc, rfl, _, _, _, hT⟩ := hx.out; have HT := Lib.hid hT; have hB6 := hB5.trans (hb6.mono hB5.size); have HS6 := Lib.hid (HS5.out.grow hb6); clear hx hT)
        | (go_at_call 16; (with_reducible refine (eq_ex _ _ (sumsP L) _ _ _ _ rfl (by omega) HS6.out HT.out).mono ?_); rintro e w7 ⟨rfl, hb7⟩; have hB7 := hB6.trans (hb7.mono hB6.size); have HT7 := Lib.hid (HT.out.grow hb7))
        | (go_at_call 22; (with_reducible refine (num_contains _ (sumsP L) _ x _ _ (by omega) HT7.out).mono ?_); rintro e w8 ⟨rfl, rfl⟩; rw [HP.out]))
      go_ret
      exact ⟨rfl, hB7⟩
end Go.Proofs.Ytgijekinlkpbkaa
