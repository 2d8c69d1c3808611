/-
  THE WALKS of subsets.find, Find and Zero.
-/
import Derived.Test.YtfiefmhnonddhaaDoorFirst
namespace Go.Proofs.YtfiefmhnonddhaaDoor
open Go.RowKit Go.Shelf

/-- What Find answers. -/
def foundB (L : List Int) (sum least : Int) : Bool := decide (givenE L = 0) && (fstTo L sum least (2 ^ L.length)).2
def findX (L : List Int) (sum least : Int) : List Int := if foundB L sum least = true then idxN L.length 0 (fstTo L sum least (2 ^ L.length)).1 else []
def findE (L : List Int) (sum least : Int) : Int := if givenE L = 0 then (if (fstTo L sum least (2 ^ L.length)).2 = true then 0 else 12) else givenE L
theorem all_nums {w : World} {base g : Nat} {L : List Int} (h : w.ownsRow base 3 1 (.slice (some ⟨g, 0, none⟩) (2 ^ L.length) (2 ^ L.length)) (2 ^ L.length) (nflat (allS L))) : Nums w.heap.size w (some ⟨g, 0, none⟩) (allS L) := by
  rw [← allS_len] at h
  obtain ⟨a, c, e, _, _, _, hn⟩ := num_of_row h
  simp only [Value.slice.injEq] at e
  rw [e.1]
  exact hn

set_option maxHeartbeats 4000000 in
theorem find_any (a : Option Addr) (L : List Int) (cap : Nat) (sum least : Int) (w : World) (hl : L.length ≤ 1000000) (hI : Nums w.heap.size w a L) (hT : Tabs w) :
    Calls Tryd.prog 38 #[.slice a L.length cap, .int .i64 sum, .int .i64 least] w fun e w' => Hid (∃ v c, e = .returned (.tuple #[.slice v (findX L sum least).length c, .int .i64 (findE L sum least)]) ∧ Nums w'.heap.size w' v (findX L sum least)) ∧ Below w.heap.size w w' := by
  have HI := Lib.hid hI
  have HT := Lib.hid hT
  clear hI hT
  by_cases hg : givenE L = 0
  · have HG := Lib.hid hg
    have hl2 := (given_small hg).1
    cases hb : (fstTo L sum least (2 ^ L.length)).2
    · have HX : Hid (findX L sum least = []) := Lib.hid (by unfold findX foundB; rw [hb, Bool.and_false]; rfl)
      have HE : Hid (findE L sum least = 12) := Lib.hid (by unfold findE; rw [if_pos hg, hb]; rfl)
      rw [HX.out, HE.out]
      have HB := Lib.hid hb
      clear hg hb
      go_enter Tryd.func38, Tryd.ntmps38
      go_wp2_with (first
        | (go_at_call 42; (with_reducible refine (given_any _ L _ _ hl HI.out).mono ?_); rintro e w1 ⟨rfl, hb1⟩; rw [HG.out])
        | (go_at_call 43; (with_reducible refine (sums_any _ L _ _ HG.out (HI.out.grow hb1) (HT.out.grow hb1)).mono ?_); rintro e w2 hx; obtain ⟨g, rfl, hr2, hb2⟩ := hx.out; have HN := Lib.hid (all_nums hr2); clear hx hr2)
        | (go_at_call 48; (with_reducible refine (first_any _ L _ sum least _ hl2 HN.out).mono ?_); rintro e w3 ⟨rfl, hb3⟩; rw [HB.out]))
      go_ret2
      exact ⟨Lib.hid ⟨none, 0, rfl, Nums.nil⟩, (hb1.trans (hb2.mono hb1.size)).trans (hb3.mono (by have := hb1.size; have := hb2.size; omega))⟩
    · obtain ⟨s, hs⟩ : ∃ s : Nat, (fstTo L sum least (2 ^ L.length)).1 = s := ⟨_, rfl⟩
      have hsl : s < 2 ^ L.length := by rw [← hs]; exact (fst_lt L sum least _ hb).1
      have HX : Hid (findX L sum least = idxN L.length 0 s) := Lib.hid (by unfold findX foundB; rw [hb, hg, hs]; rfl)
      have HE : Hid (findE L sum least = 0) := Lib.hid (by unfold findE; rw [if_pos hg, hb]; rfl)
      rw [HX.out, HE.out]
      have HB := Lib.hid hb
      have HS := Lib.hid hs
      clear hg hb hs
      go_enter Tryd.func38, Tryd.ntmps38
      go_wp2_with (first
        | (go_at_call 42; (with_reducible refine (given_any _ L _ _ hl HI.out).mono ?_); rintro e w1 ⟨rfl, hb1⟩; rw [HG.out])
        | (go_at_call 43; (with_reducible refine (sums_any _ L _ _ HG.out (HI.out.grow hb1) (HT.out.grow hb1)).mono ?_); rintro e w2 hx; obtain ⟨g, rfl, hr2, hb2⟩ := hx.out; have HN := Lib.hid (all_nums hr2); clear hx hr2)
        | (go_at_call 48; (with_reducible refine (first_any _ L _ sum least _ hl2 HN.out).mono ?_); rintro e w3 ⟨rfl, hb3⟩; rw [HB.out, HS.out]; have hb13 := (hb1.trans (hb2.mono hb1.size)).trans (hb3.mono (by have := hb1.size; have := hb2.size; omega)))
        | (go_at_call 45; (with_reducible refine (list_any L.length s hl2 hsl _ (HT.out.grow hb13)).mono ?_); rintro e w4 hy; obtain ⟨v, rfl, hr4, hb4⟩ := hy.out; have HR := Lib.hid hr4; clear hy hr4))
      go_ret2
      refine ⟨Lib.hid ?_, hb13.trans (hb4.mono hb13.size)⟩
      obtain ⟨a', c', rfl, _, _, _, hn⟩ := num_of_row HR.out
      exact ⟨a', c', rfl, hn⟩
  · have HX : Hid (findX L sum least = []) := Lib.hid (by unfold findX foundB; rw [decide_eq_false hg]; rfl)
    have HE : Hid (findE L sum least = givenE L) := Lib.hid (by unfold findE; rw [if_neg hg])
    rw [HX.out, HE.out]
    have hg1 : (givenE L != 0) = true := bne_iff_ne.2 hg
    have hg2 : (givenE L == 0) = false := beq_eq_false_iff_ne.2 hg
    clear hg
    go_enter Tryd.func38, Tryd.ntmps38
    go_wp2_with (go_at_call 42; (with_reducible refine (given_any _ L _ _ hl HI.out).mono ?_); rintro e w1 ⟨rfl, hb1⟩)
    go_ret2
    exact ⟨Lib.hid ⟨none, 0, rfl, Nums.nil⟩, hb1⟩

set_option maxHeartbeats 1000000 in
theorem Find_any (a : Option Addr) (L : List Int) (cap : Nat) (sum : Int) (w : World) (hl : L.length ≤ 1000000) (hI : Nums w.heap.size w a L) (hT : Tabs w) :
    Calls Tryd.prog 11 #[.slice a L.length cap, .int .i64 sum] w fun e w' => Hid (∃ v c, e = .returned (.tuple #[.slice v (findX L sum 0).length c, .int .i64 (findE L sum 0)]) ∧ Nums w'.heap.size w' v (findX L sum 0)) ∧ Below w.heap.size w w' := by
  have HC := Lib.hid (find_any a L cap sum 0 w hl hI hT)
  clear hI hT
  go_enter Tryd.func11, Tryd.ntmps11
  go_wp2_with (go_at_call 38; (with_reducible refine HC.out.mono ?_); rintro e w1 ⟨hx, hb1⟩; obtain ⟨v, c, rfl, hn⟩ := hx.out; have HN := Lib.hid hn; clear hx hn)
  go_ret2
  exact ⟨Lib.hid ⟨v, c, rfl, HN.out⟩, hb1⟩
set_option maxHeartbeats 1000000 in
theorem Zero_any (a : Option Addr) (L : List Int) (cap : Nat) (w : World) (hl : L.length ≤ 1000000) (hI : Nums w.heap.size w a L) (hT : Tabs w) :
    Calls Tryd.prog 12 #[.slice a L.length cap] w fun e w' => Hid (∃ v c, e = .returned (.tuple #[.slice v (findX L 0 1).length c, .int .i64 (findE L 0 1)]) ∧ Nums w'.heap.size w' v (findX L 0 1)) ∧ Below w.heap.size w w' := by
  have HC := Lib.hid (find_any a L cap 0 1 w hl hI hT)
  clear hI hT
  go_enter Tryd.func12, Tryd.ntmps12
  go_wp2_with (go_at_call 38; (with_reducible refine HC.out.mono ?_); rintro e w1 ⟨hx, hb1⟩; obtain ⟨v, c, rfl, hn⟩ := hx.out; have HN := Lib.hid hn; clear hx hn)
  go_ret2
  exact ⟨Lib.hid ⟨v, c, rfl, HN.out⟩, hb1⟩
end Go.Proofs.YtfiefmhnonddhaaDoor
