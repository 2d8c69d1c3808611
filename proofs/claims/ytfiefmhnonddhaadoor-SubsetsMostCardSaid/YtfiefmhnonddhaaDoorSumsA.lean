/-
  THE WALKS of subsets.Sums and Nearest.
-/
import Derived.Test.YtfiefmhnonddhaaDoorSortW
namespace Go.Proofs.YtfiefmhnonddhaaDoor
open Go.RowKit Go.Shelf Go.Lib

/-- The sums of all subsets, each once, in order. -/
def sumsP (L : List Int) : List Int := compact (sortI (allS L))
def sumsX (L : List Int) : List Int := if givenE L = 0 then sumsP L else []
theorem sumsP_ok (L : List Int) : (sumsP L).Pairwise (· < ·) ∧ ∀ x, x ∈ sumsP L ↔ ∃ s, s < 2 ^ L.length ∧ sumN L s = x := by
  obtain ⟨h1, h2⟩ := compact_sort (allS L)
  exact ⟨h1, fun x => (h2 x).trans (allS_mem L x)⟩
theorem sumsP_ref (L : List Int) : sumsP L = rsumsTo L (2 ^ L.length) :=
  ltL_ext _ _ (sumsP_ok L).1 (rsums_ok L _).1 fun x => ((sumsP_ok L).2 x).trans ((rsums_ok L _).2 x).symm

set_option maxHeartbeats 4000000 in
theorem Sums_any (a : Option Addr) (L : List Int) (cap : Nat) (w : World) (hl : L.length ≤ 1000000) (hI : Nums w.heap.size w a L) (hT : Tabs w) :
    Calls Tryd.prog 20 #[.slice a L.length cap] w fun e w' => Hid (∃ v c, e = .returned (.tuple #[.slice v (sumsX L).length c, .int .i64 (givenE L)]) ∧ Nums w'.heap.size w' v (sumsX L)) ∧ Below w.heap.size w w' := by
  have HI := Lib.hid hI
  have HT := Lib.hid hT
  clear hI hT
  by_cases hg : givenE L = 0
  · have HG := Lib.hid hg
    have hl2 := (given_small hg).1
    have HL : Hid ((allS L).length = 2 ^ L.length ∧ (sortI (allS L)).length = (allS L).length ∧ (allS L).length ≤ 1000000) := Lib.hid (by
      have h16 : 2 ^ L.length ≤ 65536 := Nat.pow_le_pow_right (by decide) hl2
      exact ⟨allS_len L, sortI_len _, by rw [allS_len]; omega⟩)
    have HX : Hid (sumsX L = sumsP L) := Lib.hid (by unfold sumsX; rw [if_pos hg])
    rw [HX.out, HG.out]
    have HP : Hid (sumsP L = compact (sortI (allS L))) := Lib.hid rfl
    clear hg
    go_enter Tryd.func20, Tryd.ntmps20
    go_wp2_with (first
      | (go_at_call 42; (with_reducible refine (given_any _ L _ _ hl HI.out).mono ?_); rintro e w1 ⟨rfl, hb1⟩; rw [HG.out])
      | (go_at_call 43; (with_reducible refine (sums_any _ L _ _ HG.out (HI.out.grow hb1) (HT.out.grow hb1)).mono ?_); rintro e w2 hx; obtain ⟨g, rfl, hr2, hb2⟩ := hx.out; rw [← HL.out.1] at hr2; have HR2 := Lib.hid hr2; rw [← HL.out.1]; clear hx hr2)
      | (go_at_call 44; (with_reducible refine (sort_own HR2.out HL.out.2.2).mono ?_); rintro e w3 ⟨rfl, hr3, hg3⟩; rw [← HL.out.2.1] at hr3; have HR3 := Lib.hid hr3; rw [← HL.out.2.1]; have HG3 := Lib.hid hg3; clear hr3 hg3)
      | (go_at_call 33; (with_reducible refine (compact_own HR3.out (by rw [HL.out.2.1]; exact HL.out.2.2)).mono ?_); rintro e w4 ⟨rfl, hr4, hg4⟩; rw [← HP.out] at hr4; have HR4 := Lib.hid hr4; rw [← HP.out]; have HG4 := Lib.hid hg4; clear hr4 hg4))
    go_ret2
    have hb12 := hb1.trans (hb2.mono hb1.size)
    have hb13 := grown_own HR2.out HG3.out hb12 hb12.size hb1.size
    have hb14 := grown_own HR3.out HG4.out hb13 hb13.size hb1.size
    refine ⟨Lib.hid ⟨_, _, rfl, ?_⟩, hb14⟩
    obtain ⟨a', c', e', _, _, _, hn⟩ := num_of_row HR4.out
    simp only [Value.slice.injEq] at e'
    rw [e'.1]
    exact hn
  · have HX : Hid (sumsX L = []) := Lib.hid (by unfold sumsX; rw [if_neg hg])
    rw [HX.out]
    have hg1 : (givenE L != 0) = true := bne_iff_ne.2 hg
    have hg2 : (givenE L == 0) = false := beq_eq_false_iff_ne.2 hg
    clear hg
    go_enter Tryd.func20, Tryd.ntmps20
    go_wp2_with (go_at_call 42; (with_reducible refine (given_any _ L _ _ hl HI.out).mono ?_); rintro e w1 ⟨rfl, hb1⟩)
    go_ret2
    exact ⟨Lib.hid ⟨none, 0, rfl, Nums.nil⟩, hb1⟩
end Go.Proofs.YtfiefmhnonddhaaDoor
