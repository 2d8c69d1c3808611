/-
  THE STATEMENT SubsetsMostCardSaid: at whatever arguments the law SubsetsMost answers true, and each argument reads as it did; the two tables of math/bits (listed) are tied to the program text by the given tie. Conditions: none beyond the given row and card.
-/
import Derived.Test.YtfiefmhnonddhaaDoorLawMost
import Derived.Test.YtfiefmhnonddhaaDoorLaid
import Derived.Test.YtfiefmhnonddhaaDoorArgs
import Derived.Test.YtfiefmhnonddhaaDoorMostW
import Derived.Test.YtfiefmhnonddhaaDoorTie
import Derived.Test.YtfiefmhnonddhaaDoorCards
import Derived.SevenTiedAt
namespace Go.Proofs.YtfiefmhnonddhaaDoor
open Go.ChangeShapes Go.WideShapes Go.ChangeAt Go.WideMaps Go.WideElems Go.RowKit
open Go.ChangeMaps (open_string shut_string)

set_option maxRecDepth 100000 in
theorem subsetsMost_lifted (os : Os) (started : os.Started) (H : Type) (enc : TypeId × Value → H) :
    ReturnsInHanded {} Tryd.checked os 7 .any (fun w args => (Rows.subsetsMostSpec.pre enc Tryd.prog Tryd.f7 [] false w args ∧ laidMetH Tryd.prog laidList w) ∧ sizedMet enc Tryd.prog Tryd.f7 (OpenSpec.ofChange Rows.subsetsMostSpec) false w args)
      (Rows.subsetsMostSpec.post enc Tryd.prog Tryd.f7 false true false false) := by
  refine returnsInHanded_of_change_and (C := Tryd.checked) (X := fun w _ => laidMetH Tryd.prog laidList w) (fun _ _ _ hh h => h.of_heap hh) own started (by kernel_rfl) Tryd.func7
    (ChangeSpec.witness_shaped (enc := enc) (C := Tryd.checked) (os := os) (X := fun w _ => laidMetH Tryd.prog laidList w) false (World.doorLaid Tryd.prog 400 os) #[.slice none 0 0, .slice none 0 0] 8 rfl (World.shaped_of_RefB (by kernel_rfl) (by kernel_rfl)) (by kernel_rfl) (by kernel_rfl) (by kernel_rfl) (door_met os _)) ?_
  intro W base args ds gs before hval0 hW _ _ hL _
  have hval : ∀ (j : Nat) t v, Tryd.f7.params[j]? = some t → args[j]? = some v → Value.okWide Tryd.prog W .any base t v := hval0
  have hW' := hW
  obtain ⟨p, q, hA0, hV, rfl, hfz, hnd⟩ := hW
  have hA : DataW.TrodAll enc Tryd.prog W 0 (fun _ => true) true Tryd.f7.params.toList args.toList ds p := hA0
  rw [Tryd.params7] at hA hval
  obtain ⟨v0, vs0, d0, ds0, p0, q0, hargs, rfl, rfl, h0, r0⟩ := trodAll_cons hA
  obtain ⟨v1, vs1, d1, ds1, p1, q1, rfl, rfl, rfl, h1, r1⟩ := trodAll_cons r0
  obtain ⟨rfl, rfl, rfl⟩ := trodAll_nil r1
  obtain rfl : args = #[v0, v1] := by cases args; simp_all
  obtain ⟨rfl, rfl⟩ := trodVars_none hV
  obtain ⟨a0, c0, L0, rfl, hc0, hl0, hn0, hw0, hI0⟩ := open_numsA (hval 0 22 v0 rfl rfl) h0
  obtain ⟨a1, c1, L1, rfl, hc1, hl1, hn1, hw1, hI1⟩ := open_bytesA (hval 1 52 v1 rfl rfl) h1
  have hT := tabs_of_laid hL
  clear hA0 hval0
  simp only [List.append_nil] at hW'
  refine (lawmost_law a0 a1 L0 L1 c0 c1 W hI0 hI1 hw1 hT).mono fun e W' ⟨he, hb⟩ => ?_
  subst he
  exact ⟨_, rfl, law_post laidOut (by kernel_rfl) hW' rfl rfl (by kernel_rfl) Tryd.underlying4 hb⟩

theorem subsetsMost_holds : Rows.SubsetsMostSaid :=
  OpenClaim.holds_of_wide 7 Tryd.f7 rfl rfl rfl rfl rfl rfl rfl ⟨rfl, rfl, rfl, rfl, rfl⟩ rfl rfl rfl rfl rfl (by kernel_rfl) Tryd.func7 (by kernel_rfl)
    (of_decide_eq_true (by kernel_rfl)) (by unfold Func.isWrapper; first | (rw [if_pos (by decide +kernel)]; kernel_rfl) | (rw [if_neg (by decide +kernel)]; exact ⟨rfl, rfl⟩))
    (fun os started H enc _ => subsetsMost_lifted os started H enc)

/-- THE TIED CARD of SubsetsMost. -/
theorem subsetsMost_card : Rows.SubsetsMostCardSaid :=
  Claim7.holds_tied_plain_at .later [] [.data, .data] true (true, "804d61353d58b6ebdc2db42269cf3c548498c43c5ca69bdccbf4c26a89e06e71") false
    subsetsMost_holds (fun _ h => by cases h) (by kernel_rfl) (fun _ h => by cases h) subsetsMost_row_tie rfl ⟨rfl, rfl⟩ (by kernel_rfl) rfl
    (fun f fn hf hfn => by
      obtain rfl : f = 7 := Option.some.inj ((show Tryd.prog.funcNamed "loftblock/loftblocklaw07.SubsetsMost" = some 7 by kernel_rfl).symm.trans hf) |>.symm
      obtain rfl : fn = Tryd.f7 := (Option.some.inj (Tryd.func7.symm.trans hfn)).symm
      exact ⟨by kernel_rfl, fun j t ht => by
        rw [Tryd.params7] at ht
        have hm : t ∈ [22, 52] := by simpa using Array.mem_of_getElem? ht
        have hall : ([22, 52].all fun u => !Tryd.prog.wantsStandIn u) = true := by kernel_rfl
        exact (show Tryd.prog.wantsStandIn t = false by simpa using List.all_eq_true.1 hall t hm)⟩)
    (by kernel_rfl)
end Go.Proofs.YtfiefmhnonddhaaDoor
