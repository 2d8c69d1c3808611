/-
  THE WALKS of wear.Wear and wear.Left.
-/
import Derived.Test.YtfllfabinfmogaaBends
import Derived.Test.YtfllfabinfmogaaPlaces
namespace Go.Proofs.Ytfllfabinfmogaa
open Go.RowKit Go.Shelf
def wearP (L : List HoldR) (M : List Int) : Int × Int := if ropeB L then (if placesE M = 0 then (wrap64 (((L.length : Int) - 2) * travelP M), 0) else (0, placesE M)) else (0, 1)
set_option maxHeartbeats 4000000 in
theorem wear_any (nm : ByteArray) (a : Option Addr) (L : List HoldR) (cap : Nat) (hd : Bool) (a2 : Option Addr) (M : List Int) (cap2 : Nat) (w : World) (hl : L.length ≤ 1000000) (hm : M.length ≤ 1000000) (h : Holds w.heap.size w a L) (h2 : Nums w.heap.size w a2 M) :
    Calls Try.prog 12 #[.agg #[.string nm, .slice a L.length cap, .bool hd], .slice a2 M.length cap2] w fun e w' => e = .returned (.tuple #[.int .i64 (wearP L M).1, .int .i64 (wearP L M).2]) ∧ Below w.heap.size w w' := by
  have hW0 := below_new w (.cells #[.string nm, .slice a L.length cap, .bool hd] 24)
  have HS := Lib.hid h
  have HN := Lib.hid h2
  clear h h2
  obtain ⟨P, hP⟩ : ∃ P, wearP L M = P := ⟨_, rfl⟩
  have HP := Lib.hid hP
  rw [hP]
  clear hP
  cases hb : ropeB L
  · have HB := Lib.hid hb
    obtain rfl : P = (0, 1) := by rw [← HP.out]; unfold wearP; rw [hb]; rfl
    clear hb HP
    go_enter Try.func12, Try.ntmps12
    go_wp2_with (go_at_call 9; (with_reducible refine (bends_any nm a L cap hd _ hl (HS.out.grow hW0)).mono ?_); rintro e w1 ⟨rfl, hb1⟩; rw [HB.out, if_neg Bool.false_ne_true, if_neg Bool.false_ne_true])
    go_ret2
    exact ⟨rfl, hW0.trans (hb1.mono hW0.size)⟩
  · have HB := Lib.hid hb
    by_cases hp : placesE M = 0
    · have HPl := Lib.hid hp
      obtain rfl : P = (wrap64 (((L.length : Int) - 2) * travelP M), 0) := by rw [← HP.out]; unfold wearP; rw [hb, if_pos rfl, if_pos hp]
      clear hb HP hp
      go_enter Try.func12, Try.ntmps12
      go_wp2_with (first
        | (go_at_call 9; (with_reducible refine (bends_any nm a L cap hd _ hl (HS.out.grow hW0)).mono ?_); rintro e w1 ⟨rfl, hb1⟩; rw [HB.out, if_pos rfl, if_pos rfl]; have hx := hW0.trans (hb1.mono hW0.size))
        | (go_at_call 10; (with_reducible refine (travel_any a2 M cap2 _ hm (HN.out.grow hx)).mono ?_); rintro e w2 ⟨rfl, hb2⟩; rw [HPl.out, if_pos rfl]))
      go_ret2
      exact ⟨rfl, hx.trans (hb2.mono hx.size)⟩
    · have HPl := Lib.hid hp
      obtain ⟨E, hE⟩ : ∃ E, placesE M = E := ⟨_, rfl⟩
      obtain rfl : P = (0, E) := by rw [← HP.out]; unfold wearP; rw [hb, if_pos rfl, if_neg hp, hE]
      have hne : (E != 0) = true := by rw [← hE]; simpa using hp
      have HE := Lib.hid hE
      clear hb HP hp hE
      go_enter Try.func12, Try.ntmps12
      go_wp2_with (first
        | (go_at_call 9; (with_reducible refine (bends_any nm a L cap hd _ hl (HS.out.grow hW0)).mono ?_); rintro e w1 ⟨rfl, hb1⟩; rw [HB.out, if_pos rfl, if_pos rfl]; have hx := hW0.trans (hb1.mono hW0.size))
        | (go_at_call 10; (with_reducible refine (travel_any a2 M cap2 _ hm (HN.out.grow hx)).mono ?_); rintro e w2 ⟨rfl, hb2⟩; rw [if_neg HPl.out, HE.out]))
      go_ret2
      exact ⟨rfl, hx.trans (hb2.mono hx.size)⟩
end Go.Proofs.Ytfllfabinfmogaa
