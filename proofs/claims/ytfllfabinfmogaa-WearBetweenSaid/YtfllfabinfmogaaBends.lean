/-
  THE WALK of wear.Bends.
-/
import Derived.Test.YtfllfabinfmogaaAlong
namespace Go.Proofs.Ytfllfabinfmogaa
open Go.RowKit Go.Shelf
theorem bends_any (nm : ByteArray) (a : Option Addr) (L : List HoldR) (cap : Nat) (hd : Bool) (w : World) (hl : L.length ≤ 1000000) (h : Holds w.heap.size w a L) :
    Calls Try.prog 9 #[.agg #[.string nm, .slice a L.length cap, .bool hd]] w fun e w' => e = .returned (.tuple #[.int .i64 (if ropeB L then (L.length : Int) - 2 else 0), .int .i64 (if ropeB L then 0 else 1)]) ∧ Below w.heap.size w w' := by
  have HS := Lib.hid h
  have s1 : IntKind.i64.wrap ((L.length : Int) - 2) = (L.length : Int) - 2 := IntWalk.i64_in _ (by omega)
  clear h
  have hW0 := below_new w (.cells #[.string nm, .slice a L.length cap, .bool hd] 24)
  obtain ⟨b, hb⟩ : ∃ b, ropeB L = b := ⟨_, rfl⟩
  have HB := Lib.hid hb
  rw [hb]
  clear hb
  have HC : Hid (Calls Try.prog 28 #[.agg #[.string nm, .slice a L.length cap, .bool hd], .bool true] (w.alloc (.cells #[.string nm, .slice a L.length cap, .bool hd] 24)) fun e w' => Hid (∃ v, e = .returned (.tuple #[v, .int .i64 (if b then 0 else 1)])) ∧ Below w.heap.size w w' ∧ w'.cell? ⟨w.heap.size, 1, none⟩ = some (.slice a L.length cap)) := Lib.hid (by
    refine (along_any nm a L cap hd _ hl ((HS.out.below hW0).mono hW0.size)).mono ?_
    rintro e w1 ⟨hv, hb1⟩
    rw [HB.out] at hv
    exact ⟨hv, hW0.trans (hb1.mono hW0.size), (hb1.cell (p := ⟨w.heap.size, 1, none⟩) (by simp)).trans (by simp)⟩)
  clear hW0 HB HS
  cases b
  · simp only [Bool.false_eq_true, if_false] at HC ⊢
    go_enter Try.func9, Try.ntmps9
    go_wp2_with (go_at_call 28; (with_reducible refine (HC.out).mono ?_); rintro e w1 ⟨hv, hb1, c1⟩; obtain ⟨v, rfl⟩ := hv.out)
    go_ret2
    exact ⟨rfl, hb1⟩
  · simp only [if_true] at HC ⊢
    go_enter Try.func9, Try.ntmps9
    go_wp2_with (go_at_call 28; (with_reducible refine (HC.out).mono ?_); rintro e w1 ⟨hv, hb1, c1⟩; obtain ⟨v, rfl⟩ := hv.out)
    go_ret2
    exact ⟨rfl, hb1⟩
end Go.Proofs.Ytfllfabinfmogaa
