/-
  ARGUMENTS THAT CAME IN: a move.
-/
import Derived.Test.YtlgpolfbilkmbaaOpen
import Derived.Test.YtlgpolfbilkmbaaTop
import Derived.Lib.SmallJoins
import Derived.OpenShut
namespace Go.Proofs.Ytlgpolfbilkmbaa
open Go.ChangeShapes Go.WideShapes Go.ChangeAt Go.WideMaps Go.WideElems Go.RowKit Go.Deep Go.Joins

section
variable {H : Type} {enc : TypeId × Value → H} {W : World} {base : Nat}
set_option maxRecDepth 100000 in
theorem open_move {v : Value} {d : DataW H} {p : List MemPlace} (hv : Value.okWide Try.prog W .any base 23 v) (h : DataW.Trod enc Try.prog W 0 (fun _ => true) true 23 v d p) :
    ∃ m : Mv, v = .agg #[.string m.name, .int .i64 m.to, .int .i64 m.spd, .int .i64 m.rise, .int .i64 m.fall] := by
  obtain ⟨cs, rfl, hsz⟩ := okWide_struct Try.underlying23 hv
  have hsz : cs.size = 5 := hsz.trans (by kernel_rfl)
  obtain ⟨fuel, hf⟩ := h
  obtain ⟨k, hk⟩ := elem_fields (cs' := cs.toList) Try.underlying23 (by kernel_rfl) (by rw [Array.length_toList, hsz]; rfl) hf
  obtain ⟨v0, z0, c0, t0⟩ := hk 0 _ rfl
  obtain ⟨v1, z1, c1, t1⟩ := hk 1 _ rfl
  obtain ⟨v2, z2, c2, t2⟩ := hk 2 _ rfl
  obtain ⟨v3, z3, c3, t3⟩ := hk 3 _ rfl
  obtain ⟨v4, z4, c4, t4⟩ := hk 4 _ rfl
  obtain ⟨n0, e0, _, w0⟩ := DataW.trod_string Try.underlying9 t0
  obtain ⟨n1, e1, _, w1⟩ := DataW.trod_int Try.underlying3 t1
  obtain ⟨n2, e2, _, w2⟩ := DataW.trod_int Try.underlying3 t2
  obtain ⟨n3, e3, _, w3⟩ := DataW.trod_int Try.underlying3 t3
  obtain ⟨n4, e4, _, w4⟩ := DataW.trod_int Try.underlying3 t4
  simp only [List.cons.injEq, and_true] at e0 e1 e2 e3 e4
  subst e0 e1 e2 e3 e4
  obtain ⟨l⟩ := cs
  match l, hsz with
  | [x0, x1, x2, x3, x4], _ =>
    simp only [List.getElem?_cons_zero, List.getElem?_cons_succ, Option.some.injEq] at c0 c1 c2 c3 c4
    subst c0 c1 c2 c3 c4
    exact ⟨⟨n0, n1, n2, n3, n4⟩, rfl⟩
end
end Go.Proofs.Ytlgpolfbilkmbaa
