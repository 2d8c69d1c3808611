/-
  ARGUMENTS THAT CAME IN: a slice of items; a set.
-/
import Derived.Test.YtbniclapaigkkaaGreatArgs
import Derived.Test.YtbniclapaigkkaaGreatSetM
namespace Go.Proofs.YtbniclapaigkkaaGreat
open Go.ChangeShapes Go.WideShapes Go.ChangeAt Go.WideMaps Go.WideElems Go.RowKit Go.Deep Go.Joins
theorem item_of_flat {n₀ : Nat} {w : World} {a : Option Addr} {L : List ItemR} (h : 0 < L.length → ∃ b off, a = some ⟨b, off, none⟩ ∧ b < n₀ ∧ ∀ j u, (tflat L)[j]? = some u → w.cell? ⟨b, off + j, none⟩ = some u) : Items n₀ w a L := fun hl => by
  obtain ⟨b, off, e, hb, hc⟩ := h hl
  refine ⟨b, off, e, hb, fun i hi => ?_⟩
  obtain ⟨f0, f1, f2, f3, f4, f5, f6⟩ := tflat_at L i hi
  have c0 := hc _ _ f0
  have c1 := hc _ _ f1
  have c2 := hc _ _ f2
  have c3 := hc _ _ f3
  have c4 := hc _ _ f4
  have c5 := hc _ _ f5
  have c6 := hc _ _ f6
  try simp only [← Nat.add_assoc] at c0 c1 c2 c3 c4 c5 c6
  exact ⟨c0, c1, c2, c3, c4, c5, c6⟩
instance : Inhabited ItemR := ⟨⟨⟨#[]⟩, 0, 0, 0, 0, 0, 0⟩⟩
section
variable {H : Type} {enc : TypeId × Value → H} {w : World} {base : Nat} {spare : Nat → Bool} {held : Bool}
set_option maxRecDepth 100000 in
theorem open_items {fuel : Nat} {v : Value} {x : DataW H × List MemPlace} (h : DataW.trod enc Tryz.prog w base spare held fuel 23 [v] = some x) :
    ∃ (a : Option Addr) (cap : Nat) (L : List ItemR), v = .slice a L.length cap ∧ L.length ≤ cap ∧ cap ≤ maxLen ∧ (a = none → cap = 0) ∧ Items w.heap.size w a L := by
  obtain ⟨a, cap, L, h1, h2, h3, h4, _, h6⟩ := open_rows (P := Tryz.prog) (fun r : ItemR => [.string r.name, .int .i64 r.pos, .int .i64 r.width, .int .i64 r.weight, .int .i64 r.hang, .int .i64 r.front, .int .i64 r.back]) 7 (fun _ => True) (by decide) (fun _ => rfl) Tryz.underlying23 (by kernel_rfl) (fun n cs' y hl ht => by
    obtain ⟨m, hf⟩ := elem_fields Tryz.underlying47 (by kernel_rfl) (by rw [hl]; rfl) ht
    obtain ⟨v0, z0, c0, t0⟩ := hf 0 _ rfl
    obtain ⟨v1, z1, c1, t1⟩ := hf 1 _ rfl
    obtain ⟨v2, z2, c2, t2⟩ := hf 2 _ rfl
    obtain ⟨v3, z3, c3, t3⟩ := hf 3 _ rfl
    obtain ⟨v4, z4, c4, t4⟩ := hf 4 _ rfl
    obtain ⟨v5, z5, c5, t5⟩ := hf 5 _ rfl
    obtain ⟨v6, z6, c6, t6⟩ := hf 6 _ rfl
    obtain ⟨n0, e0, _, _⟩ := DataW.trod_string Tryz.underlying9 t0
    obtain ⟨n1, e1, _, w1⟩ := DataW.trod_int Tryz.underlying3 t1
    obtain ⟨n2, e2, _, w2⟩ := DataW.trod_int Tryz.underlying3 t2
    obtain ⟨n3, e3, _, w3⟩ := DataW.trod_int Tryz.underlying3 t3
    obtain ⟨n4, e4, _, w4⟩ := DataW.trod_int Tryz.underlying3 t4
    obtain ⟨n5, e5, _, w5⟩ := DataW.trod_int Tryz.underlying3 t5
    obtain ⟨n6, e6, _, w6⟩ := DataW.trod_int Tryz.underlying3 t6
    simp only [List.cons.injEq, and_true] at e0 e1 e2 e3 e4 e5 e6
    subst e0 e1 e2 e3 e4 e5 e6
    match cs', hl with
    | [x0, x1, x2, x3, x4, x5, x6], _ =>
      simp only [List.getElem?_cons_zero, List.getElem?_cons_succ, Option.some.injEq] at c0 c1 c2 c3 c4 c5 c6
      subst c0 c1 c2 c3 c4 c5 c6
      exact ⟨⟨n0, n1, n2, n3, n4, n5, n6⟩, rfl, trivial⟩) h
  exact ⟨a, cap, L, h1, h2, h3, h4, item_of_flat h6⟩
end
section
variable {H : Type} {enc : TypeId × Value → H} {W : World} {base : Nat}
set_option maxRecDepth 100000 in
theorem open_set {v : Value} {d : DataW H} {p : List MemPlace} (hv : Value.okWide Tryz.prog W .any base 26 v) (h : DataW.Trod enc Tryz.prog W 0 (fun _ => true) true 26 v d p) :
    ∃ r : SetR, v = .agg #[.string r.name, .int .i64 r.depth, .int .i64 r.low, .int .i64 r.high, .int .i64 r.length, .slice r.la r.lines.length r.lc, .int .i64 r.pipe, .int .i64 r.arbor, .int .i64 r.purchase, .int .i64 r.most, .int .i64 r.brake, .slice r.ia r.items.length r.ic, .slice r.ba r.bricks.length r.bc] ∧ SetIn0 W r := by
  obtain ⟨cs, rfl, hsz⟩ := okWide_struct Tryz.underlying26 hv
  obtain ⟨l⟩ := cs
  match l, hsz.trans (show Tryz.prog.cellsOf 26 = 13 by kernel_rfl) with
  | [x0, x1, x2, x3, x4, x5, x6, x7, x8, x9, x10, x11, x12], _ =>
    obtain ⟨fuel, hf0⟩ := h
    obtain ⟨m, hf⟩ := elem_fields (cs' := [x0, x1, x2, x3, x4, x5, x6, x7, x8, x9, x10, x11, x12]) Tryz.underlying26 (by kernel_rfl) rfl (by simpa [Value.cells] using hf0)
    obtain ⟨v0, z0, c0, t0⟩ := hf 0 _ rfl
    obtain ⟨v1, z1, c1, t1⟩ := hf 1 _ rfl
    obtain ⟨v2, z2, c2, t2⟩ := hf 2 _ rfl
    obtain ⟨v3, z3, c3, t3⟩ := hf 3 _ rfl
    obtain ⟨v4, z4, c4, t4⟩ := hf 4 _ rfl
    obtain ⟨v5, z5, c5, t5⟩ := hf 5 _ rfl
    obtain ⟨v6, z6, c6, t6⟩ := hf 6 _ rfl
    obtain ⟨v7, z7, c7, t7⟩ := hf 7 _ rfl
    obtain ⟨v8, z8, c8, t8⟩ := hf 8 _ rfl
    obtain ⟨v9, z9, c9, t9⟩ := hf 9 _ rfl
    obtain ⟨v10, z10, c10, t10⟩ := hf 10 _ rfl
    obtain ⟨v11, z11, c11, t11⟩ := hf 11 _ rfl
    obtain ⟨v12, z12, c12, t12⟩ := hf 12 _ rfl
    simp only [List.getElem?_cons_zero, List.getElem?_cons_succ, Option.some.injEq] at c0 c1 c2 c3 c4 c5 c6 c7 c8 c9 c10 c11 c12
    subst c0 c1 c2 c3 c4 c5 c6 c7 c8 c9 c10 c11 c12
    obtain ⟨n0, e0, _, _⟩ := DataW.trod_string Tryz.underlying9 t0
    obtain ⟨n1, e1, _, w1⟩ := DataW.trod_int Tryz.underlying3 t1
    obtain ⟨n2, e2, _, w2⟩ := DataW.trod_int Tryz.underlying3 t2
    obtain ⟨n3, e3, _, w3⟩ := DataW.trod_int Tryz.underlying3 t3
    obtain ⟨n4, e4, _, w4⟩ := DataW.trod_int Tryz.underlying3 t4
    obtain ⟨n6, e6, _, w6⟩ := DataW.trod_int Tryz.underlying3 t6
    obtain ⟨n7, e7, _, w7⟩ := DataW.trod_int Tryz.underlying3 t7
    obtain ⟨n8, e8, _, w8⟩ := DataW.trod_int Tryz.underlying3 t8
    obtain ⟨n9, e9, _, w9⟩ := DataW.trod_int Tryz.underlying3 t9
    obtain ⟨n10, e10, _, w10⟩ := DataW.trod_int Tryz.underlying3 t10
    obtain ⟨la, lc, L, rfl, l1, l2, l3, _, l4⟩ := open_nums t5
    obtain ⟨ia, ic, I, rfl, i1, i2, i3, i4⟩ := open_items t11
    obtain ⟨ba, bc, B, rfl, b1, b2, b3, b4⟩ := open_bricks t12
    simp only [List.cons.injEq, and_true] at e0 e1 e2 e3 e4 e6 e7 e8 e9 e10
    subst e0 e1 e2 e3 e4 e6 e7 e8 e9 e10
    exact ⟨⟨n0, n1, n2, n3, n4, la, L, lc, n6, n7, n8, n9, n10, ia, I, ic, ba, B, bc⟩, rfl, ⟨l4, i4, b4, l1, i1, b1, l3, i3, b3⟩⟩
end
end Go.Proofs.YtbniclapaigkkaaGreat
