/-
  ARGUMENTS THAT CAME IN: a move.
  ARGUMENTS THAT CAME IN: slices of numbers and of bricks.
  ARGUMENTS THAT CAME IN: a slice of items; a set.
  ARGUMENTS THAT CAME IN: slices of sets and of beams, a house.
  ARGUMENTS THAT CAME IN: a fraction.
  PLAIN: what the law MoveGoes asks of two times.
-/
import Derived.Lib.SmallJoins
import Derived.OpenShut
import Derived.Test.YtbgkgahmicepdaaZ32
import Derived.Test.YtbgkgahmicepdaaZ5
import Derived.Test.YtbgkgahmicepdaaZ1
import Derived.Test.YtbgkgahmicepdaaZ3
import Derived.Test.YtbgkgahmicepdaaZ17
namespace Go.Proofs.Ytbgkgahmicepdaa
open Go.ChangeShapes Go.WideShapes Go.ChangeAt Go.WideMaps Go.WideElems Go.RowKit Go.Deep Go.Joins
section
variable {H : Type} {enc : TypeId × Value → H} {W : World} {base : Nat}
set_option maxRecDepth 100000 in
theorem open_move {v : Value} {d : DataW H} {p : List MemPlace} (hv : Value.okWide Try.prog W .any base 27 v) (h : DataW.Trod enc Try.prog W 0 (fun _ => true) true 27 v d p) :
  ∃ m : Mv, v = .agg #[.string m.name, .int .i64 m.to, .int .i64 m.spd, .int .i64 m.rise, .int .i64 m.fall] := by
 obtain ⟨cs, rfl, hsz⟩ := okWide_struct Try.underlying27 hv
 have hsz : cs.size = 5 := hsz.trans (by kernel_rfl)
 obtain ⟨fuel, hf⟩ := h
 obtain ⟨k, hk⟩ := elem_fields (cs' := cs.toList) Try.underlying27 (by kernel_rfl) (by rw [Array.length_toList, hsz]; rfl) hf
 obtain ⟨v0, z0, c0, t0⟩ := hk 0 _ rfl
 obtain ⟨v1, z1, c1, t1⟩ := hk 1 _ rfl
 obtain ⟨v2, z2, c2, t2⟩ := hk 2 _ rfl
 obtain ⟨v3, z3, c3, t3⟩ := hk 3 _ rfl
 obtain ⟨v4, z4, c4, t4⟩ := hk 4 _ rfl
 obtain ⟨n0, e0, _, w0⟩ := DataW.trod_string Try.underlying9 t0
 obtain ⟨n1, e1, _, w1⟩ := DataW.trod_int Try.underlying3 t1
 obtain ⟨n2, e2, _, w2⟩ := DataW.trod_int Try.underlying3 t2
 obtain ⟨n3, e3, _, w3⟩ := DataW.trod_int Try.underlying3 t3
 obtain ⟨n4, e4, _, w4⟩ := DataW.trod_int Try.underlying3 t4
 simp only [List.cons.injEq, and_true] at e0 e1 e2 e3 e4
 subst e0 e1 e2 e3 e4
 obtain ⟨l⟩ := cs
 match l, hsz with
 | [x0, x1, x2, x3, x4], _ =>
  simp only [List.getElem?_cons_zero, List.getElem?_cons_succ, Option.some.injEq] at c0 c1 c2 c3 c4
  subst c0 c1 c2 c3 c4
  exact ⟨⟨n0, n1, n2, n3, n4⟩, rfl⟩
end
end Go.Proofs.Ytbgkgahmicepdaa
namespace Go.Proofs.Ytbgkgahmicepdaa
open Go.ChangeShapes Go.WideShapes Go.ChangeAt Go.WideMaps Go.WideElems Go.RowKit Go.Deep Go.Joins
theorem num_of_flat {n₀ : Nat} {w : World} {a : Option Addr} {L : List (Int)} (h : 0 < L.length → ∃ b off, a = some ⟨b, off, none⟩ ∧ b < n₀ ∧ ∀ j u, (nflat L)[j]? = some u → w.cell? ⟨b, off + j, none⟩ = some u) : Nums n₀ w a L := fun hl => by
 obtain ⟨b, off, e, hb, hc⟩ := h hl
 refine ⟨b, off, e, hb, fun i hi => ?_⟩
 have f0 := nflat_at L i hi
 have c0 := hc _ _ f0
 try simp only [← Nat.add_assoc] at c0
 exact c0
theorem brick_of_flat {n₀ : Nat} {w : World} {a : Option Addr} {L : List (BrickR)} (h : 0 < L.length → ∃ b off, a = some ⟨b, off, none⟩ ∧ b < n₀ ∧ ∀ j u, (kflat L)[j]? = some u → w.cell? ⟨b, off + j, none⟩ = some u) : Bricks n₀ w a L := fun hl => by
 obtain ⟨b, off, e, hb, hc⟩ := h hl
 refine ⟨b, off, e, hb, fun i hi => ?_⟩
 obtain ⟨f0, f1, f2⟩ := kflat_at L i hi
 have c0 := hc _ _ f0
 have c1 := hc _ _ f1
 have c2 := hc _ _ f2
 try simp only [← Nat.add_assoc] at c0 c1 c2
 exact ⟨c0, c1, c2⟩
instance : Inhabited BrickR := ⟨⟨⟨#[]⟩, 0, 0⟩⟩
section
variable {H : Type} {enc : TypeId × Value → H} {w : World} {base : Nat} {spare : Nat → Bool} {held : Bool}
theorem open_nums {fuel : Nat} {v : Value} {x : DataW H × List MemPlace} (h : DataW.trod enc Try.prog w base spare held fuel 80 [v] = some x) :
  ∃ (a : Option Addr) (cap : Nat) (L : List Int), v = .slice a L.length cap ∧ L.length ≤ cap ∧ cap ≤ maxLen ∧ (a = none → cap = 0) ∧ (∀ r ∈ L, (Lit.int .i64 r).wf = true) ∧ Nums w.heap.size w a L := by
 obtain ⟨a, cap, L, h1, h2, h3, h4, h5, h6⟩ := open_rows (P := Try.prog) (fun r : Int => [Value.int .i64 r]) 1 (fun r => (Lit.int .i64 r).wf = true) (by decide) (fun _ => rfl) Try.underlying80 (by kernel_rfl) (fun n cs' y hl ht => by
  obtain ⟨m, e, _, hw⟩ := DataW.trod_int Try.underlying3 ht
  exact ⟨m, e, hw⟩) h
 exact ⟨a, cap, L, h1, h2, h3, h4, h5, num_of_flat h6⟩
set_option maxRecDepth 100000 in
theorem open_bricks {fuel : Nat} {v : Value} {x : DataW H × List MemPlace} (h : DataW.trod enc Try.prog w base spare held fuel 82 [v] = some x) :
  ∃ (a : Option Addr) (cap : Nat) (L : List BrickR), v = .slice a L.length cap ∧ L.length ≤ cap ∧ cap ≤ maxLen ∧ (a = none → cap = 0) ∧ Bricks w.heap.size w a L := by
 obtain ⟨a, cap, L, h1, h2, h3, h4, _, h6⟩ := open_rows (P := Try.prog) (fun r : BrickR => [.string r.name, .int .i64 r.weight, .int .i64 r.count]) 3 (fun _ => True) (by decide) (fun _ => rfl) Try.underlying82 (by kernel_rfl) (fun n cs' y hl ht => by
  obtain ⟨m, hf⟩ := elem_fields Try.underlying110 (by kernel_rfl) (by rw [hl]; rfl) ht
  obtain ⟨v0, z0, c0, t0⟩ := hf 0 _ rfl
  obtain ⟨v1, z1, c1, t1⟩ := hf 1 _ rfl
  obtain ⟨v2, z2, c2, t2⟩ := hf 2 _ rfl
  obtain ⟨n0, e0, _, _⟩ := DataW.trod_string Try.underlying9 t0
  obtain ⟨n1, e1, _, w1⟩ := DataW.trod_int Try.underlying3 t1
  obtain ⟨n2, e2, _, w2⟩ := DataW.trod_int Try.underlying3 t2
  simp only [List.cons.injEq, and_true] at e0 e1 e2
  subst e0 e1 e2
  match cs', hl with
  | [x0, x1, x2], _ =>
   simp only [List.getElem?_cons_zero, List.getElem?_cons_succ, Option.some.injEq] at c0 c1 c2
   subst c0 c1 c2
   exact ⟨⟨n0, n1, n2⟩, rfl, trivial⟩) h
 exact ⟨a, cap, L, h1, h2, h3, h4, brick_of_flat h6⟩
end
section
variable {H : Type} {enc : TypeId × Value → H} {W : World} {base : Nat}
end
end Go.Proofs.Ytbgkgahmicepdaa
namespace Go.Proofs.Ytbgkgahmicepdaa
open Go.ChangeShapes Go.WideShapes Go.ChangeAt Go.WideMaps Go.WideElems Go.RowKit Go.Deep Go.Joins
theorem item_of_flat {n₀ : Nat} {w : World} {a : Option Addr} {L : List ItemR} (h : 0 < L.length → ∃ b off, a = some ⟨b, off, none⟩ ∧ b < n₀ ∧ ∀ j u, (tflat L)[j]? = some u → w.cell? ⟨b, off + j, none⟩ = some u) : Items n₀ w a L := fun hl => by
 obtain ⟨b, off, e, hb, hc⟩ := h hl
 refine ⟨b, off, e, hb, fun i hi => ?_⟩
 obtain ⟨f0, f1, f2, f3, f4, f5, f6⟩ := tflat_at L i hi
 have c0 := hc _ _ f0
 have c1 := hc _ _ f1
 have c2 := hc _ _ f2
 have c3 := hc _ _ f3
 have c4 := hc _ _ f4
 have c5 := hc _ _ f5
 have c6 := hc _ _ f6
 try simp only [← Nat.add_assoc] at c0 c1 c2 c3 c4 c5 c6
 exact ⟨c0, c1, c2, c3, c4, c5, c6⟩
instance : Inhabited ItemR := ⟨⟨⟨#[]⟩, 0, 0, 0, 0, 0, 0⟩⟩
section
variable {H : Type} {enc : TypeId × Value → H} {w : World} {base : Nat} {spare : Nat → Bool} {held : Bool}
set_option maxRecDepth 100000 in
theorem open_items {fuel : Nat} {v : Value} {x : DataW H × List MemPlace} (h : DataW.trod enc Try.prog w base spare held fuel 81 [v] = some x) :
  ∃ (a : Option Addr) (cap : Nat) (L : List ItemR), v = .slice a L.length cap ∧ L.length ≤ cap ∧ cap ≤ maxLen ∧ (a = none → cap = 0) ∧ Items w.heap.size w a L := by
 obtain ⟨a, cap, L, h1, h2, h3, h4, _, h6⟩ := open_rows (P := Try.prog) (fun r : ItemR => [.string r.name, .int .i64 r.pos, .int .i64 r.width, .int .i64 r.weight, .int .i64 r.hang, .int .i64 r.front, .int .i64 r.back]) 7 (fun _ => True) (by decide) (fun _ => rfl) Try.underlying81 (by kernel_rfl) (fun n cs' y hl ht => by
  obtain ⟨m, hf⟩ := elem_fields Try.underlying108 (by kernel_rfl) (by rw [hl]; rfl) ht
  obtain ⟨v0, z0, c0, t0⟩ := hf 0 _ rfl
  obtain ⟨v1, z1, c1, t1⟩ := hf 1 _ rfl
  obtain ⟨v2, z2, c2, t2⟩ := hf 2 _ rfl
  obtain ⟨v3, z3, c3, t3⟩ := hf 3 _ rfl
  obtain ⟨v4, z4, c4, t4⟩ := hf 4 _ rfl
  obtain ⟨v5, z5, c5, t5⟩ := hf 5 _ rfl
  obtain ⟨v6, z6, c6, t6⟩ := hf 6 _ rfl
  obtain ⟨n0, e0, _, _⟩ := DataW.trod_string Try.underlying9 t0
  obtain ⟨n1, e1, _, w1⟩ := DataW.trod_int Try.underlying3 t1
  obtain ⟨n2, e2, _, w2⟩ := DataW.trod_int Try.underlying3 t2
  obtain ⟨n3, e3, _, w3⟩ := DataW.trod_int Try.underlying3 t3
  obtain ⟨n4, e4, _, w4⟩ := DataW.trod_int Try.underlying3 t4
  obtain ⟨n5, e5, _, w5⟩ := DataW.trod_int Try.underlying3 t5
  obtain ⟨n6, e6, _, w6⟩ := DataW.trod_int Try.underlying3 t6
  simp only [List.cons.injEq, and_true] at e0 e1 e2 e3 e4 e5 e6
  subst e0 e1 e2 e3 e4 e5 e6
  match cs', hl with
  | [x0, x1, x2, x3, x4, x5, x6], _ =>
   simp only [List.getElem?_cons_zero, List.getElem?_cons_succ, Option.some.injEq] at c0 c1 c2 c3 c4 c5 c6
   subst c0 c1 c2 c3 c4 c5 c6
   exact ⟨⟨n0, n1, n2, n3, n4, n5, n6⟩, rfl, trivial⟩) h
 exact ⟨a, cap, L, h1, h2, h3, h4, item_of_flat h6⟩
end
section
variable {H : Type} {enc : TypeId × Value → H} {W : World} {base : Nat}
end
end Go.Proofs.Ytbgkgahmicepdaa
namespace Go.Proofs.Ytbgkgahmicepdaa
open Go.ChangeShapes Go.WideShapes Go.ChangeAt Go.WideMaps Go.WideElems Go.RowKit Go.Deep Go.Joins
instance : Inhabited RoofR := ⟨⟨⟨#[]⟩, 0, 0, 0⟩⟩
instance : Inhabited SetR := ⟨⟨⟨#[]⟩, 0, 0, 0, 0, none, [], 0, 0, 0, 0, 0, 0, none, [], 0, none, [], 0⟩⟩
theorem roof_of_flat {n₀ : Nat} {w : World} {a : Option Addr} {L : List RoofR} (h : 0 < L.length → ∃ b off, a = some ⟨b, off, none⟩ ∧ b < n₀ ∧ ∀ j u, (rflat L)[j]? = some u → w.cell? ⟨b, off + j, none⟩ = some u) : Roofs n₀ w a L := fun hl => by
 obtain ⟨b, off, e, hb, hc⟩ := h hl
 refine ⟨b, off, e, hb, fun i hi => ?_⟩
 obtain ⟨f0, f1, f2, f3⟩ := rflat_at L i hi
 have c0 := hc _ _ f0
 have c1 := hc _ _ f1
 have c2 := hc _ _ f2
 have c3 := hc _ _ f3
 try simp only [← Nat.add_assoc] at c0 c1 c2 c3
 exact ⟨c0, c1, c2, c3⟩
theorem set_of_flat {n₀ : Nat} {w : World} {a : Option Addr} {L : List SetR} (h : 0 < L.length → ∃ b off, a = some ⟨b, off, none⟩ ∧ b < n₀ ∧ ∀ j u, (hflat L)[j]? = some u → w.cell? ⟨b, off + j, none⟩ = some u) : SetRows n₀ w a L := fun hl => by
 obtain ⟨b, off, e, hb, hc⟩ := h hl
 refine ⟨b, off, e, hb, fun i hi => ?_⟩
 obtain ⟨f0, f1, f2, f3, f4, f5, f6, f7, f8, f9, f10, f11, f12⟩ := hflat_at L i hi
 have c0 := hc _ _ f0
 have c1 := hc _ _ f1
 have c2 := hc _ _ f2
 have c3 := hc _ _ f3
 have c4 := hc _ _ f4
 have c5 := hc _ _ f5
 have c6 := hc _ _ f6
 have c7 := hc _ _ f7
 have c8 := hc _ _ f8
 have c9 := hc _ _ f9
 have c10 := hc _ _ f10
 have c11 := hc _ _ f11
 have c12 := hc _ _ f12
 try simp only [← Nat.add_assoc] at c0 c1 c2 c3 c4 c5 c6 c7 c8 c9 c10 c11 c12
 exact ⟨c0, c1, c2, c3, c4, c5, c6, c7, c8, c9, c10, c11, c12⟩
section
variable {H : Type} {enc : TypeId × Value → H} {w : World} {base : Nat} {spare : Nat → Bool} {held : Bool}
set_option maxRecDepth 100000 in
theorem open_roofs {fuel : Nat} {v : Value} {x : DataW H × List MemPlace} (h : DataW.trod enc Try.prog w base spare held fuel 23 [v] = some x) :
  ∃ (a : Option Addr) (cap : Nat) (L : List RoofR), v = .slice a L.length cap ∧ L.length ≤ cap ∧ cap ≤ maxLen ∧ (a = none → cap = 0) ∧ Roofs w.heap.size w a L := by
 obtain ⟨a, cap, L, h1, h2, h3, h4, _, h6⟩ := open_rows (P := Try.prog) (fun r : RoofR => [.string r.name, .int .i64 r.lo, .int .i64 r.hi, .int .i64 r.most]) 4 (fun _ => True) (by decide) (fun _ => rfl) Try.underlying23 (by kernel_rfl) (fun n cs' y hl ht => by
  obtain ⟨m, hf⟩ := elem_fields Try.underlying87 (by kernel_rfl) (by rw [hl]; rfl) ht
  obtain ⟨v0, z0, c0, t0⟩ := hf 0 _ rfl
  obtain ⟨v1, z1, c1, t1⟩ := hf 1 _ rfl
  obtain ⟨v2, z2, c2, t2⟩ := hf 2 _ rfl
  obtain ⟨v3, z3, c3, t3⟩ := hf 3 _ rfl
  obtain ⟨n0, e0, _, _⟩ := DataW.trod_string Try.underlying9 t0
  obtain ⟨n1, e1, _, w1⟩ := DataW.trod_int Try.underlying3 t1
  obtain ⟨n2, e2, _, w2⟩ := DataW.trod_int Try.underlying3 t2
  obtain ⟨n3, e3, _, w3⟩ := DataW.trod_int Try.underlying3 t3
  simp only [List.cons.injEq, and_true] at e0 e1 e2 e3
  subst e0 e1 e2 e3
  match cs', hl with
  | [x0, x1, x2, x3], _ =>
   simp only [List.getElem?_cons_zero, List.getElem?_cons_succ, Option.some.injEq] at c0 c1 c2 c3
   subst c0 c1 c2 c3
   exact ⟨⟨n0, n1, n2, n3⟩, rfl, trivial⟩) h
 exact ⟨a, cap, L, h1, h2, h3, h4, roof_of_flat h6⟩
set_option maxRecDepth 100000 in
theorem open_sets {fuel : Nat} {v : Value} {x : DataW H × List MemPlace} (h : DataW.trod enc Try.prog w base spare held fuel 22 [v] = some x) :
  ∃ (a : Option Addr) (cap : Nat) (L : List SetR), v = .slice a L.length cap ∧ L.length ≤ cap ∧ cap ≤ maxLen ∧ (a = none → cap = 0) ∧ (∀ r ∈ L, SetIn0 w r) ∧ SetRows w.heap.size w a L := by
 obtain ⟨a, cap, L, h1, h2, h3, h4, h5, h6⟩ := open_rows (P := Try.prog) (fun r : SetR => [.string r.name, .int .i64 r.depth, .int .i64 r.low, .int .i64 r.high, .int .i64 r.length, .slice r.la r.lines.length r.lc, .int .i64 r.pipe, .int .i64 r.arbor, .int .i64 r.purchase, .int .i64 r.most, .int .i64 r.brake, .slice r.ia r.items.length r.ic, .slice r.ba r.bricks.length r.bc]) 13 (fun r => SetIn0 w r) (by decide) (fun _ => rfl) Try.underlying22 (by kernel_rfl) (fun n cs' y hl ht => by
  obtain ⟨m, hf⟩ := elem_fields Try.underlying84 (by kernel_rfl) (by rw [hl]; rfl) ht
  obtain ⟨v0, z0, c0, t0⟩ := hf 0 _ rfl
  obtain ⟨v1, z1, c1, t1⟩ := hf 1 _ rfl
  obtain ⟨v2, z2, c2, t2⟩ := hf 2 _ rfl
  obtain ⟨v3, z3, c3, t3⟩ := hf 3 _ rfl
  obtain ⟨v4, z4, c4, t4⟩ := hf 4 _ rfl
  obtain ⟨v5, z5, c5, t5⟩ := hf 5 _ rfl
  obtain ⟨v6, z6, c6, t6⟩ := hf 6 _ rfl
  obtain ⟨v7, z7, c7, t7⟩ := hf 7 _ rfl
  obtain ⟨v8, z8, c8, t8⟩ := hf 8 _ rfl
  obtain ⟨v9, z9, c9, t9⟩ := hf 9 _ rfl
  obtain ⟨v10, z10, c10, t10⟩ := hf 10 _ rfl
  obtain ⟨v11, z11, c11, t11⟩ := hf 11 _ rfl
  obtain ⟨v12, z12, c12, t12⟩ := hf 12 _ rfl
  obtain ⟨n0, e0, _, _⟩ := DataW.trod_string Try.underlying9 t0
  obtain ⟨n1, e1, _, w1⟩ := DataW.trod_int Try.underlying3 t1
  obtain ⟨n2, e2, _, w2⟩ := DataW.trod_int Try.underlying3 t2
  obtain ⟨n3, e3, _, w3⟩ := DataW.trod_int Try.underlying3 t3
  obtain ⟨n4, e4, _, w4⟩ := DataW.trod_int Try.underlying3 t4
  obtain ⟨n6, e6, _, w6⟩ := DataW.trod_int Try.underlying3 t6
  obtain ⟨n7, e7, _, w7⟩ := DataW.trod_int Try.underlying3 t7
  obtain ⟨n8, e8, _, w8⟩ := DataW.trod_int Try.underlying3 t8
  obtain ⟨n9, e9, _, w9⟩ := DataW.trod_int Try.underlying3 t9
  obtain ⟨n10, e10, _, w10⟩ := DataW.trod_int Try.underlying3 t10
  obtain ⟨la, lc, L, rfl, l1, l2, l3, _, l4⟩ := open_nums t5
  obtain ⟨ia, ic, I, rfl, i1, i2, i3, i4⟩ := open_items t11
  obtain ⟨ba, bc, B, rfl, b1, b2, b3, b4⟩ := open_bricks t12
  simp only [List.cons.injEq, and_true] at e0 e1 e2 e3 e4 e6 e7 e8 e9 e10
  subst e0 e1 e2 e3 e4 e6 e7 e8 e9 e10
  match cs', hl with
  | [x0, x1, x2, x3, x4, x5, x6, x7, x8, x9, x10, x11, x12], _ =>
   simp only [List.getElem?_cons_zero, List.getElem?_cons_succ, Option.some.injEq] at c0 c1 c2 c3 c4 c5 c6 c7 c8 c9 c10 c11 c12
   subst c0 c1 c2 c3 c4 c5 c6 c7 c8 c9 c10 c11 c12
   exact ⟨⟨n0, n1, n2, n3, n4, la, L, lc, n6, n7, n8, n9, n10, ia, I, ic, ba, B, bc⟩, rfl, ⟨l4, i4, b4, l1, i1, b1, l3, i3, b3⟩⟩) h
 exact ⟨a, cap, L, h1, h2, h3, h4, h5, set_of_flat h6⟩
end
section
variable {H : Type} {enc : TypeId × Value → H} {W : World} {base : Nat}
set_option maxRecDepth 100000 in
theorem open_house {v : Value} {d : DataW H} {p : List MemPlace} (hv : Value.okWide Try.prog W .any base 25 v) (h : DataW.Trod enc Try.prog W 0 (fun _ => true) true 25 v d p) :
  ∃ r : HouseR, v = .agg #[.string r.name, .int .i64 r.height, .slice r.sa r.sets.length r.sc, .slice r.ra r.roofs.length r.rc] ∧ HouseIn0 W r := by
 obtain ⟨cs, rfl, hsz⟩ := okWide_struct Try.underlying25 hv
 obtain ⟨l⟩ := cs
 match l, hsz.trans (show Try.prog.cellsOf 25 = 4 by kernel_rfl) with
 | [x0, x1, x2, x3], _ =>
  obtain ⟨fuel, hf0⟩ := h
  obtain ⟨m, hf⟩ := elem_fields (cs' := [x0, x1, x2, x3]) Try.underlying25 (by kernel_rfl) rfl (by simpa [Value.cells] using hf0)
  obtain ⟨v0, z0, c0, t0⟩ := hf 0 _ rfl
  obtain ⟨v1, z1, c1, t1⟩ := hf 1 _ rfl
  obtain ⟨v2, z2, c2, t2⟩ := hf 2 _ rfl
  obtain ⟨v3, z3, c3, t3⟩ := hf 3 _ rfl
  simp only [List.getElem?_cons_zero, List.getElem?_cons_succ, Option.some.injEq] at c0 c1 c2 c3
  subst c0 c1 c2 c3
  obtain ⟨n0, e0, _, _⟩ := DataW.trod_string Try.underlying9 t0
  obtain ⟨n1, e1, _, w1⟩ := DataW.trod_int Try.underlying3 t1
  obtain ⟨sa, sc, S, rfl, s1, s2, s3, s4, s5⟩ := open_sets t2
  obtain ⟨ra, rc, R, rfl, r1, r2, r3, r4⟩ := open_roofs t3
  simp only [List.cons.injEq, and_true] at e0 e1
  subst e0 e1
  exact ⟨⟨n0, n1, sa, S, sc, ra, R, rc⟩, rfl, ⟨s5, r4, fun i hi => s4 _ (by rw [hg_eq S i hi]; exact List.getElem_mem hi), s1, r1, s3, r3⟩⟩
end
end Go.Proofs.Ytbgkgahmicepdaa
namespace Go.Proofs.Ytbgkgahmicepdaa
open Go.ChangeShapes Go.WideShapes Go.ChangeAt Go.WideMaps Go.WideElems Go.RowKit Go.Deep Go.Joins
section
variable {H : Type} {enc : TypeId × Value → H} {W : World} {base : Nat}
set_option maxRecDepth 100000 in
theorem open_frac {v : Value} {d : DataW H} {p : List MemPlace} (hv : Value.okWide Try.prog W .any base 29 v) (h : DataW.Trod enc Try.prog W 0 (fun _ => true) true 29 v d p) :
  ∃ m : Int × Int, v = .agg #[.int .i64 m.1, .int .i64 m.2] := by
 obtain ⟨cs, rfl, hsz⟩ := okWide_struct Try.underlying29 hv
 have hsz : cs.size = 2 := hsz.trans (by kernel_rfl)
 obtain ⟨fuel, hf⟩ := h
 obtain ⟨k, hk⟩ := elem_fields (cs' := cs.toList) Try.underlying29 (by kernel_rfl) (by rw [Array.length_toList, hsz]; rfl) hf
 obtain ⟨v0, z0, c0, t0⟩ := hk 0 _ rfl
 obtain ⟨v1, z1, c1, t1⟩ := hk 1 _ rfl
 obtain ⟨n0, e0, _, w0⟩ := DataW.trod_int Try.underlying3 t0
 obtain ⟨n1, e1, _, w1⟩ := DataW.trod_int Try.underlying3 t1
 simp only [List.cons.injEq, and_true] at e0 e1
 subst e0 e1
 obtain ⟨l⟩ := cs
 match l, hsz with
 | [x0, x1], _ =>
  simp only [List.getElem?_cons_zero, List.getElem?_cons_succ, Option.some.injEq] at c0 c1
  subst c0 c1
  exact ⟨(n0, n1), rfl⟩
end
end Go.Proofs.Ytbgkgahmicepdaa
namespace Go.Proofs.Ytbgkgahmicepdaa
section
variable {h : HouseR} {f : Int} {m : Mv} {t : Int}
theorem fr_nonneg {x : Int × Int} (vx : vF x = true) (h : 0 ≤ x.1) : 0 ≤ fr x := by
 rw [← frq_zero]
 exact (frq_le (a := (0, 1)) (by decide) (den_pos vx)).2 (by show 0 * x.2 ≤ x.1 * 1; omega)
structure GoesOK (f : Int) (m : Mv) (X Y : Int × Int × Int) (T P : Int × Int) : Prop where
 vX : vF (X.1, X.2.1) = true
 vY : vF (Y.1, Y.2.1) = true
 up : f ≤ m.to → decide (0 < cmpP (X.1 * Y.2.1) (Y.1 * X.2.1)) = false
 down : m.to ≤ f → decide (cmpP (X.1 * Y.2.1) (Y.1 * X.2.1) < 0) = false
 late : 0 ≤ cmpP (T.1 * P.2) (P.1 * T.2) → Y = (m.to, 1, 0)
 lo : decide (0 ≤ cmpP (Y.1 * 1) (min f m.to * Y.2.1)) = true
 hi : decide (cmpP (Y.1 * 1) (max f m.to * Y.2.1) ≤ 0) = true
theorem goes_pair (e : mgE h f m = 0) (g : Going h f m t) {S T : Int × Int} (vS : vF S = true) (vT : vF T = true) (hle : S.1 * T.2 ≤ T.1 * S.2) :
  (matP h f m S t).2.2 = 2 ∨ (matP h f m S t).2.2 = 5 ∨ ((matP h f m S t).2.2 = 0 ∧ (matP h f m T t).2.2 = 5) ∨ ((matP h f m S t).2.2 = 0 ∧ (matP h f m T t).2.2 = 0 ∧ GoesOK f m (matP h f m S t) (matP h f m T t) T (timeP (mgD f m) m t)) := by
 rcases mat_cases (t := t) e vS with ⟨_, eX⟩ | ⟨s0, eX, xe⟩
 ·left; rw [eX]
 ·rw [eX]
  rcases xe with xe | xe
  ·right; right
   have fle : fr S ≤ fr T := (frq_le (den_pos vS) (den_pos vT)).2 hle
   have t0 : 0 ≤ T.1 := by
    have a := fr_nonneg vS s0
    have b : fr (0, 1) ≤ fr T := by rw [frq_zero]; grind
    have c := (frq_le (a := (0, 1)) (by decide) (den_pos vT)).1 b
    have c' : 0 * T.2 ≤ T.1 * 1 := c
    omega
   rcases mat_cases (t := t) e vT with ⟨tn, _⟩ | ⟨_, eY, ye⟩
   ·omega
   ·rw [eY]
    rcases ye with ye | ye
    ·right
     refine ⟨xe, ye, ?_⟩
     have vX := atP_valid g.ok vS xe
     have vY := atP_valid g.ok vT ye
     obtain ⟨o1, o2⟩ := g.on vS vT fle xe ye
     obtain ⟨p1, p2⟩ := g.on vT vT Rat.le_refl ye ye
     have fy : (f : Rat) = fr (f, 1) := (frq_one f).symm
     have ty : (m.to : Rat) = fr (m.to, 1) := (frq_one m.to).symm
     have one : (0 : Int) < 1 := by decide
     rw [fy, ty] at o1 o2 p1 p2
     refine ⟨vX, vY, fun c => ?_, fun c => ?_, fun c => ?_, ?_, ?_⟩
     ·have := of_decide_eq_true (cmp_le ((frq_le (den_pos vX) (den_pos vY)).1 (o1 c).2.1))
      dsimp only at this
      exact decide_eq_false (by omega)
     ·have := of_decide_eq_true (cmp_ge ((frq_le (den_pos vY) (den_pos vX)).1 (o2 c).2.1))
      dsimp only at this
      exact decide_eq_false (by omega)
     ·exact g.late vT ye ((frq_le (den_pos (time_vF g.gd g.top)) (den_pos vT)).2 (cmp_nle c))
     ·refine cmp_ge ?_
      rcases Int.le_total f m.to with c | c
      ·rw [Int.min_eq_left c]
       exact (frq_le (a := (f, 1)) one (den_pos vY)).1 (p1 c).1
      ·rw [Int.min_eq_right c]
       exact (frq_le (a := (m.to, 1)) one (den_pos vY)).1 (p2 c).1
     ·refine cmp_le ?_
      rcases Int.le_total f m.to with c | c
      ·rw [Int.max_eq_right c]
       exact (frq_le (b := (m.to, 1)) (den_pos vY) one).1 (p1 c).2.2
      ·rw [Int.max_eq_left c]
       exact (frq_le (b := (f, 1)) (den_pos vY) one).1 (p2 c).2.2
    ·left; exact ⟨xe, ye⟩
  ·right; left; exact xe
theorem goes_zero (e : mgE h f m = 0) (g : Going h f m t) : matP h f m (0, 1) t = (f, 1, 0) := by
 rcases mat_cases (t := t) e (x := (0, 1)) (by decide) with ⟨c, _⟩ | ⟨_, c, _⟩
 ·exact absurd c (by decide)
 ·rw [c, g.zero]
theorem goes_end (e : mgE h f m = 0) (g : Going h f m t) : matP h f m (timeP (mgD f m) m t) t = (m.to, 1, 0) ∨ (matP h f m (timeP (mgD f m) m t) t).2.2 = 5 := by
 rcases mat_cases (t := t) e (time_vF g.gd g.top) with ⟨c, _⟩ | ⟨_, c, x⟩
 ·have := time_pos0 g.gd g.top
  omega
 ·rw [c]
  exact x.imp (fun x => g.at_end x) id
end
end Go.Proofs.Ytbgkgahmicepdaa
