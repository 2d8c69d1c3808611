/-
  ARGUMENTS THAT CAME IN: slices of numbers and of spans; a rope.
-/
import Derived.Test.YtfllfabinfmogaaOpen
import Derived.Test.YtfllfabinfmogaaApp
import Derived.Lib.SmallJoins
import Derived.OpenShut
namespace Go.Proofs.Ytfllfabinfmogaa
open Go.ChangeShapes Go.WideShapes Go.ChangeAt Go.WideMaps Go.WideElems Go.RowKit Go.Deep Go.Joins

theorem num_of_flat {n₀ : Nat} {w : World} {a : Option Addr} {L : List (Int)} (h : 0 < L.length → ∃ b off, a = some ⟨b, off, none⟩ ∧ b < n₀ ∧ ∀ j u, (nflat L)[j]? = some u → w.cell? ⟨b, off + j, none⟩ = some u) : Nums n₀ w a L := fun hl => by
  obtain ⟨b, off, e, hb, hc⟩ := h hl
  refine ⟨b, off, e, hb, fun i hi => ?_⟩
  have f0 := nflat_at L i hi
  have c0 := hc _ _ f0
  try simp only [← Nat.add_assoc] at c0
  exact c0

theorem span_of_flat {n₀ : Nat} {w : World} {a : Option Addr} {L : List (Int × Int)} (h : 0 < L.length → ∃ b off, a = some ⟨b, off, none⟩ ∧ b < n₀ ∧ ∀ j u, (sflat L)[j]? = some u → w.cell? ⟨b, off + j, none⟩ = some u) : Spans n₀ w a L := fun hl => by
  obtain ⟨b, off, e, hb, hc⟩ := h hl
  refine ⟨b, off, e, hb, fun i hi => ?_⟩
  obtain ⟨f0, f1⟩ := sflat_at L i hi
  have c0 := hc _ _ f0
  have c1 := hc _ _ f1
  try simp only [← Nat.add_assoc] at c0 c1
  exact ⟨c0, c1⟩

theorem hold_of_flat {n₀ : Nat} {w : World} {a : Option Addr} {L : List (HoldR)} (h : 0 < L.length → ∃ b off, a = some ⟨b, off, none⟩ ∧ b < n₀ ∧ ∀ j u, (hflat L)[j]? = some u → w.cell? ⟨b, off + j, none⟩ = some u) : Holds n₀ w a L := fun hl => by
  obtain ⟨b, off, e, hb, hc⟩ := h hl
  refine ⟨b, off, e, hb, fun i hi => ?_⟩
  obtain ⟨f0, f1, f2, f3⟩ := hflat_at L i hi
  have c0 := hc _ _ f0
  have c1 := hc _ _ f1
  have c2 := hc _ _ f2
  have c3 := hc _ _ f3
  try simp only [← Nat.add_assoc] at c0 c1 c2 c3
  exact ⟨c0, c1, c2, c3⟩

instance : Inhabited HoldR := ⟨⟨⟨#[]⟩, 0, 0, 0⟩⟩
section
variable {H : Type} {enc : TypeId × Value → H} {w : World} {base : Nat} {spare : Nat → Bool} {held : Bool}
theorem open_nums {fuel : Nat} {v : Value} {x : DataW H × List MemPlace} (h : DataW.trod enc Try.prog w base spare held fuel 25 [v] = some x) :
    ∃ (a : Option Addr) (cap : Nat) (L : List Int), v = .slice a L.length cap ∧ L.length ≤ cap ∧ cap ≤ maxLen ∧ (a = none → cap = 0) ∧ (∀ r ∈ L, (Lit.int .i64 r).wf = true) ∧ Nums w.heap.size w a L := by
  obtain ⟨a, cap, L, h1, h2, h3, h4, h5, h6⟩ := open_rows (P := Try.prog) (fun r : Int => [Value.int .i64 r]) 1 (fun r => (Lit.int .i64 r).wf = true) (by decide) (fun _ => rfl) Try.underlying25 (by kernel_rfl) (fun n cs' y hl ht => by
    obtain ⟨m, e, _, hw⟩ := DataW.trod_int Try.underlying3 ht
    exact ⟨m, e, hw⟩) h
  exact ⟨a, cap, L, h1, h2, h3, h4, h5, num_of_flat h6⟩
theorem open_spans {fuel : Nat} {v : Value} {x : DataW H × List MemPlace} (h : DataW.trod enc Try.prog w base spare held fuel 39 [v] = some x) :
    ∃ (a : Option Addr) (cap : Nat) (L : List (Int × Int)), v = .slice a L.length cap ∧ L.length ≤ cap ∧ cap ≤ maxLen ∧ (a = none → cap = 0) ∧ Spans w.heap.size w a L := by
  obtain ⟨a, cap, L, h1, h2, h3, h4, _, h6⟩ := open_rows (P := Try.prog) (fun r : Int × Int => [.int .i64 r.1, .int .i64 r.2]) 2 (fun _ => True) (by decide) (fun _ => rfl) Try.underlying39 (by kernel_rfl) (fun n cs' y hl ht => by
    obtain ⟨m, hf⟩ := elem_fields Try.underlying54 (by kernel_rfl) (by rw [hl]; rfl) ht
    obtain ⟨v0, z0, c0, t0⟩ := hf 0 _ rfl
    obtain ⟨v1, z1, c1, t1⟩ := hf 1 _ rfl
    obtain ⟨n0, e0, _, w0⟩ := DataW.trod_int Try.underlying3 t0
    obtain ⟨n1, e1, _, w1⟩ := DataW.trod_int Try.underlying3 t1
    simp only [List.cons.injEq, and_true] at e0 e1
    subst e0 e1
    match cs', hl with
    | [x0, x1], _ =>
      simp only [List.getElem?_cons_zero, List.getElem?_cons_succ, Option.some.injEq] at c0 c1
      subst c0 c1
      exact ⟨(n0, n1), rfl, trivial⟩) h
  exact ⟨a, cap, L, h1, h2, h3, h4, span_of_flat h6⟩
set_option maxRecDepth 100000 in
theorem open_frac {fuel : Nat} {cs : List Value} {x : DataW H × List MemPlace} (hl : cs.length = 2) (h : DataW.trod enc Try.prog w base spare held fuel 75 cs = some x) : ∃ n d : Int, cs = [.int .i64 n, .int .i64 d] := by
  obtain ⟨m, hf⟩ := elem_fields Try.underlying75 (by kernel_rfl) (by rw [hl]; rfl) h
  obtain ⟨v0, z0, c0, t0⟩ := hf 0 _ rfl
  obtain ⟨v1, z1, c1, t1⟩ := hf 1 _ rfl
  obtain ⟨n0, e0, _, w0⟩ := DataW.trod_int Try.underlying3 t0
  obtain ⟨n1, e1, _, w1⟩ := DataW.trod_int Try.underlying3 t1
  simp only [List.cons.injEq, and_true] at e0 e1
  subst e0 e1
  match cs, hl with
  | [x0, x1], _ =>
    simp only [List.getElem?_cons_zero, List.getElem?_cons_succ, Option.some.injEq] at c0 c1
    subst c0 c1
    exact ⟨n0, n1, rfl⟩
set_option maxRecDepth 100000 in
theorem open_holds {fuel : Nat} {v : Value} {x : DataW H × List MemPlace} (h : DataW.trod enc Try.prog w base spare held fuel 22 [v] = some x) :
    ∃ (a : Option Addr) (cap : Nat) (L : List HoldR), v = .slice a L.length cap ∧ L.length ≤ cap ∧ cap ≤ maxLen ∧ (a = none → cap = 0) ∧ Holds w.heap.size w a L := by
  obtain ⟨a, cap, L, h1, h2, h3, h4, _, h6⟩ := open_rows (P := Try.prog) (fun r : HoldR => [.string r.block, .int .i64 r.pulls, .int .i64 r.ln, .int .i64 r.ld]) 4 (fun _ => True) (by decide) (fun _ => rfl) Try.underlying22 (by kernel_rfl) (fun n cs' y hl ht => by
    obtain ⟨ys, m, _, _, _, hyl, hf⟩ := DataW.trod_struct Try.underlying78 ht
    have f0 : DataW.trod enc Try.prog w base spare held m 9 ((cs'.drop 0).take (Try.prog.cellsOf 9)) = ys[0]? := hf 0 _ rfl
    have f1 : DataW.trod enc Try.prog w base spare held m 3 ((cs'.drop 1).take (Try.prog.cellsOf 3)) = ys[1]? := hf 1 _ rfl
    have f2 : DataW.trod enc Try.prog w base spare held m 75 ((cs'.drop 2).take (Try.prog.cellsOf 75)) = ys[2]? := hf 2 _ rfl
    have C0 : Try.prog.cellsOf 9 = 1 := by kernel_rfl
    have C1 : Try.prog.cellsOf 3 = 1 := by kernel_rfl
    have C2 : Try.prog.cellsOf 75 = 2 := by kernel_rfl
    rw [C0] at f0
    rw [C1] at f1
    rw [C2] at f2
    match cs', hl, ys, hyl with
    | [x0, x1, x2, x3], _, [y0, y1, y2], _ =>
      obtain ⟨n0, e0, _, _⟩ := DataW.trod_string Try.underlying9 (cs := [x0]) (x := y0) f0
      obtain ⟨n1, e1, _, _⟩ := DataW.trod_int Try.underlying3 (cs := [x1]) (x := y1) f1
      obtain ⟨n2, n3, e2⟩ := open_frac (cs := [x2, x3]) (x := y2) rfl f2
      simp only [List.cons.injEq, and_true] at e0 e1 e2
      obtain ⟨e2, e3⟩ := e2
      subst e0 e1 e2 e3
      exact ⟨⟨n0, n1, n2, n3⟩, rfl, trivial⟩) h
  exact ⟨a, cap, L, h1, h2, h3, h4, hold_of_flat h6⟩
end
section
variable {H : Type} {enc : TypeId × Value → H} {W : World} {base : Nat}
set_option maxRecDepth 100000 in
theorem open_numsA {v : Value} {d : DataW H} {p : List MemPlace} (hv : Value.okWide Try.prog W .any base 25 v) (h : DataW.Trod enc Try.prog W 0 (fun _ => true) true 25 v d p) :
    ∃ (a : Option Addr) (cap : Nat) (L : List Int), v = .slice a L.length cap ∧ L.length ≤ cap ∧ cap ≤ maxLen ∧ (a = none → cap = 0) ∧ (∀ r ∈ L, (Lit.int .i64 r).wf = true) ∧ Nums W.heap.size W a L := by
  obtain ⟨a0, len0, cap0, rfl⟩ := okWide_slice Try.underlying25 hv
  obtain ⟨fuel, hf⟩ := h
  exact open_nums (v := .slice a0 len0 cap0) hf
set_option maxRecDepth 100000 in
theorem open_spansA {v : Value} {d : DataW H} {p : List MemPlace} (hv : Value.okWide Try.prog W .any base 39 v) (h : DataW.Trod enc Try.prog W 0 (fun _ => true) true 39 v d p) :
    ∃ (a : Option Addr) (cap : Nat) (L : List (Int × Int)), v = .slice a L.length cap ∧ L.length ≤ cap ∧ cap ≤ maxLen ∧ (a = none → cap = 0) ∧ Spans W.heap.size W a L := by
  obtain ⟨a0, len0, cap0, rfl⟩ := okWide_slice Try.underlying39 hv
  obtain ⟨fuel, hf⟩ := h
  exact open_spans (v := .slice a0 len0 cap0) hf
set_option maxRecDepth 100000 in
theorem open_rope {v : Value} {d : DataW H} {p : List MemPlace} (hv : Value.okWide Try.prog W .any base 24 v) (h : DataW.Trod enc Try.prog W 0 (fun _ => true) true 24 v d p) :
    ∃ (nm : ByteArray) (a : Option Addr) (cap : Nat) (L : List HoldR) (hd : Bool), v = .agg #[.string nm, .slice a L.length cap, .bool hd] ∧ L.length ≤ cap ∧ cap ≤ maxLen ∧ (a = none → cap = 0) ∧ Holds W.heap.size W a L := by
  obtain ⟨v0, v1, v2, y0, y1, y2, n, rfl, _, _, h0, h1, h2⟩ := open_agg3 Try.underlying24 (by kernel_rfl) (by kernel_rfl) hv h
  obtain ⟨nm, e0, _, _⟩ := DataW.trod_string Try.underlying9 h0
  obtain ⟨a, cap, L, rfl, c1, c2, c3, c4⟩ := open_holds h1
  obtain ⟨hd, e2, _⟩ := DataW.trod_bool Try.underlying4 h2
  simp only [List.cons.injEq, and_true] at e0 e2
  subst e0 e2
  exact ⟨nm, a, cap, L, hd, rfl, c1, c2, c3, c4⟩
end
end Go.Proofs.Ytfllfabinfmogaa
