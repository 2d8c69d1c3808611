/-
  ARGUMENTS THAT CAME IN: a slice of numbers; a sheet.
-/
import Derived.Test.YtapjhjpibefooaaOpen
import Derived.Test.YtapjhjpibefooaaApp
import Derived.Lib.SmallJoins
import Derived.OpenShut
namespace Go.Proofs.Ytapjhjpibefooaa
open Go.ChangeShapes Go.WideShapes Go.ChangeAt Go.WideMaps Go.WideElems Go.RowKit Go.Deep Go.Joins

theorem num_of_flat {n₀ : Nat} {w : World} {a : Option Addr} {L : List (Int)} (h : 0 < L.length → ∃ b off, a = some ⟨b, off, none⟩ ∧ b < n₀ ∧ ∀ j u, (nflat L)[j]? = some u → w.cell? ⟨b, off + j, none⟩ = some u) : Nums n₀ w a L := fun hl => by
  obtain ⟨b, off, e, hb, hc⟩ := h hl
  refine ⟨b, off, e, hb, fun i hi => ?_⟩
  have f0 := nflat_at L i hi
  have c0 := hc _ _ f0
  try simp only [← Nat.add_assoc] at c0
  exact c0

theorem pair_of_flat {n₀ : Nat} {w : World} {a : Option Addr} {L : List (ByteArray × ByteArray)} (h : 0 < L.length → ∃ b off, a = some ⟨b, off, none⟩ ∧ b < n₀ ∧ ∀ j u, (pflat L)[j]? = some u → w.cell? ⟨b, off + j, none⟩ = some u) : Pairs n₀ w a L := fun hl => by
  obtain ⟨b, off, e, hb, hc⟩ := h hl
  refine ⟨b, off, e, hb, fun i hi => ?_⟩
  obtain ⟨f0, f1⟩ := pflat_at L i hi
  have c0 := hc _ _ f0
  have c1 := hc _ _ f1
  try simp only [← Nat.add_assoc] at c0 c1
  exact ⟨c0, c1⟩

theorem cue_of_flat {n₀ : Nat} {w : World} {a : Option Addr} {L : List (CueR)} (h : 0 < L.length → ∃ b off, a = some ⟨b, off, none⟩ ∧ b < n₀ ∧ ∀ j u, (cflat L)[j]? = some u → w.cell? ⟨b, off + j, none⟩ = some u) : Cues n₀ w a L := fun hl => by
  obtain ⟨b, off, e, hb, hc⟩ := h hl
  refine ⟨b, off, e, hb, fun i hi => ?_⟩
  obtain ⟨f0, f1, f2, f3, f4, f5, f6⟩ := cflat_at L i hi
  have c0 := hc _ _ f0
  have c1 := hc _ _ f1
  have c2 := hc _ _ f2
  have c3 := hc _ _ f3
  have c4 := hc _ _ f4
  have c5 := hc _ _ f5
  have c6 := hc _ _ f6
  try simp only [← Nat.add_assoc] at c0 c1 c2 c3 c4 c5 c6
  exact ⟨c0, c1, c2, c3, c4, c5, c6⟩

instance : Inhabited CueR := ⟨⟨⟨#[]⟩, ⟨#[]⟩, 0, 0, none, 0, 0, 0, 0⟩⟩
section
variable {H : Type} {enc : TypeId × Value → H} {w : World} {base : Nat} {spare : Nat → Bool} {held : Bool}
theorem open_nums {fuel : Nat} {v : Value} {x : DataW H × List MemPlace} (h : DataW.trod enc Try.prog w base spare held fuel 26 [v] = some x) :
    ∃ (a : Option Addr) (cap : Nat) (L : List Int), v = .slice a L.length cap ∧ L.length ≤ cap ∧ cap ≤ maxLen ∧ (a = none → cap = 0) ∧ (∀ r ∈ L, (Lit.int .i64 r).wf = true) ∧ Nums w.heap.size w a L := by
  obtain ⟨a, cap, L, h1, h2, h3, h4, h5, h6⟩ := open_rows (P := Try.prog) (fun r : Int => [Value.int .i64 r]) 1 (fun r => (Lit.int .i64 r).wf = true) (by decide) (fun _ => rfl) Try.underlying26 (by kernel_rfl) (fun n cs' y hl ht => by
    obtain ⟨m, e, _, hw⟩ := DataW.trod_int Try.underlying3 ht
    exact ⟨m, e, hw⟩) h
  exact ⟨a, cap, L, h1, h2, h3, h4, h5, num_of_flat h6⟩
theorem open_pairs {fuel : Nat} {v : Value} {x : DataW H × List MemPlace} (h : DataW.trod enc Try.prog w base spare held fuel 23 [v] = some x) :
    ∃ (a : Option Addr) (cap : Nat) (L : List (ByteArray × ByteArray)), v = .slice a L.length cap ∧ L.length ≤ cap ∧ cap ≤ maxLen ∧ (a = none → cap = 0) ∧ Pairs w.heap.size w a L := by
  obtain ⟨a, cap, L, h1, h2, h3, h4, _, h6⟩ := open_rows (P := Try.prog) (fun r : ByteArray × ByteArray => [Value.string r.1, Value.string r.2]) 2 (fun _ => True) (by decide) (fun _ => rfl) Try.underlying23 (by kernel_rfl) (fun n cs' y hl ht => by
    obtain ⟨xs, m, _, _, _, hxl, hel⟩ := DataW.trod_array Try.underlying52 ht
    match cs', hl with
    | [c0, c1], _ =>
      have e0 := hel 0 (by decide)
      have e1 := hel 1 (by decide)
      have hC : Try.prog.cellsOf 9 = 1 := by kernel_rfl
      rw [hC] at e0 e1
      match xs, hxl with
      | [y0, y1], _ =>
        obtain ⟨s0, r0, _⟩ := DataW.trod_string Try.underlying9 (cs := [c0]) (x := y0) e0
        obtain ⟨s1, r1, _⟩ := DataW.trod_string Try.underlying9 (cs := [c1]) (x := y1) e1
        simp only [List.cons.injEq, and_true] at r0 r1
        subst r0 r1
        exact ⟨(s0, s1), rfl, trivial⟩) h
  exact ⟨a, cap, L, h1, h2, h3, h4, pair_of_flat h6⟩
theorem open_cues {fuel : Nat} {v : Value} {x : DataW H × List MemPlace} (h : DataW.trod enc Try.prog w base spare held fuel 22 [v] = some x) :
    ∃ (a : Option Addr) (cap : Nat) (L : List CueR), v = .slice a L.length cap ∧ L.length ≤ cap ∧ cap ≤ maxLen ∧ (a = none → cap = 0) ∧ (∀ r ∈ L, (Lit.int .i64 r.delay).wf = true) ∧ Cues w.heap.size w a L := by
  obtain ⟨a, cap, L, h1, h2, h3, h4, h5, h6⟩ := open_rows (P := Try.prog) (fun r : CueR => [.string r.name, .string r.after, .int .i64 r.link, .int .i64 r.delay, .slice r.ma r.ml r.mc, .int .i64 r.crew, .int .i64 r.power]) 7 (fun r => (Lit.int .i64 r.delay).wf = true) (by decide) (fun _ => rfl) Try.underlying22 (by kernel_rfl) (fun n cs' y hl ht => by
    obtain ⟨m, hf⟩ := elem_fields Try.underlying56 (by kernel_rfl) (by rw [hl]; rfl) ht
    obtain ⟨v0, z0, c0, t0⟩ := hf 0 _ rfl
    obtain ⟨v1, z1, c1, t1⟩ := hf 1 _ rfl
    obtain ⟨v2, z2, c2, t2⟩ := hf 2 _ rfl
    obtain ⟨v3, z3, c3, t3⟩ := hf 3 _ rfl
    obtain ⟨v4, z4, c4, t4⟩ := hf 4 _ rfl
    obtain ⟨v5, z5, c5, t5⟩ := hf 5 _ rfl
    obtain ⟨v6, z6, c6, t6⟩ := hf 6 _ rfl
    obtain ⟨n0, e0, _, w0⟩ := DataW.trod_string Try.underlying9 t0
    obtain ⟨n1, e1, _, w1⟩ := DataW.trod_string Try.underlying9 t1
    obtain ⟨n2, e2, _, w2⟩ := DataW.trod_int Try.underlying3 t2
    obtain ⟨n3, e3, _, w3⟩ := DataW.trod_int Try.underlying3 t3
    obtain ⟨a4, l4, k4, e4⟩ := field_slice Try.underlying54 t4
    obtain ⟨n5, e5, _, w5⟩ := DataW.trod_int Try.underlying3 t5
    obtain ⟨n6, e6, _, w6⟩ := DataW.trod_int Try.underlying3 t6
    simp only [List.cons.injEq, and_true] at e0 e1 e2 e3 e5 e6
    subst e0 e1 e2 e3 e4 e5 e6
    match cs', hl with
    | [x0, x1, x2, x3, x4, x5, x6], _ =>
      simp only [List.getElem?_cons_zero, List.getElem?_cons_succ, Option.some.injEq] at c0 c1 c2 c3 c4 c5 c6
      subst c0 c1 c2 c3 c4 c5 c6
      exact ⟨⟨n0, n1, n2, n3, a4, l4, k4, n5, n6⟩, rfl, w3⟩) h
  exact ⟨a, cap, L, h1, h2, h3, h4, h5, cue_of_flat h6⟩
end
section
variable {H : Type} {enc : TypeId × Value → H} {W : World} {base : Nat}
theorem open_numsA {v : Value} {d : DataW H} {p : List MemPlace} (hv : Value.okWide Try.prog W .any base 26 v) (h : DataW.Trod enc Try.prog W 0 (fun _ => true) true 26 v d p) :
    ∃ (a : Option Addr) (cap : Nat) (L : List Int), v = .slice a L.length cap ∧ L.length ≤ cap ∧ cap ≤ maxLen ∧ (a = none → cap = 0) ∧ (∀ r ∈ L, (Lit.int .i64 r).wf = true) ∧ Nums W.heap.size W a L := by
  obtain ⟨a0, len0, cap0, rfl⟩ := okWide_slice Try.underlying26 hv
  obtain ⟨fuel, hf⟩ := h
  exact open_nums (v := .slice a0 len0 cap0) hf
theorem open_sheet {v : Value} {d : DataW H} {p : List MemPlace} (hv : Value.okWide Try.prog W .any base 25 v) (h : DataW.Trod enc Try.prog W 0 (fun _ => true) true 25 v d p) :
    ∃ (ca : Option Addr) (cc : Nat) (L : List CueR) (pa : Option Addr) (pc : Nat) (A : List (ByteArray × ByteArray)), v = .agg #[.slice ca L.length cc, .slice pa A.length pc] ∧ L.length ≤ cc ∧ cc ≤ maxLen ∧ (ca = none → cc = 0) ∧ (∀ r ∈ L, (Lit.int .i64 r.delay).wf = true) ∧ Cues W.heap.size W ca L ∧ A.length ≤ pc ∧ pc ≤ maxLen ∧ (pa = none → pc = 0) ∧ Pairs W.heap.size W pa A := by
  obtain ⟨v0, v1, y0, y1, n, rfl, _, _, h0, h1⟩ := open_agg2 Try.underlying25 (by kernel_rfl) (by kernel_rfl) hv h
  obtain ⟨ca, cc, L, rfl, c1, c2, c3, c4, c5⟩ := open_cues h0
  obtain ⟨pa, pc, A, rfl, p1, p2, p3, p4⟩ := open_pairs h1
  exact ⟨ca, cc, L, pa, pc, A, rfl, c1, c2, c3, c4, c5, p1, p2, p3, p4⟩
end
end Go.Proofs.Ytapjhjpibefooaa
