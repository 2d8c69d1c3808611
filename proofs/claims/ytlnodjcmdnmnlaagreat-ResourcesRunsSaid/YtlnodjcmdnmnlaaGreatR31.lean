/-
  ARGUMENTS THAT CAME IN: slices of moves, of cues and of pairs; a sheet.
  THE STATEMENT ResourcesRunsSaid: at whatever arguments the law ResourcesRuns answers true, and each argument reads as it did. Conditions: none beyond the given row.
-/
import Derived.Lib.SmallJoins
import Derived.OpenShut
import Derived.Test.YtlnodjcmdnmnlaaGreatR30
import Derived.Test.YtlnodjcmdnmnlaaGreatR14
namespace Go.Proofs.YtlnodjcmdnmnlaaGreat
open Go.ChangeShapes Go.WideShapes Go.ChangeAt Go.WideMaps Go.WideElems Go.RowKit Go.Deep Go.Joins
instance : Inhabited Mv := ⟨⟨⟨#[]⟩, 0, 0, 0, 0⟩⟩
instance : Inhabited CueR := ⟨⟨⟨#[]⟩, ⟨#[]⟩, 0, 0, none, [], 0, 0, 0⟩⟩
theorem mov_of_flat {n₀ : Nat} {w : World} {a : Option Addr} {L : List Mv} (h : 0 < L.length → ∃ b off, a = some ⟨b, off, none⟩ ∧ b < n₀ ∧ ∀ j u, (mflat L)[j]? = some u → w.cell? ⟨b, off + j, none⟩ = some u) : Movs n₀ w a L := fun hl => by
 obtain ⟨b, off, e, hb, hc⟩ := h hl
 refine ⟨b, off, e, hb, fun i hi => ?_⟩
 obtain ⟨f0, f1, f2, f3, f4⟩ := mflat_at L i hi
 have c0 := hc _ _ f0
 have c1 := hc _ _ f1
 have c2 := hc _ _ f2
 have c3 := hc _ _ f3
 have c4 := hc _ _ f4
 try simp only [← Nat.add_assoc] at c0 c1 c2 c3 c4
 exact ⟨c0, c1, c2, c3, c4⟩
theorem pair_of_flat {n₀ : Nat} {w : World} {a : Option Addr} {L : List (ByteArray × ByteArray)} (h : 0 < L.length → ∃ b off, a = some ⟨b, off, none⟩ ∧ b < n₀ ∧ ∀ j u, (pflat L)[j]? = some u → w.cell? ⟨b, off + j, none⟩ = some u) : Pairs n₀ w a L := fun hl => by
 obtain ⟨b, off, e, hb, hc⟩ := h hl
 refine ⟨b, off, e, hb, fun i hi => ?_⟩
 obtain ⟨f0, f1⟩ := pflat_at L i hi
 have c0 := hc _ _ f0
 have c1 := hc _ _ f1
 try simp only [← Nat.add_assoc] at c0 c1
 exact ⟨c0, c1⟩

theorem cue_of_flat {n₀ : Nat} {w : World} {a : Option Addr} {L : List (CueR)} (h : 0 < L.length → ∃ b off, a = some ⟨b, off, none⟩ ∧ b < n₀ ∧ ∀ j u, (cflat L)[j]? = some u → w.cell? ⟨b, off + j, none⟩ = some u) : Cues n₀ w a L := fun hl => by
 obtain ⟨b, off, e, hb, hc⟩ := h hl
 refine ⟨b, off, e, hb, fun i hi => ?_⟩
 obtain ⟨f0, f1, f2, f3, f4, f5, f6⟩ := cflat_at L i hi
 have c0 := hc _ _ f0
 have c1 := hc _ _ f1
 have c2 := hc _ _ f2
 have c3 := hc _ _ f3
 have c4 := hc _ _ f4
 have c5 := hc _ _ f5
 have c6 := hc _ _ f6
 try simp only [← Nat.add_assoc] at c0 c1 c2 c3 c4 c5 c6
 exact ⟨c0, c1, c2, c3, c4, c5, c6⟩

section
variable {H : Type} {enc : TypeId × Value → H} {w : World} {base : Nat} {spare : Nat → Bool} {held : Bool}
set_option maxRecDepth 100000 in
theorem open_movs {fuel : Nat} {v : Value} {x : DataW H × List MemPlace} (h : DataW.trod enc Tryz.prog w base spare held fuel 47 [v] = some x) :
  ∃ (a : Option Addr) (cap : Nat) (L : List Mv), v = .slice a L.length cap ∧ L.length ≤ cap ∧ cap ≤ maxLen ∧ (a = none → cap = 0) ∧ Movs w.heap.size w a L := by
 obtain ⟨a, cap, L, h1, h2, h3, h4, _, h6⟩ := open_rows (P := Tryz.prog) (fun r : Mv => [.string r.name, .int .i64 r.to, .int .i64 r.spd, .int .i64 r.rise, .int .i64 r.fall]) 5 (fun _ => True) (by decide) (fun _ => rfl) Tryz.underlying47 (by kernel_rfl) (fun n cs' y hl ht => by
  obtain ⟨m, hf⟩ := elem_fields Tryz.underlying93 (by kernel_rfl) (by rw [hl]; rfl) ht
  obtain ⟨v0, z0, c0, t0⟩ := hf 0 _ rfl
  obtain ⟨v1, z1, c1, t1⟩ := hf 1 _ rfl
  obtain ⟨v2, z2, c2, t2⟩ := hf 2 _ rfl
  obtain ⟨v3, z3, c3, t3⟩ := hf 3 _ rfl
  obtain ⟨v4, z4, c4, t4⟩ := hf 4 _ rfl
  obtain ⟨n0, e0, _, _⟩ := DataW.trod_string Tryz.underlying9 t0
  obtain ⟨n1, e1, _, w1⟩ := DataW.trod_int Tryz.underlying3 t1
  obtain ⟨n2, e2, _, w2⟩ := DataW.trod_int Tryz.underlying3 t2
  obtain ⟨n3, e3, _, w3⟩ := DataW.trod_int Tryz.underlying3 t3
  obtain ⟨n4, e4, _, w4⟩ := DataW.trod_int Tryz.underlying3 t4
  simp only [List.cons.injEq, and_true] at e0 e1 e2 e3 e4
  subst e0 e1 e2 e3 e4
  match cs', hl with
  | [x0, x1, x2, x3, x4], _ =>
   simp only [List.getElem?_cons_zero, List.getElem?_cons_succ, Option.some.injEq] at c0 c1 c2 c3 c4
   subst c0 c1 c2 c3 c4
   exact ⟨⟨n0, n1, n2, n3, n4⟩, rfl, trivial⟩) h
 exact ⟨a, cap, L, h1, h2, h3, h4, mov_of_flat h6⟩
set_option maxRecDepth 100000 in
theorem open_pairs {fuel : Nat} {v : Value} {x : DataW H × List MemPlace} (h : DataW.trod enc Tryz.prog w base spare held fuel 27 [v] = some x) :
  ∃ (a : Option Addr) (cap : Nat) (L : List (ByteArray × ByteArray)), v = .slice a L.length cap ∧ L.length ≤ cap ∧ cap ≤ maxLen ∧ (a = none → cap = 0) ∧ Pairs w.heap.size w a L := by
 obtain ⟨a, cap, L, h1, h2, h3, h4, _, h6⟩ := open_rows (P := Tryz.prog) (fun r : ByteArray × ByteArray => [Value.string r.1, Value.string r.2]) 2 (fun _ => True) (by decide) (fun _ => rfl) Tryz.underlying27 (by kernel_rfl) (fun n cs' y hl ht => by
  obtain ⟨xs, m, _, _, _, hxl, hel⟩ := DataW.trod_array Tryz.underlying94 ht
  match cs', hl with
  | [c0, c1], _ =>
   have e0 := hel 0 (by decide)
   have e1 := hel 1 (by decide)
   have hC : Tryz.prog.cellsOf 9 = 1 := by kernel_rfl
   rw [hC] at e0 e1
   match xs, hxl with
   | [y0, y1], _ =>
    obtain ⟨s0, r0, _⟩ := DataW.trod_string Tryz.underlying9 (cs := [c0]) (x := y0) e0
    obtain ⟨s1, r1, _⟩ := DataW.trod_string Tryz.underlying9 (cs := [c1]) (x := y1) e1
    simp only [List.cons.injEq, and_true] at r0 r1
    subst r0 r1
    exact ⟨(s0, s1), rfl, trivial⟩) h
 exact ⟨a, cap, L, h1, h2, h3, h4, pair_of_flat h6⟩
def CueIn0 (w : World) (r : CueR) : Prop := Movs w.heap.size w r.ma r.moves ∧ r.moves.length ≤ r.mc ∧ (r.ma = none → r.mc = 0)
set_option maxRecDepth 100000 in
theorem open_cues {fuel : Nat} {v : Value} {x : DataW H × List MemPlace} (h : DataW.trod enc Tryz.prog w base spare held fuel 26 [v] = some x) :
  ∃ (a : Option Addr) (cap : Nat) (L : List CueR), v = .slice a L.length cap ∧ L.length ≤ cap ∧ cap ≤ maxLen ∧ (a = none → cap = 0) ∧ (∀ r ∈ L, CueIn0 w r) ∧ Cues w.heap.size w a L := by
 obtain ⟨a, cap, L, h1, h2, h3, h4, h5, h6⟩ := open_rows (P := Tryz.prog) (fun r : CueR => [.string r.name, .string r.after, .int .i64 r.link, .int .i64 r.delay, .slice r.ma r.moves.length r.mc, .int .i64 r.crew, .int .i64 r.power]) 7 (fun r => CueIn0 w r) (by decide) (fun _ => rfl) Tryz.underlying26 (by kernel_rfl) (fun n cs' y hl ht => by
  obtain ⟨m, hf⟩ := elem_fields Tryz.underlying49 (by kernel_rfl) (by rw [hl]; rfl) ht
  obtain ⟨v0, z0, c0, t0⟩ := hf 0 _ rfl
  obtain ⟨v1, z1, c1, t1⟩ := hf 1 _ rfl
  obtain ⟨v2, z2, c2, t2⟩ := hf 2 _ rfl
  obtain ⟨v3, z3, c3, t3⟩ := hf 3 _ rfl
  obtain ⟨v4, z4, c4, t4⟩ := hf 4 _ rfl
  obtain ⟨v5, z5, c5, t5⟩ := hf 5 _ rfl
  obtain ⟨v6, z6, c6, t6⟩ := hf 6 _ rfl
  obtain ⟨n0, e0, _, w0⟩ := DataW.trod_string Tryz.underlying9 t0
  obtain ⟨n1, e1, _, w1⟩ := DataW.trod_string Tryz.underlying9 t1
  obtain ⟨n2, e2, _, w2⟩ := DataW.trod_int Tryz.underlying3 t2
  obtain ⟨n3, e3, _, w3⟩ := DataW.trod_int Tryz.underlying3 t3
  obtain ⟨n5, e5, _, w5⟩ := DataW.trod_int Tryz.underlying3 t5
  obtain ⟨n6, e6, _, w6⟩ := DataW.trod_int Tryz.underlying3 t6
  obtain ⟨a4, k4, M, rfl, m1, m2, m3, m4⟩ := open_movs t4
  simp only [List.cons.injEq, and_true] at e0 e1 e2 e3 e5 e6
  subst e0 e1 e2 e3 e5 e6
  match cs', hl with
  | [x0, x1, x2, x3, x4, x5, x6], _ =>
   simp only [List.getElem?_cons_zero, List.getElem?_cons_succ, Option.some.injEq] at c0 c1 c2 c3 c4 c5 c6
   subst c0 c1 c2 c3 c4 c5 c6
   exact ⟨⟨n0, n1, n2, n3, a4, M, k4, n5, n6⟩, rfl, ⟨m4, m1, m3⟩⟩) h
 exact ⟨a, cap, L, h1, h2, h3, h4, h5, cue_of_flat h6⟩
end
section
variable {H : Type} {enc : TypeId × Value → H} {W : World} {base : Nat}
set_option maxRecDepth 100000 in
theorem open_sheet {v : Value} {d : DataW H} {p : List MemPlace} (hv : Value.okWide Tryz.prog W .any base 29 v) (h : DataW.Trod enc Tryz.prog W 0 (fun _ => true) true 29 v d p) :
  ∃ s : SheetR, v = .agg #[.slice s.ca s.cues.length s.cc, .slice s.pa s.pairs.length s.pc] ∧ SheetIn0 W s := by
 obtain ⟨v0, v1, y0, y1, n, rfl, _, _, h0, h1⟩ := open_agg2 Tryz.underlying29 (by kernel_rfl) (by kernel_rfl) hv h
 obtain ⟨ca, cc, L, rfl, c1, c2, c3, c4, c5⟩ := open_cues h0
 obtain ⟨pa, pc, A, rfl, p1, p2, p3, p4⟩ := open_pairs h1
 have hm : ∀ i, i < L.length → CueIn0 W (cg L i) := fun i hi => c4 _ (by rw [cg_eq L i hi]; exact List.getElem_mem hi)
 exact ⟨⟨ca, L, cc, pa, A, pc⟩, rfl, ⟨c5, fun i hi => (hm i hi).1, p4, c1, c3, fun i hi => (hm i hi).2.1, fun i hi => (hm i hi).2.2, p1, p3⟩⟩
end
end Go.Proofs.YtlnodjcmdnmnlaaGreat
namespace Go.Proofs.YtlnodjcmdnmnlaaGreat
open Go.ChangeShapes Go.WideShapes Go.ChangeAt Go.WideMaps Go.WideElems Go.RowKit
open Go.ChangeMaps (open_string shut_string)
theorem u32_bd {n : Int} (h : (Lit.int .u32 n).wf = true) : 0 ≤ n ∧ n ≤ 4294967295 := by
 have e : IntKind.u32.min ≤ n ∧ n ≤ IntKind.u32.max := by simpa [Lit.wf] using h
 exact e
set_option maxRecDepth 100000 in
theorem resourcesRuns_lifted (os : Os) (started : os.Started) (H : Type) (enc : TypeId × Value → H) :
  ReturnsInHanded {} Tryz.checked os 4 .any (Rows.resourcesRunsSpec.pre6 enc Tryz.prog Tryz.f4 Rows.resourcesRunsRow.domain false) (Rows.resourcesRunsSpec.post enc Tryz.prog Tryz.f4 false true false false) := by
 refine returnsInHanded_of_change (C := Tryz.checked) own started (by kernel_rfl) Tryz.func4
  (ChangeSpec.witness6 (enc := enc) (C := Tryz.checked) false ⟨#[], #[.agg #[.string ⟨#[]⟩, .int .i64 0, .slice none 0 0, .slice none 0 0], .agg #[.slice none 0 0, .slice none 0 0], .slice none 0 0, .int .u32 0], []⟩ 8 (by kernel_rfl) (by kernel_rfl) (by kernel_rfl) (by kernel_rfl)) ?_
 intro W base args ds gs before hval0 hW hcnd _
 have hval : ∀ (j : Nat) t v, Tryz.f4.params[j]? = some t → args[j]? = some v → Value.okWide Tryz.prog W .any base t v := hval0
 have hW' := hW
 obtain ⟨p, q, hA0, hV, rfl, hfz, hnd⟩ := hW
 have hA : DataW.TrodAll enc Tryz.prog W 0 (fun _ => true) true Tryz.f4.params.toList args.toList ds p := hA0
 rw [Tryz.params4] at hA hval
 obtain ⟨v0, vs0, d0, ds0, p0, q0, hargs, rfl, rfl, h0, r0⟩ := trodAll_cons hA
 obtain ⟨v1, vs1, d1, ds1, p1, q1, rfl, rfl, rfl, h1, r1⟩ := trodAll_cons r0
 obtain ⟨v2, vs2, d2, ds2, p2, q2, rfl, rfl, rfl, h2, r2⟩ := trodAll_cons r1
 obtain ⟨v3, vs3, d3, ds3, p3, q3, rfl, rfl, rfl, h3, r3⟩ := trodAll_cons r2
 obtain ⟨rfl, rfl, rfl⟩ := trodAll_nil r3
 obtain rfl : args = #[v0, v1, v2, v3] := by cases args; simp_all
 obtain ⟨rfl, rfl⟩ := trodVars_none hV
 obtain ⟨h, rfl, hS0⟩ := open_house (hval 0 25 v0 rfl rfl) h0
 obtain ⟨s, rfl, hS1⟩ := open_sheet (hval 1 29 v1 rfl rfl) h1
 obtain ⟨ga, gc, g, rfl, hc2, hm2, hn2, hw2, hS2⟩ := open_numsA (hval 2 30 v2 rfl rfl) h2
 obtain ⟨m, rfl, rfl, rfl, w3⟩ := open_int Tryz.underlying42 (hval 3 42 v3 rfl rfl) h3
 clear hA0 hval0
 simp only [List.append_nil] at hW'
 refine (lawruns_law h s ga g gc m (u32_bd w3).1 (u32_bd w3).2 W hS0 hS1 hS2).mono fun e W' ⟨he, hb⟩ => ?_
 subst he
 exact ⟨_, rfl, law_post laidOut (by kernel_rfl) hW' rfl rfl (by kernel_rfl) Tryz.underlying4 hb⟩

theorem resourcesRuns_holds : Rows.ResourcesRunsSaid :=
 OpenClaim.holds_of_wide 4 Tryz.f4 rfl rfl rfl rfl rfl rfl rfl ⟨rfl, rfl, rfl, rfl, rfl⟩ rfl rfl rfl rfl rfl (by kernel_rfl) Tryz.func4 (by kernel_rfl)
  (of_decide_eq_true (by kernel_rfl)) (by unfold Func.isWrapper; first | (rw [if_pos (by decide +kernel)]; kernel_rfl) | (rw [if_neg (by decide +kernel)]; exact ⟨rfl, rfl⟩))
  (fun os started H enc _ => resourcesRuns_lifted os started H enc)
end Go.Proofs.YtlnodjcmdnmnlaaGreat
