/-
  ARGUMENTS THAT CAME IN: a move.
-/
import Derived.Test.YtbgkgahmicepdaaGreatP30
namespace Go.Proofs.YtbgkgahmicepdaaGreat
set_option maxRecDepth 100000
set_option maxHeartbeats 80000000
section
open Go.ChangeShapes Go.WideShapes Go.ChangeAt Go.WideMaps Go.WideElems Go.RowKit Go.Deep Go.Joins
section
variable {H : Type} {enc : TypeId × Value → H} {W : World} {base : Nat}
theorem open_move {v : Value} {d : DataW H} {p : List MemPlace} (hv : Value.okWide Tryz.prog W .any base 27 v) (h : DataW.Trod enc Tryz.prog W 0 (fun _ => true) true 27 v d p) :
  ∃ m : Mv, v = .agg #[.string m.name, .int .i64 m.to, .int .i64 m.spd, .int .i64 m.rise, .int .i64 m.fall] := by
 obtain ⟨cs, rfl, hsz⟩ := okWide_struct Tryz.underlying27 hv;have hsz : cs.size = 5 := hsz.trans (by kernel_rfl);obtain ⟨fuel, hf⟩ := h;obtain ⟨k, hk⟩ := elem_fields (cs' := cs.toList) Tryz.underlying27 (by kernel_rfl) (by rw [Array.length_toList, hsz]; rfl) hf;obtain ⟨v0, z0, c0, t0⟩ := hk 0 _ rfl;obtain ⟨v1, z1, c1, t1⟩ := hk 1 _ rfl;obtain ⟨v2, z2, c2, t2⟩ := hk 2 _ rfl;obtain ⟨v3, z3, c3, t3⟩ := hk 3 _ rfl;obtain ⟨v4, z4, c4, t4⟩ := hk 4 _ rfl;obtain ⟨n0, e0, _, w0⟩ := DataW.trod_string Tryz.underlying9 t0;obtain ⟨n1, e1, _, w1⟩ := DataW.trod_int Tryz.underlying3 t1;obtain ⟨n2, e2, _, w2⟩ := DataW.trod_int Tryz.underlying3 t2;obtain ⟨n3, e3, _, w3⟩ := DataW.trod_int Tryz.underlying3 t3;obtain ⟨n4, e4, _, w4⟩ := DataW.trod_int Tryz.underlying3 t4;simp only [List.cons.injEq, and_true] at e0 e1 e2 e3 e4;subst e0 e1 e2 e3 e4;obtain ⟨l⟩ := cs
 match l, hsz with
 | [x0, x1, x2, x3, x4], _ =>
  simp only [List.getElem?_cons_zero, List.getElem?_cons_succ, Option.some.injEq] at c0 c1 c2 c3 c4;subst c0 c1 c2 c3 c4;exact ⟨⟨n0, n1, n2, n3, n4⟩, rfl⟩
end
end
section
open Go.ChangeShapes Go.WideShapes Go.ChangeAt Go.WideMaps Go.WideElems Go.RowKit
open Go.ChangeMaps (open_string shut_string)
theorem movePaths_lifted (os : Os) (started : os.Started) (H : Type) (enc : TypeId × Value → H) :
  ReturnsInHanded {} Tryz.checked os 4 .any (Rows.movePathsSpec.pre6 enc Tryz.prog Tryz.f4 Rows.movePathsRow.domain false) (Rows.movePathsSpec.post enc Tryz.prog Tryz.f4 false true false false) := by
 refine returnsInHanded_of_change (C := Tryz.checked) own started (by kernel_rfl) Tryz.func4
  (ChangeSpec.witness6 (enc := enc) (C := Tryz.checked) false ⟨#[], #[.agg #[.string ⟨#[]⟩, .int .i64 0, .slice none 0 0, .slice none 0 0], .int .i64 0, .agg #[.string ⟨#[]⟩, .int .i64 0, .int .i64 0, .int .i64 0, .int .i64 0]], []⟩ 8 (by kernel_rfl) (by kernel_rfl) (by kernel_rfl) (by kernel_rfl)) ?_
 intro W base args ds gs before hval0 hW hcnd _;have hval : ∀ (j : Nat) t v, Tryz.f4.params[j]? = some t → args[j]? = some v → Value.okWide Tryz.prog W .any base t v := hval0;have hW' := hW;obtain ⟨p, q, hA0, hV, rfl, hfz, hnd⟩ := hW;have hA : DataW.TrodAll enc Tryz.prog W 0 (fun _ => true) true Tryz.f4.params.toList args.toList ds p := hA0;rw [Tryz.params4] at hA hval;obtain ⟨v0, vs0, d0, ds0, p0, q0, hargs, rfl, rfl, h0, r0⟩ := trodAll_cons hA;obtain ⟨v1, vs1, d1, ds1, p1, q1, rfl, rfl, rfl, h1, r1⟩ := trodAll_cons r0;obtain ⟨v2, vs2, d2, ds2, p2, q2, rfl, rfl, rfl, h2, r2⟩ := trodAll_cons r1;obtain ⟨rfl, rfl, rfl⟩ := trodAll_nil r2;obtain rfl : args = #[v0, v1, v2] := by cases args; simp_all
 obtain ⟨rfl, rfl⟩ := trodVars_none hV;obtain ⟨h, rfl, hS0⟩ := open_house (hval 0 25 v0 rfl rfl) h0;obtain ⟨f, rfl, rfl, rfl, w1⟩ := open_int Tryz.underlying3 (hval 1 3 v1 rfl rfl) h1;obtain ⟨m, rfl⟩ := open_move (hval 2 27 v2 rfl rfl) h2;clear hA0 hval0;simp only [List.append_nil] at hW';refine (lawpaths_law h f m W hS0).mono fun e W' ⟨he, hb⟩ => ?_;subst he;exact ⟨_, rfl, law_post laidOut (by kernel_rfl) hW' rfl rfl (by kernel_rfl) Tryz.underlying4 hb⟩

theorem movePaths_holds : Rows.MovePathsSaid :=
 OpenClaim.holds_of_wide 4 Tryz.f4 rfl rfl rfl rfl rfl rfl rfl ⟨rfl, rfl, rfl, rfl, rfl⟩ rfl rfl rfl rfl rfl (by kernel_rfl) Tryz.func4 (by kernel_rfl)
  (of_decide_eq_true (by kernel_rfl)) (by unfold Func.isWrapper; first | (rw [if_pos (by decide +kernel)]; kernel_rfl) | (rw [if_neg (by decide +kernel)]; exact ⟨rfl, rfl⟩))
  (fun os started H enc _ => movePaths_lifted os started H enc)
end
end Go.Proofs.YtbgkgahmicepdaaGreat
