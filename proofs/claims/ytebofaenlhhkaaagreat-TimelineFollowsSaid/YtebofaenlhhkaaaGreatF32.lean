/-
  FROM A WALK TO A ROW: a law that answers true and turns nothing that was there meets its row's post: each argument reads behind the call as it read before. Over any row of this seat.
-/
import Derived.ProofKit
import Derived.OpenShut
import Derived.ChangeSame
import Derived.Carry
import Derived.RowKit
import Derived.Deep.Slices
import Derived.Deep.Fields
import Derived.Lib.SmallJoins
import Derived.Test.YtebofaenlhhkaaaGreatF31
namespace Go.Proofs.YtebofaenlhhkaaaGreat
set_option maxRecDepth 100000
set_option maxHeartbeats 80000000
section
open Go.ChangeShapes Go.WideShapes Go.ChangeAt Go.WideMaps Go.WideElems Go.RowKit
theorem own : ownKnob Tryz.prog.godebug = none := by kernel_rfl
theorem laidOut : laidOutB Tryz.prog = true := by kernel_rfl

section
variable {H : Type} {enc : TypeId × Value → H} {P : Program}
theorem post_of_below {f : Func} {s : ChangeSpec} {apart fresh handsOn again : Bool} {W W' : World} {args : Array Value} {v : Value} {ds gs : List (DataW H)} {before pa pv : List MemPlace}
  (hW : DataW.Whole enc P f.params.toList s.vars apart W args.toList ds gs before)
  (hres : ∀ (b : Nat) (sp : Nat → Bool) (hd : Bool), DataW.TrodAll enc P W' b sp hd f.resultTypes.toList (v.resultList f.resultTypes.size) (s.fn H (ds ++ gs)).results [])
  (hargs : ∀ sp : Nat → Bool, (∀ p ∈ before, sp p.block = true) → DataW.TrodAll enc P W' 0 sp true f.params.toList args.toList (s.fn H (ds ++ gs)).args pa)
  (hvars : ∀ sp : Nat → Bool, (∀ p ∈ before, sp p.block = true) → DataW.TrodVars enc P W' sp s.vars (s.fn H (ds ++ gs)).vars pv)
  (hps : before = pa ++ pv) (hb : Below W.heap.size W W')
  (hok : ∀ (j : Nat) (t : TypeId) (r : Value), f.resultTypes[j]? = some t → (v.resultList f.resultTypes.size)[j]? = some r → Value.okWide P W' .any 0 t r) :
  s.post enc P f apart fresh handsOn again W args v W' := by
 have hlt : ∀ p ∈ before, p.block < W.heap.size := fun p hp => hW.lt p hp;have hold : ∀ p ∈ before, (fun b => decide (b < W.heap.size)) p.block = true := fun p hp => by simpa using hlt p hp
 refine ⟨ds, gs, before, [], pa, pv, hW, hres _ _ _, hargs _ hold, hvars _ hold, World.keptBut_mono (fun p hp => ⟨hp, ?_⟩) (hb.frame (· ∈ before)), fun _ => ?_⟩
 ·rw [hps, List.mem_append] at hp
  exact Or.inr hp
 ·obtain ⟨_, _, _, _, _, hz, hn⟩ := hW
  refine ⟨hok, _, _, ([] ++ pa) ++ pv, ⟨[] ++ pa, pv, trodAll_append (hargs _ (fun _ _ => rfl)) (hres _ _ _), hvars _ (fun _ _ => rfl), rfl, ?_, ?_⟩, ?_⟩
  ·intro b off hp
   have hin : MemPlace.cell b off ∈ before := by rw [hps]; simpa using hp
   rw [hb.frozen (hlt _ hin)];exact hz b off hin
  ·intro ha
   have := hn ha;rw [hps] at this
   simpa using this
  ·intro p hp _
   rw [hps]
   simpa using hp

theorem trodAll_below (hl : laidOutB P = true) {W W' : World} (hb : Below W.heap.size W W') (sp : Nat → Bool) :
  ∀ {ts : List TypeId} {vs : List Value} {ds : List (DataW H)} {ps : List MemPlace}, (ts.all fun t => P.readableRec t && decide (t < P.types.size)) = true → DataW.TrodAll enc P W 0 (fun _ => true) true ts vs ds ps →
   (∀ x ∈ ps, x.block < W.heap.size) → (∀ x ∈ ps, sp x.block = true) → DataW.TrodAll enc P W' 0 sp true ts vs ds ps
 | [], [], [], _, _, h, _, _ => h
 | t :: ts, v :: vs, d :: ds, _, ht, ⟨p, q, h0, h1, rfl⟩, hlt, hsp => by
  simp only [List.all_cons, Bool.and_eq_true, decide_eq_true_eq] at ht
  exact ⟨p, q, WideElems.Trod_stays hl ht.1.1 ht.1.2 h0 (fun x hx => hb.same (hlt x (List.mem_append.2 (.inl hx)))) (fun x hx => hsp x (List.mem_append.2 (.inl hx))),
   trodAll_below hl hb sp (by simpa using ht.2) h1 (fun x hx => hlt x (List.mem_append.2 (.inr hx))) (fun x hx => hsp x (List.mem_append.2 (.inr hx))), rfl⟩
 | [], [], _ :: _, _, _, h, _, _ => h.elim
 | [], _ :: _, _, _, _, h, _, _ => h.elim
 | _ :: _, [], _, _, _, h, _, _ => h.elim
 | _ :: _, _ :: _, [], _, _, h, _, _ => h.elim

theorem law_post {f : Func} {s : ChangeSpec} {apart fresh handsOn again : Bool} {W W' : World} {args : Array Value} {ds gs : List (DataW H)} {before : List MemPlace} {tb : TypeId}
  (hl : laidOutB P = true) (hr : (f.params.toList.all fun t => P.readableRec t && decide (t < P.types.size)) = true) (hW : DataW.Whole enc P f.params.toList s.vars apart W args.toList ds gs before)
  (hv : s.vars = []) (hfn : s.fn H (ds ++ gs) = { results := [.lit (.bool true)], args := ds }) (ht : f.resultTypes = #[tb]) (hu : P.underlying tb = some .bool) (hb : Below W.heap.size W W') :
  s.post enc P f apart fresh handsOn again W args (.bool true) W' := by
 have hlt : ∀ p ∈ before, p.block < W.heap.size := fun p hp => hW.lt p hp;have hW2 := hW;obtain ⟨p, q, hA, hV, hpq, _, _⟩ := hW;have hV' := hV;rw [hv] at hV';obtain ⟨rfl, rfl⟩ := trodVars_none hV';have hpp : before = p := by rw [hpq, List.append_nil]
 refine post_of_below (pa := before) (pv := []) hW2 ?_ ?_ ?_ (by simp) hb ?_
 ·intro b sp hd
  rw [hfn, ht];exact trodAll_mk1 (shut_bool hu _)
 ·intro sp hsp
  rw [hfn];exact trodAll_below hl hb sp hr (by rw [hpp]; exact hA) hlt hsp
 ·intro sp hsp
  rw [hfn, hv]
  rfl
 ·intro j t r hj hrr
  rw [ht] at hj hrr;exact ok_one ht rfl (okWide_bool_mk hu _) j t r (by rw [ht]; exact hj) (by rw [ht]; exact hrr)
end
end
section
open Go.ChangeShapes Go.WideShapes Go.ChangeAt Go.WideMaps Go.WideElems Go.RowKit Go.Deep
theorem flatMap_get {X : Type} (cells : X → List Value) (size : Nat) (hlen : ∀ r, (cells r).length = size) : ∀ (L : List X) (j : Nat) (u : Value), (L.flatMap cells)[j]? = some u → ∃ i k r, j = i * size + k ∧ L[i]? = some r ∧ (cells r)[k]? = some u
 | [], j, u, h => by simp at h
 | x :: l, j, u, h => by
  rw [List.flatMap_cons, List.getElem?_append] at h
  split at h
  ·exact ⟨0, j, x, by omega, rfl, h⟩
  ·next hj =>
   rw [hlen] at h hj;obtain ⟨i, k, r, e, h1, h2⟩ := flatMap_get cells size hlen l _ u h;exact ⟨i + 1, k, r, by rw [Nat.add_mul]; omega, h1, h2⟩

section
variable {H : Type} {enc : TypeId × Value → H} {P : Program} {w : World} {base : Nat} {spare : Nat → Bool} {held : Bool}
theorem open_rows {X : Type} [Inhabited X] (cells : X → List Value) (size : Nat) (Fit : X → Prop) (hsize : 0 < size) (hlen : ∀ r, (cells r).length = size) {t e : TypeId} (ht : P.underlying t = some (.slice e)) (hC : P.cellsOf e = size)
  (hel : ∀ n cs' y, cs'.length = size → DataW.trod enc P w base spare held n e cs' = some y → ∃ r, cs' = cells r ∧ Fit r) {fuel : Nat} {v : Value} {x : DataW H × List MemPlace} (h : DataW.trod enc P w base spare held fuel t [v] = some x) :
  ∃ (a : Option Addr) (cap : Nat) (L : List X), v = .slice a L.length cap ∧ L.length ≤ cap ∧ cap ≤ maxLen ∧ (a = none → cap = 0) ∧ (∀ r ∈ L, Fit r) ∧
   (0 < L.length → ∃ b off, a = some ⟨b, off, none⟩ ∧ b < w.heap.size ∧ ∀ j u, (L.flatMap cells)[j]? = some u → w.cell? ⟨b, off + j, none⟩ = some u) := by
 rcases open_slice ht h with ⟨hcs, _⟩ | ⟨a, len, cap, m, n, D, Pl, hcs, _, hl, hm, hmm, _, hi⟩
 ·simp only [List.cons.injEq, and_true] at hcs
  subst hcs;exact ⟨none, 0, [], rfl, Nat.le_refl _, by unfold maxLen; omega, fun _ => rfl, (fun _ h => by cases h), fun h => absurd h (Nat.not_lt_zero _)⟩
 ·simp only [List.cons.injEq, and_true] at hcs
  subst hcs;have hlm : len ≤ m := by rw [hmm]; split <;> omega
  have hex : ∀ i, ∃ r : X, i < len → Fit r ∧ ∀ k u, (cells r)[k]? = some u → w.cell? (a.add (i * size + k)) = some u := fun i => by
   by_cases h : i < len
   ·obtain ⟨cs', hc, ht'⟩ := hi i (by omega)
    rw [hC] at hc;obtain ⟨_, hcl, hat⟩ := World.cells?_some hc;obtain ⟨r, e, hf⟩ := hel n cs' _ hcl ht';refine ⟨r, fun _ => ⟨hf, fun k u hu => ?_⟩⟩;rw [← e] at hu
    have hk : k < size := by
     have := (List.getElem?_eq_some_iff.1 hu).1;omega
    rw [← Go.Deep.add_add, hat k hk, hu]
   ·exact ⟨default, fun h' => absurd h' h⟩
  obtain ⟨f, hf⟩ := Classical.axiomOfChoice hex;refine ⟨some a, cap, (List.range len).map f, by simp, by simpa using hl, hm, (fun e => by cases e), ?_, ?_⟩
  ·intro r hr
   obtain ⟨i, hi', rfl⟩ := List.mem_map.1 hr;exact (hf i (by simpa using hi')).1
  ·intro hpos
   have hpos' : 0 < len := by simpa using hpos
   have hcell : ∀ i k u, i < len → (cells (f i))[k]? = some u → w.cell? (a.add (i * size + k)) = some u := fun i k u h hu => (hf i h).2 k u hu;have h0 : ∃ u, (cells (f 0))[0]? = some u := ⟨_, List.getElem?_eq_getElem (by rw [hlen]; exact hsize)⟩;obtain ⟨u0, hu0⟩ := h0;have hc0 := hcell 0 0 u0 hpos' hu0;obtain ⟨b, off, spot⟩ := a;have hspot : spot = none := by simpa [Addr.add] using World.cell?_spot hc0
   subst hspot;refine ⟨b, off, rfl, ?_, fun j u hj => ?_⟩
   ·rw [Go.WideShapes.add_plain] at hc0
    exact World.block_lt_of_cell? w _ hc0
   ·obtain ⟨i, k, r, e, h1, h2⟩ := flatMap_get cells size hlen _ j u hj
    rw [List.getElem?_map] at h1
    have hil : i < len := by
     rcases Nat.lt_or_ge i len with l | l
     ·exact l
     ·rw [List.getElem?_eq_none (by simpa using l)] at h1; cases h1
    rw [List.getElem?_range hil] at h1;obtain rfl : f i = r := by simpa using h1
    have := hcell i k u hil h2;rw [Go.WideShapes.add_plain] at this;rw [e];exact this
theorem elem_fields {e : TypeId} {fs : Array Field} {n : Nat} {cs' : List Value} {y : DataW H × List MemPlace} (he : P.underlying e = some (.struct fs)) (hone : oneCellFields P fs = true) (hl : cs'.length = fs.size) (h : DataW.trod enc P w base spare held n e cs' = some y) :
  ∃ m, ∀ (j : Nat) (f : Field), fs[j]? = some f → ∃ (v : Value) (z : DataW H × List MemPlace), cs'[j]? = some v ∧ DataW.trod enc P w base spare held m f.type [v] = some z := by
 obtain ⟨ys, n', hn', hy, hlen, hyl, hf⟩ := DataW.trod_struct he h;refine ⟨n', fun j f hj => ?_⟩;obtain ⟨ho, hk⟩ := hone_of hone j f hj;have hjl : j < fs.size := (Array.getElem?_eq_some_iff.1 hj).1;have hv : cs'[j]? = some (cs'[j]'(by omega)) := List.getElem?_eq_getElem (by omega);have h1 := hf j f hj;rw [ho, hk] at h1
 have hone' : (cs'.drop j).take 1 = [cs'[j]'(by omega)] := by
  rw [List.drop_eq_getElem_cons (by omega)]
  rfl
 rw [hone'] at h1;exact ⟨_, ys[j]'(by omega), hv, h1.trans (List.getElem?_eq_getElem (by omega))⟩
end
end
section
open Go.ChangeShapes Go.WideShapes Go.ChangeAt Go.WideMaps Go.WideElems Go.RowKit Go.Deep Go.Joins
theorem num_of_flat {n₀ : Nat} {w : World} {a : Option Addr} {L : List (Int)} (h : 0 < L.length → ∃ b off, a = some ⟨b, off, none⟩ ∧ b < n₀ ∧ ∀ j u, (nflat L)[j]? = some u → w.cell? ⟨b, off + j, none⟩ = some u) : Nums n₀ w a L := fun hl => by
 obtain ⟨b, off, e, hb, hc⟩ := h hl;refine ⟨b, off, e, hb, fun i hi => ?_⟩;have f0 := nflat_at L i hi;have c0 := hc _ _ f0
 try simp only [← Nat.add_assoc] at c0
 exact c0
theorem brick_of_flat {n₀ : Nat} {w : World} {a : Option Addr} {L : List (BrickR)} (h : 0 < L.length → ∃ b off, a = some ⟨b, off, none⟩ ∧ b < n₀ ∧ ∀ j u, (kflat L)[j]? = some u → w.cell? ⟨b, off + j, none⟩ = some u) : Bricks n₀ w a L := fun hl => by
 obtain ⟨b, off, e, hb, hc⟩ := h hl;refine ⟨b, off, e, hb, fun i hi => ?_⟩;obtain ⟨f0, f1, f2⟩ := kflat_at L i hi;have c0 := hc _ _ f0;have c1 := hc _ _ f1;have c2 := hc _ _ f2
 try simp only [← Nat.add_assoc] at c0 c1 c2
 exact ⟨c0, c1, c2⟩
instance : Inhabited BrickR := ⟨⟨⟨#[]⟩, 0, 0⟩⟩
section
variable {H : Type} {enc : TypeId × Value → H} {w : World} {base : Nat} {spare : Nat → Bool} {held : Bool}
theorem open_nums {fuel : Nat} {v : Value} {x : DataW H × List MemPlace} (h : DataW.trod enc Tryz.prog w base spare held fuel 30 [v] = some x) :
  ∃ (a : Option Addr) (cap : Nat) (L : List Int), v = .slice a L.length cap ∧ L.length ≤ cap ∧ cap ≤ maxLen ∧ (a = none → cap = 0) ∧ (∀ r ∈ L, (Lit.int .i64 r).wf = true) ∧ Nums w.heap.size w a L := by
 obtain ⟨a, cap, L, h1, h2, h3, h4, h5, h6⟩ := open_rows (P := Tryz.prog) (fun r : Int => [Value.int .i64 r]) 1 (fun r => (Lit.int .i64 r).wf = true) (by decide) (fun _ => rfl) Tryz.underlying30 (by kernel_rfl) (fun n cs' y hl ht => by
  obtain ⟨m, e, _, hw⟩ := DataW.trod_int Tryz.underlying3 ht;exact ⟨m, e, hw⟩) h
 exact ⟨a, cap, L, h1, h2, h3, h4, h5, num_of_flat h6⟩
theorem open_bricks {fuel : Nat} {v : Value} {x : DataW H × List MemPlace} (h : DataW.trod enc Tryz.prog w base spare held fuel 57 [v] = some x) :
  ∃ (a : Option Addr) (cap : Nat) (L : List BrickR), v = .slice a L.length cap ∧ L.length ≤ cap ∧ cap ≤ maxLen ∧ (a = none → cap = 0) ∧ Bricks w.heap.size w a L := by
 obtain ⟨a, cap, L, h1, h2, h3, h4, _, h6⟩ := open_rows (P := Tryz.prog) (fun r : BrickR => [.string r.name, .int .i64 r.weight, .int .i64 r.count]) 3 (fun _ => True) (by decide) (fun _ => rfl) Tryz.underlying57 (by kernel_rfl) (fun n cs' y hl ht => by
  obtain ⟨m, hf⟩ := elem_fields Tryz.underlying179 (by kernel_rfl) (by rw [hl]; rfl) ht;obtain ⟨v0, z0, c0, t0⟩ := hf 0 _ rfl;obtain ⟨v1, z1, c1, t1⟩ := hf 1 _ rfl;obtain ⟨v2, z2, c2, t2⟩ := hf 2 _ rfl;obtain ⟨n0, e0, _, _⟩ := DataW.trod_string Tryz.underlying9 t0;obtain ⟨n1, e1, _, w1⟩ := DataW.trod_int Tryz.underlying3 t1;obtain ⟨n2, e2, _, w2⟩ := DataW.trod_int Tryz.underlying3 t2;simp only [List.cons.injEq, and_true] at e0 e1 e2;subst e0 e1 e2
  match cs', hl with
  | [x0, x1, x2], _ =>
   simp only [List.getElem?_cons_zero, List.getElem?_cons_succ, Option.some.injEq] at c0 c1 c2;subst c0 c1 c2;exact ⟨⟨n0, n1, n2⟩, rfl, trivial⟩) h
 exact ⟨a, cap, L, h1, h2, h3, h4, brick_of_flat h6⟩
end
section
variable {H : Type} {enc : TypeId × Value → H} {W : World} {base : Nat}
theorem open_numsA {v : Value} {d : DataW H} {p : List MemPlace} (hv : Value.okWide Tryz.prog W .any base 30 v) (h : DataW.Trod enc Tryz.prog W 0 (fun _ => true) true 30 v d p) :
  ∃ (a : Option Addr) (cap : Nat) (L : List Int), v = .slice a L.length cap ∧ L.length ≤ cap ∧ cap ≤ maxLen ∧ (a = none → cap = 0) ∧ (∀ r ∈ L, (Lit.int .i64 r).wf = true) ∧ Nums W.heap.size W a L := by
 obtain ⟨a0, len0, cap0, rfl⟩ := okWide_slice Tryz.underlying30 hv;obtain ⟨fuel, hf⟩ := h;exact open_nums (v := .slice a0 len0 cap0) hf
end
theorem item_of_flat {n₀ : Nat} {w : World} {a : Option Addr} {L : List ItemR} (h : 0 < L.length → ∃ b off, a = some ⟨b, off, none⟩ ∧ b < n₀ ∧ ∀ j u, (tflat L)[j]? = some u → w.cell? ⟨b, off + j, none⟩ = some u) : Items n₀ w a L := fun hl => by
 obtain ⟨b, off, e, hb, hc⟩ := h hl;refine ⟨b, off, e, hb, fun i hi => ?_⟩;obtain ⟨f0, f1, f2, f3, f4, f5, f6⟩ := tflat_at L i hi;have c0 := hc _ _ f0;have c1 := hc _ _ f1;have c2 := hc _ _ f2;have c3 := hc _ _ f3;have c4 := hc _ _ f4;have c5 := hc _ _ f5;have c6 := hc _ _ f6
 try simp only [← Nat.add_assoc] at c0 c1 c2 c3 c4 c5 c6
 exact ⟨c0, c1, c2, c3, c4, c5, c6⟩
instance : Inhabited ItemR := ⟨⟨⟨#[]⟩, 0, 0, 0, 0, 0, 0⟩⟩
section
variable {H : Type} {enc : TypeId × Value → H} {w : World} {base : Nat} {spare : Nat → Bool} {held : Bool}
theorem open_items {fuel : Nat} {v : Value} {x : DataW H × List MemPlace} (h : DataW.trod enc Tryz.prog w base spare held fuel 56 [v] = some x) :
  ∃ (a : Option Addr) (cap : Nat) (L : List ItemR), v = .slice a L.length cap ∧ L.length ≤ cap ∧ cap ≤ maxLen ∧ (a = none → cap = 0) ∧ Items w.heap.size w a L := by
 obtain ⟨a, cap, L, h1, h2, h3, h4, _, h6⟩ := open_rows (P := Tryz.prog) (fun r : ItemR => [.string r.name, .int .i64 r.pos, .int .i64 r.width, .int .i64 r.weight, .int .i64 r.hang, .int .i64 r.front, .int .i64 r.back]) 7 (fun _ => True) (by decide) (fun _ => rfl) Tryz.underlying56 (by kernel_rfl) (fun n cs' y hl ht => by
  obtain ⟨m, hf⟩ := elem_fields Tryz.underlying177 (by kernel_rfl) (by rw [hl]; rfl) ht;obtain ⟨v0, z0, c0, t0⟩ := hf 0 _ rfl;obtain ⟨v1, z1, c1, t1⟩ := hf 1 _ rfl;obtain ⟨v2, z2, c2, t2⟩ := hf 2 _ rfl;obtain ⟨v3, z3, c3, t3⟩ := hf 3 _ rfl;obtain ⟨v4, z4, c4, t4⟩ := hf 4 _ rfl;obtain ⟨v5, z5, c5, t5⟩ := hf 5 _ rfl;obtain ⟨v6, z6, c6, t6⟩ := hf 6 _ rfl;obtain ⟨n0, e0, _, _⟩ := DataW.trod_string Tryz.underlying9 t0;obtain ⟨n1, e1, _, w1⟩ := DataW.trod_int Tryz.underlying3 t1;obtain ⟨n2, e2, _, w2⟩ := DataW.trod_int Tryz.underlying3 t2;obtain ⟨n3, e3, _, w3⟩ := DataW.trod_int Tryz.underlying3 t3;obtain ⟨n4, e4, _, w4⟩ := DataW.trod_int Tryz.underlying3 t4;obtain ⟨n5, e5, _, w5⟩ := DataW.trod_int Tryz.underlying3 t5;obtain ⟨n6, e6, _, w6⟩ := DataW.trod_int Tryz.underlying3 t6;simp only [List.cons.injEq, and_true] at e0 e1 e2 e3 e4 e5 e6;subst e0 e1 e2 e3 e4 e5 e6
  match cs', hl with
  | [x0, x1, x2, x3, x4, x5, x6], _ =>
   simp only [List.getElem?_cons_zero, List.getElem?_cons_succ, Option.some.injEq] at c0 c1 c2 c3 c4 c5 c6;subst c0 c1 c2 c3 c4 c5 c6;exact ⟨⟨n0, n1, n2, n3, n4, n5, n6⟩, rfl, trivial⟩) h
 exact ⟨a, cap, L, h1, h2, h3, h4, item_of_flat h6⟩
end
section
variable {H : Type} {enc : TypeId × Value → H} {W : World} {base : Nat}
end
instance : Inhabited RoofR := ⟨⟨⟨#[]⟩, 0, 0, 0⟩⟩
instance : Inhabited SetR := ⟨⟨⟨#[]⟩, 0, 0, 0, 0, none, [], 0, 0, 0, 0, 0, 0, none, [], 0, none, [], 0⟩⟩
theorem roof_of_flat {n₀ : Nat} {w : World} {a : Option Addr} {L : List RoofR} (h : 0 < L.length → ∃ b off, a = some ⟨b, off, none⟩ ∧ b < n₀ ∧ ∀ j u, (rflat L)[j]? = some u → w.cell? ⟨b, off + j, none⟩ = some u) : Roofs n₀ w a L := fun hl => by
 obtain ⟨b, off, e, hb, hc⟩ := h hl;refine ⟨b, off, e, hb, fun i hi => ?_⟩;obtain ⟨f0, f1, f2, f3⟩ := rflat_at L i hi;have c0 := hc _ _ f0;have c1 := hc _ _ f1;have c2 := hc _ _ f2;have c3 := hc _ _ f3
 try simp only [← Nat.add_assoc] at c0 c1 c2 c3
 exact ⟨c0, c1, c2, c3⟩
theorem set_of_flat {n₀ : Nat} {w : World} {a : Option Addr} {L : List SetR} (h : 0 < L.length → ∃ b off, a = some ⟨b, off, none⟩ ∧ b < n₀ ∧ ∀ j u, (hflat L)[j]? = some u → w.cell? ⟨b, off + j, none⟩ = some u) : SetRows n₀ w a L := fun hl => by
 obtain ⟨b, off, e, hb, hc⟩ := h hl;refine ⟨b, off, e, hb, fun i hi => ?_⟩;obtain ⟨f0, f1, f2, f3, f4, f5, f6, f7, f8, f9, f10, f11, f12⟩ := hflat_at L i hi;have c0 := hc _ _ f0;have c1 := hc _ _ f1;have c2 := hc _ _ f2;have c3 := hc _ _ f3;have c4 := hc _ _ f4;have c5 := hc _ _ f5;have c6 := hc _ _ f6;have c7 := hc _ _ f7;have c8 := hc _ _ f8;have c9 := hc _ _ f9;have c10 := hc _ _ f10;have c11 := hc _ _ f11;have c12 := hc _ _ f12
 try simp only [← Nat.add_assoc] at c0 c1 c2 c3 c4 c5 c6 c7 c8 c9 c10 c11 c12
 exact ⟨c0, c1, c2, c3, c4, c5, c6, c7, c8, c9, c10, c11, c12⟩
section
variable {H : Type} {enc : TypeId × Value → H} {w : World} {base : Nat} {spare : Nat → Bool} {held : Bool}
theorem open_roofs {fuel : Nat} {v : Value} {x : DataW H × List MemPlace} (h : DataW.trod enc Tryz.prog w base spare held fuel 23 [v] = some x) :
  ∃ (a : Option Addr) (cap : Nat) (L : List RoofR), v = .slice a L.length cap ∧ L.length ≤ cap ∧ cap ≤ maxLen ∧ (a = none → cap = 0) ∧ Roofs w.heap.size w a L := by
 obtain ⟨a, cap, L, h1, h2, h3, h4, _, h6⟩ := open_rows (P := Tryz.prog) (fun r : RoofR => [.string r.name, .int .i64 r.lo, .int .i64 r.hi, .int .i64 r.most]) 4 (fun _ => True) (by decide) (fun _ => rfl) Tryz.underlying23 (by kernel_rfl) (fun n cs' y hl ht => by
  obtain ⟨m, hf⟩ := elem_fields Tryz.underlying148 (by kernel_rfl) (by rw [hl]; rfl) ht;obtain ⟨v0, z0, c0, t0⟩ := hf 0 _ rfl;obtain ⟨v1, z1, c1, t1⟩ := hf 1 _ rfl;obtain ⟨v2, z2, c2, t2⟩ := hf 2 _ rfl;obtain ⟨v3, z3, c3, t3⟩ := hf 3 _ rfl;obtain ⟨n0, e0, _, _⟩ := DataW.trod_string Tryz.underlying9 t0;obtain ⟨n1, e1, _, w1⟩ := DataW.trod_int Tryz.underlying3 t1;obtain ⟨n2, e2, _, w2⟩ := DataW.trod_int Tryz.underlying3 t2;obtain ⟨n3, e3, _, w3⟩ := DataW.trod_int Tryz.underlying3 t3;simp only [List.cons.injEq, and_true] at e0 e1 e2 e3;subst e0 e1 e2 e3
  match cs', hl with
  | [x0, x1, x2, x3], _ =>
   simp only [List.getElem?_cons_zero, List.getElem?_cons_succ, Option.some.injEq] at c0 c1 c2 c3;subst c0 c1 c2 c3;exact ⟨⟨n0, n1, n2, n3⟩, rfl, trivial⟩) h
 exact ⟨a, cap, L, h1, h2, h3, h4, roof_of_flat h6⟩
theorem open_sets {fuel : Nat} {v : Value} {x : DataW H × List MemPlace} (h : DataW.trod enc Tryz.prog w base spare held fuel 22 [v] = some x) :
  ∃ (a : Option Addr) (cap : Nat) (L : List SetR), v = .slice a L.length cap ∧ L.length ≤ cap ∧ cap ≤ maxLen ∧ (a = none → cap = 0) ∧ (∀ r ∈ L, SetIn0 w r) ∧ SetRows w.heap.size w a L := by
 obtain ⟨a, cap, L, h1, h2, h3, h4, h5, h6⟩ := open_rows (P := Tryz.prog) (fun r : SetR => [.string r.name, .int .i64 r.depth, .int .i64 r.low, .int .i64 r.high, .int .i64 r.length, .slice r.la r.lines.length r.lc, .int .i64 r.pipe, .int .i64 r.arbor, .int .i64 r.purchase, .int .i64 r.most, .int .i64 r.brake, .slice r.ia r.items.length r.ic, .slice r.ba r.bricks.length r.bc]) 13 (fun r => SetIn0 w r) (by decide) (fun _ => rfl) Tryz.underlying22 (by kernel_rfl) (fun n cs' y hl ht => by
  obtain ⟨m, hf⟩ := elem_fields Tryz.underlying59 (by kernel_rfl) (by rw [hl]; rfl) ht;obtain ⟨v0, z0, c0, t0⟩ := hf 0 _ rfl;obtain ⟨v1, z1, c1, t1⟩ := hf 1 _ rfl;obtain ⟨v2, z2, c2, t2⟩ := hf 2 _ rfl;obtain ⟨v3, z3, c3, t3⟩ := hf 3 _ rfl;obtain ⟨v4, z4, c4, t4⟩ := hf 4 _ rfl;obtain ⟨v5, z5, c5, t5⟩ := hf 5 _ rfl;obtain ⟨v6, z6, c6, t6⟩ := hf 6 _ rfl;obtain ⟨v7, z7, c7, t7⟩ := hf 7 _ rfl;obtain ⟨v8, z8, c8, t8⟩ := hf 8 _ rfl;obtain ⟨v9, z9, c9, t9⟩ := hf 9 _ rfl;obtain ⟨v10, z10, c10, t10⟩ := hf 10 _ rfl;obtain ⟨v11, z11, c11, t11⟩ := hf 11 _ rfl;obtain ⟨v12, z12, c12, t12⟩ := hf 12 _ rfl;obtain ⟨n0, e0, _, _⟩ := DataW.trod_string Tryz.underlying9 t0;obtain ⟨n1, e1, _, w1⟩ := DataW.trod_int Tryz.underlying3 t1;obtain ⟨n2, e2, _, w2⟩ := DataW.trod_int Tryz.underlying3 t2;obtain ⟨n3, e3, _, w3⟩ := DataW.trod_int Tryz.underlying3 t3;obtain ⟨n4, e4, _, w4⟩ := DataW.trod_int Tryz.underlying3 t4;obtain ⟨n6, e6, _, w6⟩ := DataW.trod_int Tryz.underlying3 t6;obtain ⟨n7, e7, _, w7⟩ := DataW.trod_int Tryz.underlying3 t7;obtain ⟨n8, e8, _, w8⟩ := DataW.trod_int Tryz.underlying3 t8;obtain ⟨n9, e9, _, w9⟩ := DataW.trod_int Tryz.underlying3 t9;obtain ⟨n10, e10, _, w10⟩ := DataW.trod_int Tryz.underlying3 t10;obtain ⟨la, lc, L, rfl, l1, l2, l3, _, l4⟩ := open_nums t5;obtain ⟨ia, ic, I, rfl, i1, i2, i3, i4⟩ := open_items t11;obtain ⟨ba, bc, B, rfl, b1, b2, b3, b4⟩ := open_bricks t12;simp only [List.cons.injEq, and_true] at e0 e1 e2 e3 e4 e6 e7 e8 e9 e10;subst e0 e1 e2 e3 e4 e6 e7 e8 e9 e10
  match cs', hl with
  | [x0, x1, x2, x3, x4, x5, x6, x7, x8, x9, x10, x11, x12], _ =>
   simp only [List.getElem?_cons_zero, List.getElem?_cons_succ, Option.some.injEq] at c0 c1 c2 c3 c4 c5 c6 c7 c8 c9 c10 c11 c12;subst c0 c1 c2 c3 c4 c5 c6 c7 c8 c9 c10 c11 c12;exact ⟨⟨n0, n1, n2, n3, n4, la, L, lc, n6, n7, n8, n9, n10, ia, I, ic, ba, B, bc⟩, rfl, ⟨l4, i4, b4, l1, i1, b1, l3, i3, b3⟩⟩) h
 exact ⟨a, cap, L, h1, h2, h3, h4, h5, set_of_flat h6⟩
end
section
variable {H : Type} {enc : TypeId × Value → H} {W : World} {base : Nat}
theorem open_house {v : Value} {d : DataW H} {p : List MemPlace} (hv : Value.okWide Tryz.prog W .any base 25 v) (h : DataW.Trod enc Tryz.prog W 0 (fun _ => true) true 25 v d p) :
  ∃ r : HouseR, v = .agg #[.string r.name, .int .i64 r.height, .slice r.sa r.sets.length r.sc, .slice r.ra r.roofs.length r.rc] ∧ HouseIn0 W r := by
 obtain ⟨cs, rfl, hsz⟩ := okWide_struct Tryz.underlying25 hv;obtain ⟨l⟩ := cs
 match l, hsz.trans (show Tryz.prog.cellsOf 25 = 4 by kernel_rfl) with
 | [x0, x1, x2, x3], _ =>
  obtain ⟨fuel, hf0⟩ := h;obtain ⟨m, hf⟩ := elem_fields (cs' := [x0, x1, x2, x3]) Tryz.underlying25 (by kernel_rfl) rfl (by simpa [Value.cells] using hf0);obtain ⟨v0, z0, c0, t0⟩ := hf 0 _ rfl;obtain ⟨v1, z1, c1, t1⟩ := hf 1 _ rfl;obtain ⟨v2, z2, c2, t2⟩ := hf 2 _ rfl;obtain ⟨v3, z3, c3, t3⟩ := hf 3 _ rfl;simp only [List.getElem?_cons_zero, List.getElem?_cons_succ, Option.some.injEq] at c0 c1 c2 c3;subst c0 c1 c2 c3;obtain ⟨n0, e0, _, _⟩ := DataW.trod_string Tryz.underlying9 t0;obtain ⟨n1, e1, _, w1⟩ := DataW.trod_int Tryz.underlying3 t1;obtain ⟨sa, sc, S, rfl, s1, s2, s3, s4, s5⟩ := open_sets t2;obtain ⟨ra, rc, R, rfl, r1, r2, r3, r4⟩ := open_roofs t3;simp only [List.cons.injEq, and_true] at e0 e1;subst e0 e1;exact ⟨⟨n0, n1, sa, S, sc, ra, R, rc⟩, rfl, ⟨s5, r4, fun i hi => s4 _ (by rw [hg_eq S i hi]; exact List.getElem_mem hi), s1, r1, s3, r3⟩⟩
end
instance : Inhabited Mv := ⟨⟨⟨#[]⟩, 0, 0, 0, 0⟩⟩
instance : Inhabited CueR := ⟨⟨⟨#[]⟩, ⟨#[]⟩, 0, 0, none, [], 0, 0, 0⟩⟩
theorem mov_of_flat {n₀ : Nat} {w : World} {a : Option Addr} {L : List Mv} (h : 0 < L.length → ∃ b off, a = some ⟨b, off, none⟩ ∧ b < n₀ ∧ ∀ j u, (mflat L)[j]? = some u → w.cell? ⟨b, off + j, none⟩ = some u) : Movs n₀ w a L := fun hl => by
 obtain ⟨b, off, e, hb, hc⟩ := h hl;refine ⟨b, off, e, hb, fun i hi => ?_⟩;obtain ⟨f0, f1, f2, f3, f4⟩ := mflat_at L i hi;have c0 := hc _ _ f0;have c1 := hc _ _ f1;have c2 := hc _ _ f2;have c3 := hc _ _ f3;have c4 := hc _ _ f4
 try simp only [← Nat.add_assoc] at c0 c1 c2 c3 c4
 exact ⟨c0, c1, c2, c3, c4⟩
theorem pair_of_flat {n₀ : Nat} {w : World} {a : Option Addr} {L : List (ByteArray × ByteArray)} (h : 0 < L.length → ∃ b off, a = some ⟨b, off, none⟩ ∧ b < n₀ ∧ ∀ j u, (pflat L)[j]? = some u → w.cell? ⟨b, off + j, none⟩ = some u) : Pairs n₀ w a L := fun hl => by
 obtain ⟨b, off, e, hb, hc⟩ := h hl;refine ⟨b, off, e, hb, fun i hi => ?_⟩;obtain ⟨f0, f1⟩ := pflat_at L i hi;have c0 := hc _ _ f0;have c1 := hc _ _ f1
 try simp only [← Nat.add_assoc] at c0 c1
 exact ⟨c0, c1⟩

theorem cue_of_flat {n₀ : Nat} {w : World} {a : Option Addr} {L : List (CueR)} (h : 0 < L.length → ∃ b off, a = some ⟨b, off, none⟩ ∧ b < n₀ ∧ ∀ j u, (cflat L)[j]? = some u → w.cell? ⟨b, off + j, none⟩ = some u) : Cues n₀ w a L := fun hl => by
 obtain ⟨b, off, e, hb, hc⟩ := h hl;refine ⟨b, off, e, hb, fun i hi => ?_⟩;obtain ⟨f0, f1, f2, f3, f4, f5, f6⟩ := cflat_at L i hi;have c0 := hc _ _ f0;have c1 := hc _ _ f1;have c2 := hc _ _ f2;have c3 := hc _ _ f3;have c4 := hc _ _ f4;have c5 := hc _ _ f5;have c6 := hc _ _ f6
 try simp only [← Nat.add_assoc] at c0 c1 c2 c3 c4 c5 c6
 exact ⟨c0, c1, c2, c3, c4, c5, c6⟩

section
variable {H : Type} {enc : TypeId × Value → H} {w : World} {base : Nat} {spare : Nat → Bool} {held : Bool}
theorem open_movs {fuel : Nat} {v : Value} {x : DataW H × List MemPlace} (h : DataW.trod enc Tryz.prog w base spare held fuel 84 [v] = some x) :
  ∃ (a : Option Addr) (cap : Nat) (L : List Mv), v = .slice a L.length cap ∧ L.length ≤ cap ∧ cap ≤ maxLen ∧ (a = none → cap = 0) ∧ Movs w.heap.size w a L := by
 obtain ⟨a, cap, L, h1, h2, h3, h4, _, h6⟩ := open_rows (P := Tryz.prog) (fun r : Mv => [.string r.name, .int .i64 r.to, .int .i64 r.spd, .int .i64 r.rise, .int .i64 r.fall]) 5 (fun _ => True) (by decide) (fun _ => rfl) Tryz.underlying84 (by kernel_rfl) (fun n cs' y hl ht => by
  obtain ⟨m, hf⟩ := elem_fields Tryz.underlying94 (by kernel_rfl) (by rw [hl]; rfl) ht;obtain ⟨v0, z0, c0, t0⟩ := hf 0 _ rfl;obtain ⟨v1, z1, c1, t1⟩ := hf 1 _ rfl;obtain ⟨v2, z2, c2, t2⟩ := hf 2 _ rfl;obtain ⟨v3, z3, c3, t3⟩ := hf 3 _ rfl;obtain ⟨v4, z4, c4, t4⟩ := hf 4 _ rfl;obtain ⟨n0, e0, _, _⟩ := DataW.trod_string Tryz.underlying9 t0;obtain ⟨n1, e1, _, w1⟩ := DataW.trod_int Tryz.underlying3 t1;obtain ⟨n2, e2, _, w2⟩ := DataW.trod_int Tryz.underlying3 t2;obtain ⟨n3, e3, _, w3⟩ := DataW.trod_int Tryz.underlying3 t3;obtain ⟨n4, e4, _, w4⟩ := DataW.trod_int Tryz.underlying3 t4;simp only [List.cons.injEq, and_true] at e0 e1 e2 e3 e4;subst e0 e1 e2 e3 e4
  match cs', hl with
  | [x0, x1, x2, x3, x4], _ =>
   simp only [List.getElem?_cons_zero, List.getElem?_cons_succ, Option.some.injEq] at c0 c1 c2 c3 c4;subst c0 c1 c2 c3 c4;exact ⟨⟨n0, n1, n2, n3, n4⟩, rfl, trivial⟩) h
 exact ⟨a, cap, L, h1, h2, h3, h4, mov_of_flat h6⟩
theorem open_pairs {fuel : Nat} {v : Value} {x : DataW H × List MemPlace} (h : DataW.trod enc Tryz.prog w base spare held fuel 27 [v] = some x) :
  ∃ (a : Option Addr) (cap : Nat) (L : List (ByteArray × ByteArray)), v = .slice a L.length cap ∧ L.length ≤ cap ∧ cap ≤ maxLen ∧ (a = none → cap = 0) ∧ Pairs w.heap.size w a L := by
 obtain ⟨a, cap, L, h1, h2, h3, h4, _, h6⟩ := open_rows (P := Tryz.prog) (fun r : ByteArray × ByteArray => [Value.string r.1, Value.string r.2]) 2 (fun _ => True) (by decide) (fun _ => rfl) Tryz.underlying27 (by kernel_rfl) (fun n cs' y hl ht => by
  obtain ⟨xs, m, _, _, _, hxl, hel⟩ := DataW.trod_array Tryz.underlying149 ht
  match cs', hl with
  | [c0, c1], _ =>
   have e0 := hel 0 (by decide);have e1 := hel 1 (by decide);have hC : Tryz.prog.cellsOf 9 = 1 := by kernel_rfl
   rw [hC] at e0 e1
   match xs, hxl with
   | [y0, y1], _ =>
    obtain ⟨s0, r0, _⟩ := DataW.trod_string Tryz.underlying9 (cs := [c0]) (x := y0) e0;obtain ⟨s1, r1, _⟩ := DataW.trod_string Tryz.underlying9 (cs := [c1]) (x := y1) e1;simp only [List.cons.injEq, and_true] at r0 r1;subst r0 r1;exact ⟨(s0, s1), rfl, trivial⟩) h
 exact ⟨a, cap, L, h1, h2, h3, h4, pair_of_flat h6⟩
def CueIn0 (w : World) (r : CueR) : Prop := Movs w.heap.size w r.ma r.moves ∧ r.moves.length ≤ r.mc ∧ (r.ma = none → r.mc = 0)
theorem open_cues {fuel : Nat} {v : Value} {x : DataW H × List MemPlace} (h : DataW.trod enc Tryz.prog w base spare held fuel 26 [v] = some x) :
  ∃ (a : Option Addr) (cap : Nat) (L : List CueR), v = .slice a L.length cap ∧ L.length ≤ cap ∧ cap ≤ maxLen ∧ (a = none → cap = 0) ∧ (∀ r ∈ L, CueIn0 w r) ∧ Cues w.heap.size w a L := by
 obtain ⟨a, cap, L, h1, h2, h3, h4, h5, h6⟩ := open_rows (P := Tryz.prog) (fun r : CueR => [.string r.name, .string r.after, .int .i64 r.link, .int .i64 r.delay, .slice r.ma r.moves.length r.mc, .int .i64 r.crew, .int .i64 r.power]) 7 (fun r => CueIn0 w r) (by decide) (fun _ => rfl) Tryz.underlying26 (by kernel_rfl) (fun n cs' y hl ht => by
  obtain ⟨m, hf⟩ := elem_fields Tryz.underlying86 (by kernel_rfl) (by rw [hl]; rfl) ht;obtain ⟨v0, z0, c0, t0⟩ := hf 0 _ rfl;obtain ⟨v1, z1, c1, t1⟩ := hf 1 _ rfl;obtain ⟨v2, z2, c2, t2⟩ := hf 2 _ rfl;obtain ⟨v3, z3, c3, t3⟩ := hf 3 _ rfl;obtain ⟨v4, z4, c4, t4⟩ := hf 4 _ rfl;obtain ⟨v5, z5, c5, t5⟩ := hf 5 _ rfl;obtain ⟨v6, z6, c6, t6⟩ := hf 6 _ rfl;obtain ⟨n0, e0, _, w0⟩ := DataW.trod_string Tryz.underlying9 t0;obtain ⟨n1, e1, _, w1⟩ := DataW.trod_string Tryz.underlying9 t1;obtain ⟨n2, e2, _, w2⟩ := DataW.trod_int Tryz.underlying3 t2;obtain ⟨n3, e3, _, w3⟩ := DataW.trod_int Tryz.underlying3 t3;obtain ⟨n5, e5, _, w5⟩ := DataW.trod_int Tryz.underlying3 t5;obtain ⟨n6, e6, _, w6⟩ := DataW.trod_int Tryz.underlying3 t6;obtain ⟨a4, k4, M, rfl, m1, m2, m3, m4⟩ := open_movs t4;simp only [List.cons.injEq, and_true] at e0 e1 e2 e3 e5 e6;subst e0 e1 e2 e3 e5 e6
  match cs', hl with
  | [x0, x1, x2, x3, x4, x5, x6], _ =>
   simp only [List.getElem?_cons_zero, List.getElem?_cons_succ, Option.some.injEq] at c0 c1 c2 c3 c4 c5 c6;subst c0 c1 c2 c3 c4 c5 c6;exact ⟨⟨n0, n1, n2, n3, a4, M, k4, n5, n6⟩, rfl, ⟨m4, m1, m3⟩⟩) h
 exact ⟨a, cap, L, h1, h2, h3, h4, h5, cue_of_flat h6⟩
end
section
variable {H : Type} {enc : TypeId × Value → H} {W : World} {base : Nat}
theorem open_sheet {v : Value} {d : DataW H} {p : List MemPlace} (hv : Value.okWide Tryz.prog W .any base 29 v) (h : DataW.Trod enc Tryz.prog W 0 (fun _ => true) true 29 v d p) :
  ∃ s : SheetR, v = .agg #[.slice s.ca s.cues.length s.cc, .slice s.pa s.pairs.length s.pc] ∧ SheetIn0 W s := by
 obtain ⟨v0, v1, y0, y1, n, rfl, _, _, h0, h1⟩ := open_agg2 Tryz.underlying29 (by kernel_rfl) (by kernel_rfl) hv h;obtain ⟨ca, cc, L, rfl, c1, c2, c3, c4, c5⟩ := open_cues h0;obtain ⟨pa, pc, A, rfl, p1, p2, p3, p4⟩ := open_pairs h1;have hm : ∀ i, i < L.length → CueIn0 W (cg L i) := fun i hi => c4 _ (by rw [cg_eq L i hi]; exact List.getElem_mem hi);exact ⟨⟨ca, L, cc, pa, A, pc⟩, rfl, ⟨c5, fun i hi => (hm i hi).1, p4, c1, c3, fun i hi => (hm i hi).2.1, fun i hi => (hm i hi).2.2, p1, p3⟩⟩
end
end
section
open Go.ChangeShapes Go.WideShapes Go.ChangeAt Go.WideMaps Go.WideElems Go.RowKit
open Go.ChangeMaps (open_string shut_string)
theorem u32_bd {n : Int} (h : (Lit.int .u32 n).wf = true) : 0 ≤ n ∧ n ≤ 4294967295 := by
 have e : IntKind.u32.min ≤ n ∧ n ≤ IntKind.u32.max := by simpa [Lit.wf] using h
 exact e
theorem timelineFollows_lifted (os : Os) (started : os.Started) (H : Type) (enc : TypeId × Value → H) :
  ReturnsInHanded {} Tryz.checked os 8 .any (Rows.timelineFollowsSpec.pre6 enc Tryz.prog Tryz.f8 Rows.timelineFollowsRow.domain false) (Rows.timelineFollowsSpec.post enc Tryz.prog Tryz.f8 false true false false) := by
 refine returnsInHanded_of_change (C := Tryz.checked) own started (by kernel_rfl) Tryz.func8
  (ChangeSpec.witness6 (enc := enc) (C := Tryz.checked) false ⟨#[], #[.agg #[.string ⟨#[]⟩, .int .i64 0, .slice none 0 0, .slice none 0 0], .agg #[.slice none 0 0, .slice none 0 0], .slice none 0 0, .int .u32 0], []⟩ 8 (by kernel_rfl) (by kernel_rfl) (by kernel_rfl) (by kernel_rfl)) ?_
 intro W base args ds gs before hval0 hW hcnd _;have hval : ∀ (j : Nat) t v, Tryz.f8.params[j]? = some t → args[j]? = some v → Value.okWide Tryz.prog W .any base t v := hval0;have hW' := hW;obtain ⟨p, q, hA0, hV, rfl, hfz, hnd⟩ := hW;have hA : DataW.TrodAll enc Tryz.prog W 0 (fun _ => true) true Tryz.f8.params.toList args.toList ds p := hA0;rw [Tryz.params8] at hA hval;obtain ⟨v0, vs0, d0, ds0, p0, q0, hargs, rfl, rfl, h0, r0⟩ := trodAll_cons hA;obtain ⟨v1, vs1, d1, ds1, p1, q1, rfl, rfl, rfl, h1, r1⟩ := trodAll_cons r0;obtain ⟨v2, vs2, d2, ds2, p2, q2, rfl, rfl, rfl, h2, r2⟩ := trodAll_cons r1;obtain ⟨v3, vs3, d3, ds3, p3, q3, rfl, rfl, rfl, h3, r3⟩ := trodAll_cons r2;obtain ⟨rfl, rfl, rfl⟩ := trodAll_nil r3;obtain rfl : args = #[v0, v1, v2, v3] := by cases args; simp_all
 obtain ⟨rfl, rfl⟩ := trodVars_none hV;obtain ⟨h, rfl, hS0⟩ := open_house (hval 0 25 v0 rfl rfl) h0;obtain ⟨s, rfl, hS1⟩ := open_sheet (hval 1 29 v1 rfl rfl) h1;obtain ⟨ga, gc, g, rfl, hc2, hm2, hn2, hw2, hS2⟩ := open_numsA (hval 2 30 v2 rfl rfl) h2;obtain ⟨m, rfl, rfl, rfl, w3⟩ := open_int Tryz.underlying62 (hval 3 62 v3 rfl rfl) h3;clear hA0 hval0;simp only [List.append_nil] at hW';refine (lawfollows_law h s ga g gc m (u32_bd w3).1 (u32_bd w3).2 W hS0 hS1 hS2).mono fun e W' ⟨he, hb⟩ => ?_;subst he;exact ⟨_, rfl, law_post laidOut (by kernel_rfl) hW' rfl rfl (by kernel_rfl) Tryz.underlying4 hb⟩

theorem timelineFollows_holds : Rows.TimelineFollowsSaid :=
 OpenClaim.holds_of_wide 8 Tryz.f8 rfl rfl rfl rfl rfl rfl rfl ⟨rfl, rfl, rfl, rfl, rfl⟩ rfl rfl rfl rfl rfl (by kernel_rfl) Tryz.func8 (by kernel_rfl)
  (of_decide_eq_true (by kernel_rfl)) (by unfold Func.isWrapper; first | (rw [if_pos (by decide +kernel)]; kernel_rfl) | (rw [if_neg (by decide +kernel)]; exact ⟨rfl, rfl⟩))
  (fun os started H enc _ => timelineFollows_lifted os started H enc)
end
end Go.Proofs.YtebofaenlhhkaaaGreat
