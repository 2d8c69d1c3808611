/-
  PLAIN LAW over any program: in a region that draws its order, a call that leaves the world as it was may be taken first.
-/
import Derived.Deep.RegionHeld
import Derived.Test.YtbgkgahmicepdaaGreatP6
namespace Go.Proofs.YtbgkgahmicepdaaGreat
set_option maxRecDepth 100000
set_option maxHeartbeats 80000000
section
section
variable {P : Program} {ops : Array Oper} {Q : Exit → Act → World → Prop} {md : Region.Mode} {S : World → Prop}
def EntersQ (P : Program) (ops : Array Oper) (S : World → Prop) (o : Oper) (v : Value) (a : Act) : Prop :=
 Region.wanted o (yielded ops a.tmps) = true ∧ ∃ f args, (∀ w, S w → (execOp a.eval o).run P w = .ok (.enter f args) w) ∧ ∀ w, S w → Calls P f args w fun e w' => e = .returned v ∧ w = w'
theorem EntersQ.step {i : Nat} {o : Oper} {v : Value} {a : Act} (hi : ops[i]? = some o) (hy : EntersQ P ops S o v a) {K : Act → World → Prop} {w : World} (hS : S w) (h : K (a.put o.dst v) w) : wpOp P ops Q i K a w := by
 obtain ⟨hw, f, args, hr, hc⟩ := hy;unfold wpOp;rw [hi];simp only [hw, if_true];refine .inl ?_;unfold Oper.wp;rw [hr w hS, Oper.upon_enter];exact Calls.mono (hc w hS) fun e w' ⟨he, hw'⟩ => by subst he; subst hw'; exact h
theorem EntersQ.keep {o o' : Oper} {v : Value} {a : Act} (hs : ∀ cs b, o.op ≠ .select cs b) (hy : EntersQ P ops S o v a) (u : Value) (h : ∀ d, o'.dst = some d → d ∉ o.looksAt ops) : EntersQ P ops S o v (a.put o'.dst u) := by
 unfold EntersQ at *;rw [execOp_put o hs a o'.dst u h, wanted_put o a o'.dst u h];exact hy
theorem EntersQ.pass {j : Nat} {oi oj : Oper} {v : Value} (hj : ops[j]? = some oj) (hap : oi.apart ops oj = true) (hsi : ∀ cs b, oi.op ≠ .select cs b) (hsj : ∀ cs b, oj.op ≠ .select cs b)
  (hQ : ∀ c a w, Q (.panic c) (a.put oi.dst v) w → Q (.panic c) a w) {K : Act → World → Prop} {a : Act} {w : World} (hy : EntersQ P ops S oi v a) (h : wpOp P ops Q j K (a.put oi.dst v) w) :
  wpOp P ops Q j (fun a' w' => EntersQ P ops S oi v a' ∧ K (a'.put oi.dst v) w') a w := by
 obtain ⟨n1, n2, n3⟩ := Oper.apart_spec hap;unfold wpOp at *;rw [hj] at h ⊢;simp only [wanted_put oj a oi.dst v n1] at h;simp only
 split
 next hw =>
  simp only [hw, if_true] at h;cases h with
  | inr h =>
   obtain ⟨g1, g2⟩ := h;unfold Oper.asks at *;rw [execOp_put oj hsj a oi.dst v n1] at g1;exact .inr ⟨g1, g2⟩
  | inl h =>
   refine .inl ?_;unfold Oper.wp at *;rw [execOp_put oj hsj a oi.dst v n1] at h;rcases hr : (execOp a.eval oj).run P w with ⟨n, w'⟩ | ⟨x, w'⟩
   ·rw [hr] at h
    cases n with
    | value u =>
     rw [Oper.upon_value] at *;exact ⟨hy.keep hsi u n3, by rw [← Act.put_comm a v u n2]; exact h⟩
    | skip =>
     rw [Oper.upon_skip] at *;exact ⟨hy.keep hsi undef n3, by rw [← Act.put_comm a v undef n2]; exact h⟩
    | defer d =>
     rw [Oper.upon_defer] at *;have hy' : EntersQ P ops S oi v { a with defers := d :: a.defers } := hy;exact ⟨hy'.keep hsi undef n3, by rw [← Act.put_comm _ v undef n2, ← Act.put_defers]; exact h⟩
    | enter f args =>
     rw [Oper.upon_enter] at *;refine Calls.mono h fun e w'' he => ?_
     cases e with
     | returned u => exact ⟨hy.keep hsi u n3, by rw [← Act.put_comm a v u n2]; exact he⟩
     | panicked c => exact hQ _ _ _ he
     | outgrown => exact he
    | row row args =>
     rw [Oper.upon_row] at *;exact Rows.mono h fun u w'' he => ⟨hy.keep hsi u n3, by rw [← Act.put_comm a v u n2]; exact he⟩
    | _ => simp only [Oper.upon] at h
   ·rw [hr] at h
    cases x <;> simp only [Oper.upon] at h ⊢
    case panic u => exact hQ _ _ _ h
 next hw =>
  simp only [hw] at h;exact ⟨hy.keep hsi undef n3, by rw [← Act.put_comm a v undef n2]; exact h⟩
theorem wpAnyH_firstC {i : Nat} {oi : Oper} {v : Value} (hi : ops[i]? = some oi) (hsel : ∀ (j : Nat) (o : Oper) cs b, ops[j]? = some o → o.op ≠ .select cs b) (hQ : ∀ c a w, Q (.panic c) (a.put oi.dst v) w → Q (.panic c) a w) (fuel : Nat) :
  ∀ (listed : Array Bool) (a : Act) (w : World),
   (∀ j oj, ops[j]? = some oj → j ≠ i → listed.getD j true = false → (∀ e ∈ oj.after, Region.binds md e = true → e.on ≠ i) → oi.apart ops oj = true) →
   i ∈ Region.ready md ops listed → EntersQ P ops S oi v a → S w →
   wpAnyH P md ops Q S fuel (listed.setIfInBounds i true) (a.put oi.dst v) w → wpAnyH P md ops Q S (fuel + 1) listed a w := by
 induction fuel with
 | zero =>
  intro listed a w _ hr hy hS H;refine ⟨fun h => absurd hr (by rw [h]; exact List.not_mem_nil), fun j hj => ?_⟩
  by_cases e : j = i
  ·subst e; exact hy.step hi hS ⟨hS, H⟩
  ·exact absurd (ready_mono hj e) (by rw [H.1]; exact List.not_mem_nil)
 | succ fuel ih =>
  intro listed a w hfree hr hy hS H;refine ⟨fun h => absurd hr (by rw [h]; exact List.not_mem_nil), fun j hj => ?_⟩
  by_cases e : j = i
  ·subst e; exact hy.step hi hS ⟨hS, H⟩
  ·obtain ⟨hun, oj, hoj, hall⟩ := mem_ready.1 hj
   have hno : ∀ e ∈ oj.after, Region.binds md e = true → e.on ≠ i := fun e he hb q => by
    have k1 := hall e he hb;have k0 := (mem_ready.1 hr).1;rw [q] at k1
    by_cases l : i < listed.size
    ·simp [l] at k0 k1; rw [k0] at k1; cases k1
    ·simp [Array.getElem?_eq_none (Nat.le_of_not_lt l)] at k1
   have k2 := hy.pass hoj (hfree j oj hoj e hun hno) (fun cs b => hsel i oi cs b hi) (fun cs b => hsel j oj cs b hoj) hQ (H.2 j (ready_mono hj e));refine wpOp_mono (fun a' w' h3 => ⟨h3.2.1, ih (listed.setIfInBounds j true) a' w' (fun k ok hk hki hku hkn => ?_) (ready_mono hr (Ne.symm e)) h3.1 h3.2.1 ?_⟩) k2
   ·refine hfree k ok hk hki ?_ hkn
    by_cases q : j = k
    ·subst q; exact hun
    ·rwa [getD_set_ne true q] at hku
   ·rw [Array.setIfInBounds_comm _ _ e]
    exact h3.2.2
theorem wpAnyH_takeC {i : Nat} {oi : Oper} {v : Value} {fuel : Nat} {listed : Array Bool} {a : Act} {w : World} (hi : ops[i]? = some oi) (hs : Region.noSelect ops = true) (hf : Region.free md ops listed i = true) (hr : (Region.ready md ops listed).contains i = true)
  (hQ : ∀ c a w, Q (.panic c) (a.put oi.dst v) w → Q (.panic c) a w) (hy : EntersQ P ops S oi v a) (hS : S w)
  (h : wpAnyH P md ops Q S fuel (listed.setIfInBounds i true) (a.put oi.dst v) w) : wpAnyH P md ops Q S (fuel + 1) listed a w :=
 wpAnyH_firstC hi (Region.noSelect_spec hs) hQ fuel listed a w (Region.free_spec hi hf) (by simpa using hr) hy hS h
end
end
section
open Go.RowKit Go.Shelf
def FC (w : World) (B : Nat) (h l : Int) : Prop := w.cell? ⟨B, 0, none⟩ = some (.int .u64 h) ∧ w.cell? ⟨B, 1, none⟩ = some (.int .u64 l) ∧ w.frozen? ⟨B, 0, none⟩ = false ∧ w.frozen? ⟨B, 1, none⟩ = false ∧ B < w.heap.size
theorem FC.carry {W w : World} {B : Nat} {x y : Int} (f : FC W B x y) (h : Below W.heap.size W w) : FC w B x y :=
 ⟨(h.cell (p := ⟨B, 0, none⟩) f.2.2.2.2).trans f.1, (h.cell (p := ⟨B, 1, none⟩) f.2.2.2.2).trans f.2.1, (h.frozen (p := ⟨B, 0, none⟩) f.2.2.2.2).trans f.2.2.1, (h.frozen (p := ⟨B, 1, none⟩) f.2.2.2.2).trans f.2.2.2.1, Nat.lt_of_lt_of_le f.2.2.2.2 h.size⟩
theorem FC.set {w : World} {B : Nat} {x y : Int} (f : FC w B x y) (h l : Int) : FC ((w.setCell ⟨B, 0, none⟩ (.int .u64 h)).setCell ⟨B, 1, none⟩ (.int .u64 l)) B h l := by
 obtain ⟨d0, d1⟩ := two_cells (v0 := .int .u64 h) (v1 := .int .u64 l) f.1 f.2.1;exact ⟨d0, d1, by simpa using f.2.2.1, by simpa using f.2.2.2.1, by simpa using f.2.2.2.2⟩
theorem FC.other {w : World} {B C : Nat} {x y : Int} (f : FC w C x y) (hne : C ≠ B) (h l : Int) : FC ((w.setCell ⟨B, 0, none⟩ (.int .u64 h)).setCell ⟨B, 1, none⟩ (.int .u64 l)) C x y :=
 ⟨(two_other hne _ _ _).trans f.1, (two_other hne _ _ _).trans f.2.1, by simpa using f.2.2.1, by simpa using f.2.2.2.1, by simpa using f.2.2.2.2⟩
theorem FC.set1 {w : World} {B : Nat} {x y : Int} (f : FC w B x y) (l : Int) : FC (w.setCell ⟨B, 1, none⟩ (.int .u64 l)) B x l :=
 ⟨(World.cell?_setCell_other _ _ _ _ (fun x => absurd (congrArg Addr.off x) (by simp))).trans f.1, World.cell?_setCell_same _ _ _ f.2.1, by simpa using f.2.2.1, by simpa using f.2.2.2.1, by simpa using f.2.2.2.2⟩
theorem FC.other1 {w : World} {B C : Nat} {x y : Int} (f : FC w C x y) (hne : C ≠ B) (l : Int) : FC (w.setCell ⟨B, 1, none⟩ (.int .u64 l)) C x y :=
 ⟨(World.cell?_setCell_other _ _ _ _ (fun x => hne (congrArg Addr.block x).symm)).trans f.1, (World.cell?_setCell_other _ _ _ _ (fun x => hne (congrArg Addr.block x).symm)).trans f.2.1, by simpa using f.2.2.1, by simpa using f.2.2.2.1, by simpa using f.2.2.2.2⟩
theorem FC.new (w : World) (t : TypeId) : FC (w.alloc (.cells #[.int .u64 0, .int .u64 0] t)) w.heap.size 0 0 := ⟨by simp, by simp, by simp, by simp, by simp⟩
end
end Go.Proofs.YtbgkgahmicepdaaGreat
