/-
  THE WALK of arbor.Loaded (a valid set, and a choice of its bricks).
-/
import Derived.Test.YtbniclapaigkkaaGreatArb
import Derived.Laws.OwnMore
namespace Go.Proofs.YtbniclapaigkkaaGreat
open Go.RowKit Go.Shelf
attribute [local go_sem] Oper.semAt_some
theorem below_two (w : World) (o p : Obj) : Below w.heap.size w ((w.alloc o).alloc p) := (below_new w o).alloc (by simp) p
theorem mono_two {w w' : World} (o p : Obj) (h : Below ((w.alloc o).alloc p).heap.size ((w.alloc o).alloc p) w') : Below w.heap.size w w' := (below_two w o p).trans (h.mono (by simp; omega))
def ZeroAt (w : World) (b : Nat) : Prop := w.cell? ⟨b, 0, none⟩ = some (.string ⟨#[]⟩) ∧ w.cell? ⟨b, 1, none⟩ = some (.int .i64 0) ∧ w.cell? ⟨b, 2, none⟩ = some (.int .i64 0) ∧ w.cell? ⟨b, 3, none⟩ = some (.int .i64 0) ∧ w.cell? ⟨b, 4, none⟩ = some (.int .i64 0) ∧ w.cell? ⟨b, 5, none⟩ = some (.slice none 0 0) ∧ w.cell? ⟨b, 6, none⟩ = some (.int .i64 0) ∧ w.cell? ⟨b, 7, none⟩ = some (.int .i64 0) ∧ w.cell? ⟨b, 8, none⟩ = some (.int .i64 0) ∧ w.cell? ⟨b, 9, none⟩ = some (.int .i64 0) ∧ w.cell? ⟨b, 10, none⟩ = some (.int .i64 0) ∧ w.cell? ⟨b, 11, none⟩ = some (.slice none 0 0) ∧ w.cell? ⟨b, 12, none⟩ = some (.slice none 0 0)
/-- The zero set in a block of the call's own that can be written. -/
structure ZeroS (w : World) (b : Nat) : Prop where
  cells : ZeroAt w b
  free : ∀ j, w.frozen? ⟨b, j, none⟩ = false
  lt : b < w.heap.size
theorem ZeroS.below {w w' : World} {b : Nat} (h : ZeroS w b) (hb : Below w.heap.size w w') : ZeroS w' b := by
  obtain ⟨a0, a1, a2, a3, a4, a5, a6, a7, a8, a9, a10, a11, a12⟩ := h.cells
  exact ⟨⟨(hb.cell (p := ⟨b, 0, none⟩) h.lt).trans a0, (hb.cell (p := ⟨b, 1, none⟩) h.lt).trans a1, (hb.cell (p := ⟨b, 2, none⟩) h.lt).trans a2, (hb.cell (p := ⟨b, 3, none⟩) h.lt).trans a3, (hb.cell (p := ⟨b, 4, none⟩) h.lt).trans a4, (hb.cell (p := ⟨b, 5, none⟩) h.lt).trans a5, (hb.cell (p := ⟨b, 6, none⟩) h.lt).trans a6, (hb.cell (p := ⟨b, 7, none⟩) h.lt).trans a7, (hb.cell (p := ⟨b, 8, none⟩) h.lt).trans a8, (hb.cell (p := ⟨b, 9, none⟩) h.lt).trans a9, (hb.cell (p := ⟨b, 10, none⟩) h.lt).trans a10, (hb.cell (p := ⟨b, 11, none⟩) h.lt).trans a11, (hb.cell (p := ⟨b, 12, none⟩) h.lt).trans a12⟩, fun j => (hb.frozen (p := ⟨b, j, none⟩) h.lt).trans (h.free j), Nat.lt_of_lt_of_le h.lt hb.size⟩
theorem free_new (w : World) (cs : Array Value) (t : TypeId) (j : Nat) : (w.alloc (.cells cs t)).frozen? ⟨w.heap.size, j, none⟩ = false := by simp
theorem ZeroS.new (w : World) (t : TypeId) : ZeroS (w.alloc (.cells #[.string ⟨#[]⟩, .int .i64 0, .int .i64 0, .int .i64 0, .int .i64 0, .slice none 0 0, .int .i64 0, .int .i64 0, .int .i64 0, .int .i64 0, .int .i64 0, .slice none 0 0, .slice none 0 0] t)) w.heap.size := by
  refine ⟨?_, fun j => free_new _ _ _ _, by simp⟩
  unfold ZeroAt
  simp
theorem own_lt {w : World} {base n size : Nat} {e : TypeId} {v : Value} {xs : List Value} (h : w.ownsRow base e size v n xs) : ∀ b, v.ownBlock = some b → b < w.heap.size := by
  intro b hb
  rcases h.2 with ⟨e, _⟩ | ⟨g, cap, cur, e, _, hg, _⟩
  · subst e; cases hb
  · subst e; cases hb; exact (Array.getElem?_eq_some_iff.1 hg).1
theorem own_far {w w' : World} {base n size m g : Nat} {e : TypeId} {v : Value} {xs : List Value} (h : w.ownsRow base e size v n xs) (hv : ∀ b, v.ownBlock = some b → b < m) (hm : m ≤ g) (hg : w.grownBy w' (some g)) : w'.ownsRow base e size v n xs := by
  refine h.kept hg (.inr fun q => ?_)
  have := hv g q
  omega
/-- A row of stores into a block. -/
def setFrom (w : World) (b : Nat) : Nat → List Value → World
  | _, [] => w
  | j, v :: vs => setFrom (w.setCell ⟨b, j, none⟩ v) b (j + 1) vs
theorem own_from {base size n : Nat} {e : TypeId} {u : Value} {xs : List Value} : ∀ (vs : List Value) (w : World) (b j : Nat), w.ownsRow base e size u n xs → b < base → (setFrom w b j vs).ownsRow base e size u n xs
  | [], _, _, _, h, _ => h
  | v :: vs, _, b, j, h, hb => own_from vs _ b (j + 1) (ownsRow_setCell_below h (a := ⟨b, j, none⟩) hb v) hb
theorem below_from {m b : Nat} {W : World} : ∀ (vs : List Value) (w : World) (j : Nat), Below m W w → m ≤ b → Below m W (setFrom w b j vs)
  | [], _, _, h, _ => h
  | v :: vs, _, j, h, hb => below_from vs _ (j + 1) (h.setCell (p := ⟨b, j, none⟩) hb v) hb
theorem far_from : ∀ (vs : List Value) (w : World) (b j i : Nat), i < j → (setFrom w b j vs).cell? ⟨b, i, none⟩ = w.cell? ⟨b, i, none⟩
  | [], _, _, _, _, _ => rfl
  | v :: vs, w, b, j, i, h => (far_from vs _ b (j + 1) i (by omega)).trans (World.cell?_setCell_other _ _ _ _ (by intro q; injection q with _ q; omega))
theorem read_from : ∀ (vs : List Value) (w : World) (b j : Nat), (∀ i, i < vs.length → (w.cell? ⟨b, j + i, none⟩).isSome = true) → ∀ i (h : i < vs.length), (setFrom w b j vs).cell? ⟨b, j + i, none⟩ = some vs[i]
  | [], _, _, _, _, i, h => absurd h (Nat.not_lt_zero _)
  | v :: vs, w, b, j, hs, i, h => by
    have h0 := hs 0 (by simp)
    obtain ⟨u, hu⟩ := Option.isSome_iff_exists.1 h0
    match i, h with
    | 0, _ => exact (far_from vs _ b (j + 1) (j + 0) (by omega)).trans (World.cell?_setCell_same _ _ _ hu)
    | i + 1, h =>
      have := read_from vs (w.setCell ⟨b, j, none⟩ v) b (j + 1) (fun k hk => by
        rw [World.cell?_setCell_other _ _ _ _ (by intro q; injection q with _ q; omega), show j + 1 + k = j + (k + 1) by omega]
        exact hs (k + 1) (by simpa using hk)) i (by simpa using h)
      rw [show j + (i + 1) = j + 1 + i by omega]
      exact this
theorem withC_flat : ∀ {L : List BrickR} {c : List Int} {k : Nat}, c.length = L.length → k < L.length → (kflat (withC L (c.take k))).set (k * 3 + 2) (.int .i64 (ig c k)) = kflat (withC L (c.take (k + 1)))
  | [], _, _, _, h => absurd h (Nat.not_lt_zero _)
  | b :: t, n :: r, 0, _, _ => by
    show (kflat (b :: t)).set 2 _ = kflat (withC (b :: t) [n])
    simp only [withC]
    rfl
  | b :: t, n :: r, k + 1, h, hk => by
    have := withC_flat (L := t) (c := r) (k := k) (by simpa using h) (by simpa using hk)
    have e : ∀ (b : BrickR) (M : List BrickR), kflat (b :: M) = .string b.name :: .int .i64 b.weight :: .int .i64 b.count :: kflat M := fun _ _ => rfl
    show (kflat (⟨b.name, b.weight, n⟩ :: withC t (r.take k))).set ((k + 1) * 3 + 2) (.int .i64 (ig r k)) = kflat (⟨b.name, b.weight, n⟩ :: withC t (r.take (k + 1)))
    rw [e, e, ← this, show (k + 1) * 3 + 2 = k * 3 + 2 + 1 + 1 + 1 by omega, List.set_cons_succ, List.set_cons_succ, List.set_cons_succ]
  | _ :: _, [], _, h, _ => by simp at h
theorem withC_ok {L : List BrickR} {c : List Int} (ok : BrickOK L) (hc : IsC L c) : BrickOK (withC L c) := by
  obtain ⟨h1, h2⟩ := isC_iff.1 hc
  intro b hb
  obtain ⟨j, hj, rfl⟩ := List.getElem_of_mem hb
  rw [withC_len] at hj
  rw [← bg_eq _ j (by rw [withC_len]; exact hj), withC_at h1 hj]
  have a := ok_bg ok hj
  have b := h2 j hj
  exact ⟨a.1, a.2.1, b.1, by show ig c j ≤ 60; omega⟩
theorem withC_cnt {L : List BrickR} {c : List Int} (hc : IsC L c) : ∀ k, k ≤ L.length → cntTo (withC L c) k ≤ cntTo L k
  | 0, _ => by simp [cntTo]
  | k + 1, hk => by
    obtain ⟨h1, h2⟩ := isC_iff.1 hc
    have a := withC_cnt hc k (by omega)
    have b := h2 k (by omega)
    simp only [cntTo]
    rw [withC_at h1 (by omega)]
    show cntTo (withC L c) k + ig c k ≤ _
    omega
theorem withC_names {L : List BrickR} {c : List Int} (h : c.length = L.length) : (withC L c).map (·.name) = L.map (·.name) := by
  induction L generalizing c with
  | nil => simp [withC]
  | cons b t ih =>
    match c, h with
    | n :: r, h => simp only [withC, List.map_cons, ih (c := r) (by simpa using h)]
    | [], h => simp at h
theorem withC_B {L : List BrickR} {c : List Int} (hL : brickB L = true) (hc : IsC L c) : brickB (withC L c) = true := by
  obtain ⟨a, b, d, e⟩ := brickB_iff.1 hL
  obtain ⟨_, _, _, ok⟩ := brick_ok hL
  obtain ⟨h1, h2⟩ := isC_iff.1 hc
  refine brickB_iff.2 ⟨by rw [withC_len]; exact a, by rw [withC_names h1]; exact b, fun j hj => ?_, ?_⟩
  · rw [withC_len] at hj
    have x := (brick1_iff _).1 (d j hj)
    have y := h2 j hj
    rw [withC_at h1 hj]
    exact (brick1_iff _).2 ⟨x.1, x.2.1, x.2.2.1, y.1, by show ig c j ≤ 60; omega⟩
  · rw [withC_len]
    have := withC_cnt hc L.length (Nat.le_refl _)
    omega
/-- The set with other counts, its lists elsewhere. -/
def loadR (r : SetR) (c : List Int) (la : Option Addr) (lc : Nat) (ia : Option Addr) (ic : Nat) (ba : Option Addr) (bc : Nat) : SetR :=
  { r with la := la, lc := lc, ia := ia, ic := ic, ba := ba, bc := bc, bricks := withC r.bricks c }
theorem load_B {r : SetR} {c : List Int} {la lc ia ic ba bc} (h : setB r = true) (hc : IsC r.bricks c) : setB (loadR r c la lc ia ic ba bc) = true := by
  have k := setB_iff.1 h
  exact setB_iff.2 ⟨k.name, k.depth, k.low, k.length, k.lines, k.pipe, k.arbor, k.purchase, k.most, k.brake, k.items, withC_B k.bricks hc⟩
theorem load_bal {r : SetR} {c : List Int} {la lc ia ic ba bc} (hc : c.length = r.bricks.length) : balanceS (loadR r c la lc ia ic ba bc) = neededS r - sumC r.bricks c := by
  have e : neededS (loadR r c la lc ia ic ba bc) = neededS r := rfl
  unfold balanceS
  rw [e]
  show neededS r - restC (withC r.bricks c) = _
  rw [withC_sum hc]
set_option maxRecDepth 100000 in
set_option maxHeartbeats 1000000 in
theorem cntC_any (n : Int) (w : World) :
    Calls Tryz.prog 32 #[.int .i64 n] w fun e w' => e = .returned (.bool (!betB n 0 60)) ∧ w = w' := by
  have HR : Hid (betB n 0 60 = (decide (0 ≤ n) && decide (n ≤ 60))) := Lib.hid rfl
  by_cases p1 : n < 0
  · have g1 : decide (n < 0) = true := decide_eq_true p1
    rw [decide_eq_false (show ¬ (0 ≤ n) by omega)] at HR
    clear p1
    go_enter Tryz.func32, Tryz.ntmps32
    go_wp2_with fail
    go_ret
    exact ⟨ret_bool (by rw [HR.out]; rfl), rfl⟩
  · have g1 : decide (n < 0) = false := decide_eq_false p1
    rw [decide_eq_true (show 0 ≤ n by omega), Bool.true_and] at HR
    by_cases p2 : 60 < n
    · have g2 : decide (60 < n) = true := decide_eq_true p2
      rw [decide_eq_false (show ¬ (n ≤ 60) by omega)] at HR
      clear p1 p2
      go_enter Tryz.func32, Tryz.ntmps32
      go_wp2_with fail
      go_ret
      exact ⟨ret_bool (by rw [HR.out]; rfl), rfl⟩
    · have g2 : decide (60 < n) = false := decide_eq_false p2
      rw [decide_eq_true (show n ≤ 60 by omega)] at HR
      clear p1 p2
      go_enter Tryz.func32, Tryz.ntmps32
      go_wp2_with fail
      go_ret
      exact ⟨ret_bool (by rw [HR.out]; rfl), rfl⟩
theorem ent_cnt (args : Array Value) (w : World) : (callFunc 32 args).run Tryz.prog w = .ok (.enter 32 args) w := enters_of Tryz.func32 (by kernel_rfl) rfl args w
theorem asks_cnt (n₀ : Nat) (w : World) : AsksN 32 #[] n₀ w (fun n => !betB n 0 60) := by
  intro W r hb
  exact (cntC_any r W).mono fun e w' ⟨h1, h2⟩ => ⟨h1, by rw [h2]; exact Below.refl _ _⟩
theorem cnt_none {L : List BrickR} {c : List Int} (ok : BrickOK L) (hc : IsC L c) : num_any c (fun n => !betB n 0 60) = false := by
  obtain ⟨h1, h2⟩ := isC_iff.1 hc
  rw [num_any_eq, Bool.eq_false_iff]
  intro h
  rw [List.any_eq_true] at h
  obtain ⟨x, hx, e⟩ := h
  obtain ⟨j, hj, rfl⟩ := List.getElem_of_mem hx
  have a := h2 j (by omega)
  have b := ok_bg ok (show j < L.length by omega)
  rw [ig_eq c j hj] at a
  have : betB c[j] 0 60 = true := betB_iff.2 (by omega)
  simp only [this] at e
  cases e
theorem set3_at {w : World} {b : Nat} {r : SetR} (h : SetAt w b r) (v1 v2 v3 : Value) :
    (((w.setCell ⟨b, 5, none⟩ v1).setCell ⟨b, 11, none⟩ v2).setCell ⟨b, 12, none⟩ v3).cell? ⟨b, 0, none⟩ = some (.string r.name) ∧ (((w.setCell ⟨b, 5, none⟩ v1).setCell ⟨b, 11, none⟩ v2).setCell ⟨b, 12, none⟩ v3).cell? ⟨b, 1, none⟩ = some (.int .i64 r.depth) ∧ (((w.setCell ⟨b, 5, none⟩ v1).setCell ⟨b, 11, none⟩ v2).setCell ⟨b, 12, none⟩ v3).cell? ⟨b, 2, none⟩ = some (.int .i64 r.low) ∧ (((w.setCell ⟨b, 5, none⟩ v1).setCell ⟨b, 11, none⟩ v2).setCell ⟨b, 12, none⟩ v3).cell? ⟨b, 3, none⟩ = some (.int .i64 r.high) ∧ (((w.setCell ⟨b, 5, none⟩ v1).setCell ⟨b, 11, none⟩ v2).setCell ⟨b, 12, none⟩ v3).cell? ⟨b, 4, none⟩ = some (.int .i64 r.length) ∧ (((w.setCell ⟨b, 5, none⟩ v1).setCell ⟨b, 11, none⟩ v2).setCell ⟨b, 12, none⟩ v3).cell? ⟨b, 5, none⟩ = some (v1) ∧ (((w.setCell ⟨b, 5, none⟩ v1).setCell ⟨b, 11, none⟩ v2).setCell ⟨b, 12, none⟩ v3).cell? ⟨b, 6, none⟩ = some (.int .i64 r.pipe) ∧ (((w.setCell ⟨b, 5, none⟩ v1).setCell ⟨b, 11, none⟩ v2).setCell ⟨b, 12, none⟩ v3).cell? ⟨b, 7, none⟩ = some (.int .i64 r.arbor) ∧ (((w.setCell ⟨b, 5, none⟩ v1).setCell ⟨b, 11, none⟩ v2).setCell ⟨b, 12, none⟩ v3).cell? ⟨b, 8, none⟩ = some (.int .i64 r.purchase) ∧ (((w.setCell ⟨b, 5, none⟩ v1).setCell ⟨b, 11, none⟩ v2).setCell ⟨b, 12, none⟩ v3).cell? ⟨b, 9, none⟩ = some (.int .i64 r.most) ∧ (((w.setCell ⟨b, 5, none⟩ v1).setCell ⟨b, 11, none⟩ v2).setCell ⟨b, 12, none⟩ v3).cell? ⟨b, 10, none⟩ = some (.int .i64 r.brake) ∧ (((w.setCell ⟨b, 5, none⟩ v1).setCell ⟨b, 11, none⟩ v2).setCell ⟨b, 12, none⟩ v3).cell? ⟨b, 11, none⟩ = some (v2) ∧ (((w.setCell ⟨b, 5, none⟩ v1).setCell ⟨b, 11, none⟩ v2).setCell ⟨b, 12, none⟩ v3).cell? ⟨b, 12, none⟩ = some (v3) := by
  obtain ⟨a0, a1, a2, a3, a4, a5, a6, a7, a8, a9, a10, a11, a12⟩ := h
  have ne : ∀ (W : World) (i j : Nat) (v : Value), j ≠ i → (W.setCell ⟨b, i, none⟩ v).cell? ⟨b, j, none⟩ = W.cell? ⟨b, j, none⟩ := fun W i j v e => World.cell?_setCell_other _ _ _ _ (by intro q; injection q with _ q; exact e q.symm)
  have s5 : (w.setCell ⟨b, 5, none⟩ v1).cell? ⟨b, 5, none⟩ = some v1 := World.cell?_setCell_same _ _ _ a5
  have s11 : ((w.setCell ⟨b, 5, none⟩ v1).setCell ⟨b, 11, none⟩ v2).cell? ⟨b, 11, none⟩ = some v2 := World.cell?_setCell_same _ _ _ ((ne _ 5 11 _ (by decide)).trans a11)
  have s12 : (((w.setCell ⟨b, 5, none⟩ v1).setCell ⟨b, 11, none⟩ v2).setCell ⟨b, 12, none⟩ v3).cell? ⟨b, 12, none⟩ = some v3 := World.cell?_setCell_same _ _ _ ((ne _ 11 12 _ (by decide)).trans ((ne _ 5 12 _ (by decide)).trans a12))
  exact ⟨(ne _ 12 0 _ (by decide)).trans ((ne _ 11 0 _ (by decide)).trans ((ne _ 5 0 _ (by decide)).trans a0)), (ne _ 12 1 _ (by decide)).trans ((ne _ 11 1 _ (by decide)).trans ((ne _ 5 1 _ (by decide)).trans a1)), (ne _ 12 2 _ (by decide)).trans ((ne _ 11 2 _ (by decide)).trans ((ne _ 5 2 _ (by decide)).trans a2)), (ne _ 12 3 _ (by decide)).trans ((ne _ 11 3 _ (by decide)).trans ((ne _ 5 3 _ (by decide)).trans a3)), (ne _ 12 4 _ (by decide)).trans ((ne _ 11 4 _ (by decide)).trans ((ne _ 5 4 _ (by decide)).trans a4)), (ne _ 12 5 _ (by decide)).trans ((ne _ 11 5 _ (by decide)).trans s5), (ne _ 12 6 _ (by decide)).trans ((ne _ 11 6 _ (by decide)).trans ((ne _ 5 6 _ (by decide)).trans a6)), (ne _ 12 7 _ (by decide)).trans ((ne _ 11 7 _ (by decide)).trans ((ne _ 5 7 _ (by decide)).trans a7)), (ne _ 12 8 _ (by decide)).trans ((ne _ 11 8 _ (by decide)).trans ((ne _ 5 8 _ (by decide)).trans a8)), (ne _ 12 9 _ (by decide)).trans ((ne _ 11 9 _ (by decide)).trans ((ne _ 5 9 _ (by decide)).trans a9)), (ne _ 12 10 _ (by decide)).trans ((ne _ 11 10 _ (by decide)).trans ((ne _ 5 10 _ (by decide)).trans a10)), (ne _ 12 11 _ (by decide)).trans s11, s12⟩
def LoadAt (w : World) (b : Nat) (r : SetR) (a1 : Option Addr) (c1 : Nat) (a2 : Option Addr) (c2 : Nat) (a3 : Option Addr) (c3 : Nat) : Prop := w.cell? ⟨b, 0, none⟩ = some (.string r.name) ∧ w.cell? ⟨b, 1, none⟩ = some (.int .i64 r.depth) ∧ w.cell? ⟨b, 2, none⟩ = some (.int .i64 r.low) ∧ w.cell? ⟨b, 3, none⟩ = some (.int .i64 r.high) ∧ w.cell? ⟨b, 4, none⟩ = some (.int .i64 r.length) ∧ w.cell? ⟨b, 5, none⟩ = some (.slice a1 r.lines.length c1) ∧ w.cell? ⟨b, 6, none⟩ = some (.int .i64 r.pipe) ∧ w.cell? ⟨b, 7, none⟩ = some (.int .i64 r.arbor) ∧ w.cell? ⟨b, 8, none⟩ = some (.int .i64 r.purchase) ∧ w.cell? ⟨b, 9, none⟩ = some (.int .i64 r.most) ∧ w.cell? ⟨b, 10, none⟩ = some (.int .i64 r.brake) ∧ w.cell? ⟨b, 11, none⟩ = some (.slice a2 r.items.length c2) ∧ w.cell? ⟨b, 12, none⟩ = some (.slice a3 r.bricks.length c3)
section
variable {w w' : World} {b : Nat} {r : SetR} {a1 a2 a3 : Option Addr} {c1 c2 c3 : Nat}
theorem LoadAt.below (h : LoadAt w b r a1 c1 a2 c2 a3 c3) (hb : Below w.heap.size w w') (hlt : b < w.heap.size) : LoadAt w' b r a1 c1 a2 c2 a3 c3 :=
  let ⟨a20, a21, a22, a23, a24, a25, a26, a27, a28, a29, a30, a31, a32⟩ := h
  ⟨(hb.cell (p := ⟨b, 0, none⟩) hlt).trans a20, (hb.cell (p := ⟨b, 1, none⟩) hlt).trans a21, (hb.cell (p := ⟨b, 2, none⟩) hlt).trans a22, (hb.cell (p := ⟨b, 3, none⟩) hlt).trans a23, (hb.cell (p := ⟨b, 4, none⟩) hlt).trans a24, (hb.cell (p := ⟨b, 5, none⟩) hlt).trans a25, (hb.cell (p := ⟨b, 6, none⟩) hlt).trans a26, (hb.cell (p := ⟨b, 7, none⟩) hlt).trans a27, (hb.cell (p := ⟨b, 8, none⟩) hlt).trans a28, (hb.cell (p := ⟨b, 9, none⟩) hlt).trans a29, (hb.cell (p := ⟨b, 10, none⟩) hlt).trans a30, (hb.cell (p := ⟨b, 11, none⟩) hlt).trans a31, (hb.cell (p := ⟨b, 12, none⟩) hlt).trans a32⟩
theorem LoadAt.set (h : LoadAt w b r a1 c1 a2 c2 a3 c3) {g : Nat} (hne : b ≠ g) (i : Nat) (v : Value) : LoadAt (w.setCell ⟨g, i, none⟩ v) b r a1 c1 a2 c2 a3 c3 :=
  have ne : ∀ j, (w.setCell ⟨g, i, none⟩ v).cell? ⟨b, j, none⟩ = w.cell? ⟨b, j, none⟩ := fun _ => World.cell?_setCell_far _ _ _ _ (fun e => hne e.symm)
  let ⟨a20, a21, a22, a23, a24, a25, a26, a27, a28, a29, a30, a31, a32⟩ := h
  ⟨(ne 0).trans a20, (ne 1).trans a21, (ne 2).trans a22, (ne 3).trans a23, (ne 4).trans a24, (ne 5).trans a25, (ne 6).trans a26, (ne 7).trans a27, (ne 8).trans a28, (ne 9).trans a29, (ne 10).trans a30, (ne 11).trans a31, (ne 12).trans a32⟩
theorem LoadAt.brk (h : LoadAt w b r a1 c1 a2 c2 a3 c3) : w.cell? ⟨b, 12, none⟩ = some (.slice a3 r.bricks.length c3) := h.2.2.2.2.2.2.2.2.2.2.2.2
end
set_option maxRecDepth 100000 in
set_option maxHeartbeats 64000000 in
theorem loaded_any (r : SetR) (ac : Option Addr) (c : List Int) (cc : Nat) (w : World) (hv : setB r = true) (hc : IsC r.bricks c) (hs : SetIn w r) (hN : Nums w.heap.size w ac c) :
    Calls Tryz.prog 11 #[.agg #[.string r.name, .int .i64 r.depth, .int .i64 r.low, .int .i64 r.high, .int .i64 r.length, .slice r.la r.lines.length r.lc, .int .i64 r.pipe, .int .i64 r.arbor, .int .i64 r.purchase, .int .i64 r.most, .int .i64 r.brake, .slice r.ia r.items.length r.ic, .slice r.ba r.bricks.length r.bc], .slice ac c.length cc] w fun e w' => Hid (∃ la lc ia ic ba bc, e = .returned (.tuple #[.agg #[.string r.name, .int .i64 r.depth, .int .i64 r.low, .int .i64 r.high, .int .i64 r.length, .slice la r.lines.length lc, .int .i64 r.pipe, .int .i64 r.arbor, .int .i64 r.purchase, .int .i64 r.most, .int .i64 r.brake, .slice ia r.items.length ic, .slice ba r.bricks.length bc], .int .i64 0]) ∧ SetIn w' (loadR r c la lc ia ic ba bc)) ∧ Below w.heap.size w w' := by
  have hk := setB_iff.1 hv
  obtain ⟨hl8, _, hcnt, hok⟩ := brick_ok hk.bricks
  have HV := Lib.hid hv
  have hlen := isC_len hc
  have HCN := Lib.hid (cnt_none hok hc)
  have HIC := Lib.hid hc
  have HOK := Lib.hid hok
  have HLEN := Lib.hid hlen
  have hl1 : r.lines.length ≤ 1100 := by have := (lines_iff.1 hk.lines).1; omega
  have hl2 : r.items.length ≤ 1100 := by have := (items_iff.1 hk.items).1; omega
  have hl3 : r.bricks.length ≤ 1100 := by omega
  have HNIL := Lib.hid (And.intro hs.lnil (And.intro hs.inil hs.bnil))
  have HNM := Lib.hid (And.intro hs.inames hs.bnames)
  have HCNT : Hid (cntTo (withC r.bricks c) (withC r.bricks c).length ≤ 60) := Lib.hid (by rw [withC_len]; have := withC_cnt hc _ (Nat.le_refl _); omega)
  have g0 : ((c.length : Int) != (r.bricks.length : Int)) = false := bne_eq_false_iff_eq.2 (by omega)
  have g00 : (c.length != r.bricks.length) = false := bne_eq_false_iff_eq.2 (by omega)
  have hcl : c.length ≤ 8 := by omega
  have hb0 := below_two w (.cells #[.string r.name, .int .i64 r.depth, .int .i64 r.low, .int .i64 r.high, .int .i64 r.length, .slice r.la r.lines.length r.lc, .int .i64 r.pipe, .int .i64 r.arbor, .int .i64 r.purchase, .int .i64 r.most, .int .i64 r.brake, .slice r.ia r.items.length r.ic, .slice r.ba r.bricks.length r.bc] 26) (.cells #[.string ⟨#[]⟩, .int .i64 0, .int .i64 0, .int .i64 0, .int .i64 0, .slice none 0 0, .int .i64 0, .int .i64 0, .int .i64 0, .int .i64 0, .int .i64 0, .slice none 0 0, .slice none 0 0] 26)
  have HX : Hid (∀ wx, Below ((w.alloc (.cells #[.string r.name, .int .i64 r.depth, .int .i64 r.low, .int .i64 r.high, .int .i64 r.length, .slice r.la r.lines.length r.lc, .int .i64 r.pipe, .int .i64 r.arbor, .int .i64 r.purchase, .int .i64 r.most, .int .i64 r.brake, .slice r.ia r.items.length r.ic, .slice r.ba r.bricks.length r.bc] 26)).alloc (.cells #[.string ⟨#[]⟩, .int .i64 0, .int .i64 0, .int .i64 0, .int .i64 0, .slice none 0 0, .int .i64 0, .int .i64 0, .int .i64 0, .int .i64 0, .int .i64 0, .slice none 0 0, .slice none 0 0] 26)).heap.size ((w.alloc (.cells #[.string r.name, .int .i64 r.depth, .int .i64 r.low, .int .i64 r.high, .int .i64 r.length, .slice r.la r.lines.length r.lc, .int .i64 r.pipe, .int .i64 r.arbor, .int .i64 r.purchase, .int .i64 r.most, .int .i64 r.brake, .slice r.ia r.items.length r.ic, .slice r.ba r.bricks.length r.bc] 26)).alloc (.cells #[.string ⟨#[]⟩, .int .i64 0, .int .i64 0, .int .i64 0, .int .i64 0, .slice none 0 0, .int .i64 0, .int .i64 0, .int .i64 0, .int .i64 0, .int .i64 0, .slice none 0 0, .slice none 0 0] 26)) wx → Below w.heap.size w wx) := Lib.hid fun wx h => mono_two _ _ h
  have HS : Hid (∀ wx, Below ((w.alloc (.cells #[.string r.name, .int .i64 r.depth, .int .i64 r.low, .int .i64 r.high, .int .i64 r.length, .slice r.la r.lines.length r.lc, .int .i64 r.pipe, .int .i64 r.arbor, .int .i64 r.purchase, .int .i64 r.most, .int .i64 r.brake, .slice r.ia r.items.length r.ic, .slice r.ba r.bricks.length r.bc] 26)).alloc (.cells #[.string ⟨#[]⟩, .int .i64 0, .int .i64 0, .int .i64 0, .int .i64 0, .slice none 0 0, .int .i64 0, .int .i64 0, .int .i64 0, .int .i64 0, .int .i64 0, .slice none 0 0, .slice none 0 0] 26)).heap.size ((w.alloc (.cells #[.string r.name, .int .i64 r.depth, .int .i64 r.low, .int .i64 r.high, .int .i64 r.length, .slice r.la r.lines.length r.lc, .int .i64 r.pipe, .int .i64 r.arbor, .int .i64 r.purchase, .int .i64 r.most, .int .i64 r.brake, .slice r.ia r.items.length r.ic, .slice r.ba r.bricks.length r.bc] 26)).alloc (.cells #[.string ⟨#[]⟩, .int .i64 0, .int .i64 0, .int .i64 0, .int .i64 0, .slice none 0 0, .int .i64 0, .int .i64 0, .int .i64 0, .int .i64 0, .int .i64 0, .slice none 0 0, .slice none 0 0] 26)) wx → SetIn wx r) := Lib.hid fun wx h => (hs.grow hb0).grow h
  have HNC : Hid (∀ wx, Below ((w.alloc (.cells #[.string r.name, .int .i64 r.depth, .int .i64 r.low, .int .i64 r.high, .int .i64 r.length, .slice r.la r.lines.length r.lc, .int .i64 r.pipe, .int .i64 r.arbor, .int .i64 r.purchase, .int .i64 r.most, .int .i64 r.brake, .slice r.ia r.items.length r.ic, .slice r.ba r.bricks.length r.bc] 26)).alloc (.cells #[.string ⟨#[]⟩, .int .i64 0, .int .i64 0, .int .i64 0, .int .i64 0, .slice none 0 0, .int .i64 0, .int .i64 0, .int .i64 0, .int .i64 0, .int .i64 0, .slice none 0 0, .slice none 0 0] 26)).heap.size ((w.alloc (.cells #[.string r.name, .int .i64 r.depth, .int .i64 r.low, .int .i64 r.high, .int .i64 r.length, .slice r.la r.lines.length r.lc, .int .i64 r.pipe, .int .i64 r.arbor, .int .i64 r.purchase, .int .i64 r.most, .int .i64 r.brake, .slice r.ia r.items.length r.ic, .slice r.ba r.bricks.length r.bc] 26)).alloc (.cells #[.string ⟨#[]⟩, .int .i64 0, .int .i64 0, .int .i64 0, .int .i64 0, .slice none 0 0, .int .i64 0, .int .i64 0, .int .i64 0, .int .i64 0, .int .i64 0, .slice none 0 0, .slice none 0 0] 26)) wx → Nums wx.heap.size wx ac c) := Lib.hid fun wx h => (hN.grow hb0).grow h
  have HAT : Hid (∀ wx, Below ((w.alloc (.cells #[.string r.name, .int .i64 r.depth, .int .i64 r.low, .int .i64 r.high, .int .i64 r.length, .slice r.la r.lines.length r.lc, .int .i64 r.pipe, .int .i64 r.arbor, .int .i64 r.purchase, .int .i64 r.most, .int .i64 r.brake, .slice r.ia r.items.length r.ic, .slice r.ba r.bricks.length r.bc] 26)).alloc (.cells #[.string ⟨#[]⟩, .int .i64 0, .int .i64 0, .int .i64 0, .int .i64 0, .slice none 0 0, .int .i64 0, .int .i64 0, .int .i64 0, .int .i64 0, .int .i64 0, .slice none 0 0, .slice none 0 0] 26)).heap.size ((w.alloc (.cells #[.string r.name, .int .i64 r.depth, .int .i64 r.low, .int .i64 r.high, .int .i64 r.length, .slice r.la r.lines.length r.lc, .int .i64 r.pipe, .int .i64 r.arbor, .int .i64 r.purchase, .int .i64 r.most, .int .i64 r.brake, .slice r.ia r.items.length r.ic, .slice r.ba r.bricks.length r.bc] 26)).alloc (.cells #[.string ⟨#[]⟩, .int .i64 0, .int .i64 0, .int .i64 0, .int .i64 0, .slice none 0 0, .int .i64 0, .int .i64 0, .int .i64 0, .int .i64 0, .int .i64 0, .slice none 0 0, .slice none 0 0] 26)) wx → SetAt wx w.heap.size r) := Lib.hid fun wx h => ((SetAt.new w r 26).below (below_new _ _) (by simp)).below h (by simp; omega)
  have HZ : Hid (∀ wx, Below ((w.alloc (.cells #[.string r.name, .int .i64 r.depth, .int .i64 r.low, .int .i64 r.high, .int .i64 r.length, .slice r.la r.lines.length r.lc, .int .i64 r.pipe, .int .i64 r.arbor, .int .i64 r.purchase, .int .i64 r.most, .int .i64 r.brake, .slice r.ia r.items.length r.ic, .slice r.ba r.bricks.length r.bc] 26)).alloc (.cells #[.string ⟨#[]⟩, .int .i64 0, .int .i64 0, .int .i64 0, .int .i64 0, .slice none 0 0, .int .i64 0, .int .i64 0, .int .i64 0, .int .i64 0, .int .i64 0, .slice none 0 0, .slice none 0 0] 26)).heap.size ((w.alloc (.cells #[.string r.name, .int .i64 r.depth, .int .i64 r.low, .int .i64 r.high, .int .i64 r.length, .slice r.la r.lines.length r.lc, .int .i64 r.pipe, .int .i64 r.arbor, .int .i64 r.purchase, .int .i64 r.most, .int .i64 r.brake, .slice r.ia r.items.length r.ic, .slice r.ba r.bricks.length r.bc] 26)).alloc (.cells #[.string ⟨#[]⟩, .int .i64 0, .int .i64 0, .int .i64 0, .int .i64 0, .slice none 0 0, .int .i64 0, .int .i64 0, .int .i64 0, .int .i64 0, .int .i64 0, .slice none 0 0, .slice none 0 0] 26)) wx → ZeroS wx (w.heap.size + 1)) := Lib.hid fun wx h => by
    have := (ZeroS.new (w.alloc (.cells #[.string r.name, .int .i64 r.depth, .int .i64 r.low, .int .i64 r.high, .int .i64 r.length, .slice r.la r.lines.length r.lc, .int .i64 r.pipe, .int .i64 r.arbor, .int .i64 r.purchase, .int .i64 r.most, .int .i64 r.brake, .slice r.ia r.items.length r.ic, .slice r.ba r.bricks.length r.bc] 26)) 26).below h
    simpa using this
  clear hb0 hs hN hv hc hk hok hlen hcnt
  go_enter Tryz.func11, Tryz.ntmps11
  go_wp2_with fail
  generalize ((w.alloc (.cells #[.string r.name, .int .i64 r.depth, .int .i64 r.low, .int .i64 r.high, .int .i64 r.length, .slice r.la r.lines.length r.lc, .int .i64 r.pipe, .int .i64 r.arbor, .int .i64 r.purchase, .int .i64 r.most, .int .i64 r.brake, .slice r.ia r.items.length r.ic, .slice r.ba r.bricks.length r.bc] 26)).alloc (.cells #[.string ⟨#[]⟩, .int .i64 0, .int .i64 0, .int .i64 0, .int .i64 0, .slice none 0 0, .int .i64 0, .int .i64 0, .int .i64 0, .int .i64 0, .int .i64 0, .slice none 0 0, .slice none 0 0] 26)) = W0 at *
  have hB1 := Below.refl W0.heap.size W0
  have x0 : ∀ wx, Below W0.heap.size W0 wx → wx.cell? ⟨w.heap.size, 0, none⟩ = some (.string r.name) := fun wx h => (HAT.out wx h).1
  have x1 : ∀ wx, Below W0.heap.size W0 wx → wx.cell? ⟨w.heap.size, 1, none⟩ = some (.int .i64 r.depth) := fun wx h => (HAT.out wx h).2.1
  have x2 : ∀ wx, Below W0.heap.size W0 wx → wx.cell? ⟨w.heap.size, 2, none⟩ = some (.int .i64 r.low) := fun wx h => (HAT.out wx h).2.2.1
  have x3 : ∀ wx, Below W0.heap.size W0 wx → wx.cell? ⟨w.heap.size, 3, none⟩ = some (.int .i64 r.high) := fun wx h => (HAT.out wx h).2.2.2.1
  have x4 : ∀ wx, Below W0.heap.size W0 wx → wx.cell? ⟨w.heap.size, 4, none⟩ = some (.int .i64 r.length) := fun wx h => (HAT.out wx h).2.2.2.2.1
  have x5 : ∀ wx, Below W0.heap.size W0 wx → wx.cell? ⟨w.heap.size, 5, none⟩ = some (.slice r.la r.lines.length r.lc) := fun wx h => (HAT.out wx h).2.2.2.2.2.1
  have x6 : ∀ wx, Below W0.heap.size W0 wx → wx.cell? ⟨w.heap.size, 6, none⟩ = some (.int .i64 r.pipe) := fun wx h => (HAT.out wx h).2.2.2.2.2.2.1
  have x7 : ∀ wx, Below W0.heap.size W0 wx → wx.cell? ⟨w.heap.size, 7, none⟩ = some (.int .i64 r.arbor) := fun wx h => (HAT.out wx h).2.2.2.2.2.2.2.1
  have x8 : ∀ wx, Below W0.heap.size W0 wx → wx.cell? ⟨w.heap.size, 8, none⟩ = some (.int .i64 r.purchase) := fun wx h => (HAT.out wx h).2.2.2.2.2.2.2.2.1
  have x9 : ∀ wx, Below W0.heap.size W0 wx → wx.cell? ⟨w.heap.size, 9, none⟩ = some (.int .i64 r.most) := fun wx h => (HAT.out wx h).2.2.2.2.2.2.2.2.2.1
  have x10 : ∀ wx, Below W0.heap.size W0 wx → wx.cell? ⟨w.heap.size, 10, none⟩ = some (.int .i64 r.brake) := fun wx h => (HAT.out wx h).2.2.2.2.2.2.2.2.2.2.1
  have x11 : ∀ wx, Below W0.heap.size W0 wx → wx.cell? ⟨w.heap.size, 11, none⟩ = some (.slice r.ia r.items.length r.ic) := fun wx h => (HAT.out wx h).2.2.2.2.2.2.2.2.2.2.2.1
  have x12 : ∀ wx, Below W0.heap.size W0 wx → wx.cell? ⟨w.heap.size, 12, none⟩ = some (.slice r.ba r.bricks.length r.bc) := fun wx h => (HAT.out wx h).2.2.2.2.2.2.2.2.2.2.2.2
  go_upto_region 8 with (first
    | (go_at_call 30; (with_reducible refine (batvalid_any r _ (HS.out _ hB1)).mono ?_); rintro e w2 ⟨rfl, hb⟩; rw [HV.out]; have hB2 := hB1.trans (hb.mono hB1.size); clear hb)
    | (go_at_call 31; (with_reducible refine (num_containsFunc ac c cc _ _ _ (fun n => !betB n 0 60) _ ent_cnt (by omega) (Nat.le_refl _) (HNC.out _ hB2) (asks_cnt _ _)).mono ?_); rintro e w3 ⟨rfl, hb⟩; rw [HCN.out]; have hB3 := hB2.trans (hb.mono hB2.size); clear hb))
  have hB7 : Below W0.heap.size W0 (w3.alloc (.cells #[.string r.name, .int .i64 r.depth, .int .i64 r.low, .int .i64 r.high, .int .i64 r.length, .slice r.la r.lines.length r.lc, .int .i64 r.pipe, .int .i64 r.arbor, .int .i64 r.purchase, .int .i64 r.most, .int .i64 r.brake, .slice r.ia r.items.length r.ic, .slice r.ba r.bricks.length r.bc] 26)) := hB3.alloc hB3.size _
  have hA7 := SetAt.new w3 r 26
  have hf7 := fun j => free_new w3 #[.string r.name, .int .i64 r.depth, .int .i64 r.low, .int .i64 r.high, .int .i64 r.length, .slice r.la r.lines.length r.lc, .int .i64 r.pipe, .int .i64 r.arbor, .int .i64 r.purchase, .int .i64 r.most, .int .i64 r.brake, .slice r.ia r.items.length r.ic, .slice r.ba r.bricks.length r.bc] 26 j
  have hz7 : w3.heap.size < (w3.alloc (.cells #[.string r.name, .int .i64 r.depth, .int .i64 r.low, .int .i64 r.high, .int .i64 r.length, .slice r.la r.lines.length r.lc, .int .i64 r.pipe, .int .i64 r.arbor, .int .i64 r.purchase, .int .i64 r.most, .int .i64 r.brake, .slice r.ia r.items.length r.ic, .slice r.ba r.bricks.length r.bc] 26)).heap.size := by simp
  have HB6 := Lib.hid hB3.size
  clear hB2 hB3
  generalize hB6 : w3.heap.size = B6 at *
  generalize (w3.alloc (.cells #[.string r.name, .int .i64 r.depth, .int .i64 r.low, .int .i64 r.high, .int .i64 r.length, .slice r.la r.lines.length r.lc, .int .i64 r.pipe, .int .i64 r.arbor, .int .i64 r.purchase, .int .i64 r.most, .int .i64 r.brake, .slice r.ia r.items.length r.ic, .slice r.ba r.bricks.length r.bc] 26)) = W7 at *
  have HB7 := Lib.hid hB7
  have HS7 := Lib.hid (And.intro hA7 (And.intro hf7 hz7))
  have HW : Hid (∀ (w8 w9 w10 : World), Below W7.drew.heap.size W7.drew w8 → Below w8.heap.size w8 w9 → Below w9.heap.size w9 w10 → w10.cell? ⟨B6, 5, none⟩ = some (.slice r.la r.lines.length r.lc) ∧ w10.frozen? ⟨B6, 5, none⟩ = false ∧ ((∀ v1, (w10.setCell ⟨B6, 5, none⟩ v1).cell? ⟨B6, 11, none⟩ = some (.slice r.ia r.items.length r.ic) ∧ (w10.setCell ⟨B6, 5, none⟩ v1).frozen? ⟨B6, 11, none⟩ = false) ∧ (∀ v1 v2, ((w10.setCell ⟨B6, 5, none⟩ v1).setCell ⟨B6, 11, none⟩ v2).cell? ⟨B6, 12, none⟩ = some (.slice r.ba r.bricks.length r.bc) ∧ ((w10.setCell ⟨B6, 5, none⟩ v1).setCell ⟨B6, 11, none⟩ v2).frozen? ⟨B6, 12, none⟩ = false) ∧ SetAt w10 B6 r ∧ (∀ j, w10.frozen? ⟨B6, j, none⟩ = false) ∧ B6 < w10.heap.size)) := Lib.hid fun w8 w9 w10 k1 k2 k3 => by
    have hbb : Below W7.heap.size W7 w10 := (Below.refl _ _).drew.trans ((k1.mono (Nat.le_refl _)).trans ((k2.mono k1.size).trans (k3.mono (Nat.le_trans k1.size k2.size))))
    have ha := HS7.out.1.below hbb HS7.out.2.2
    have hf : ∀ j, w10.frozen? ⟨B6, j, none⟩ = false := fun j => (hbb.frozen (p := ⟨B6, j, none⟩) HS7.out.2.2).trans (HS7.out.2.1 j)
    have ne : ∀ (W : World) (i j : Nat) (v : Value), j ≠ i → (W.setCell ⟨B6, i, none⟩ v).cell? ⟨B6, j, none⟩ = W.cell? ⟨B6, j, none⟩ := fun W i j v e => World.cell?_setCell_other _ _ _ _ (by intro q; injection q with _ q; exact e q.symm)
    have ha' := ha
    obtain ⟨_, _, _, _, _, a5, _, _, _, _, _, a11, a12⟩ := ha'
    exact ⟨a5, hf 5, fun v1 => ⟨(ne _ _ _ _ (by decide)).trans a11, (World.frozen?_setCell _ _ _ _).trans (hf 11)⟩, fun v1 v2 => ⟨(ne _ _ _ _ (by decide)).trans ((ne _ _ _ _ (by decide)).trans a12), ((World.frozen?_setCell _ _ _ _).trans (World.frozen?_setCell _ _ _ _)).trans (hf 12)⟩, ha, hf, Nat.lt_of_lt_of_le HS7.out.2.2 hbb.size⟩
  clear hA7 hf7 hz7
  refine wp_region_held_drew (S := (fun w' => Below W0.heap.size W0 w')) (by kernel_rfl) (hB7.drew) (fun hHeld => ?_)
  refine wpAnyH_take (i := 0) (oi := _) (v := ?_) rfl (by kernel_rfl) (by kernel_rfl) (by kernel_rfl) (fun _ _ _ h => h) (Or.inl ⟨by rfl, ?_⟩) (by assumption) ?_
  rotate_left
  · (intro w hSw; (try dsimp only at hSw); (try simp only [List.getElem_toArray, List.getElem_cons_zero]); go_simp; try with_reducible rfl)
  simp only [Act.put, List.setIfInBounds_toArray, List.set_cons_zero, List.set_cons_succ, List.getElem_toArray, List.getElem_cons_zero]
  refine wpAnyH_take (i := 1) (oi := _) (v := ?_) rfl (by kernel_rfl) (by kernel_rfl) (by kernel_rfl) (fun _ _ _ h => h) (Or.inl ⟨by rfl, ?_⟩) (by assumption) ?_
  rotate_left
  · (intro w hSw; (try dsimp only at hSw); (try simp only [List.getElem_toArray, List.getElem_cons_succ, List.getElem_cons_zero]); go_simp; try with_reducible rfl)
  simp only [Act.put, List.setIfInBounds_toArray, List.set_cons_zero, List.set_cons_succ, List.getElem_toArray, List.getElem_cons_succ, List.getElem_cons_zero]
  refine wpAnyH_take (i := 3) (oi := _) (v := ?_) rfl (by kernel_rfl) (by kernel_rfl) (by kernel_rfl) (fun _ _ _ h => h) (Or.inl ⟨by rfl, ?_⟩) (by assumption) ?_
  rotate_left
  · (intro w hSw; (try dsimp only at hSw); (try simp only [List.getElem_toArray, List.getElem_cons_succ, List.getElem_cons_zero]); go_simp; try with_reducible rfl)
  simp only [Act.put, List.setIfInBounds_toArray, List.set_cons_zero, List.set_cons_succ, List.getElem_toArray, List.getElem_cons_succ, List.getElem_cons_zero]
  refine wpAnyH_take (i := 4) (oi := _) (v := ?_) rfl (by kernel_rfl) (by kernel_rfl) (by kernel_rfl) (fun _ _ _ h => h) (Or.inl ⟨by rfl, ?_⟩) (by assumption) ?_
  rotate_left
  · (intro w hSw; (try dsimp only at hSw); (try simp only [List.getElem_toArray, List.getElem_cons_succ, List.getElem_cons_zero]); go_simp; try with_reducible rfl)
  simp only [Act.put, List.setIfInBounds_toArray, List.set_cons_zero, List.set_cons_succ, List.getElem_toArray, List.getElem_cons_succ, List.getElem_cons_zero]
  refine wpAnyH_take (i := 6) (oi := _) (v := ?_) rfl (by kernel_rfl) (by kernel_rfl) (by kernel_rfl) (fun _ _ _ h => h) (Or.inl ⟨by rfl, ?_⟩) (by assumption) ?_
  rotate_left
  · (intro w hSw; (try dsimp only at hSw); (try simp only [List.getElem_toArray, List.getElem_cons_succ, List.getElem_cons_zero]); go_simp; try with_reducible rfl)
  simp only [Act.put, List.setIfInBounds_toArray, List.set_cons_zero, List.set_cons_succ, List.getElem_toArray, List.getElem_cons_succ, List.getElem_cons_zero]
  refine wpAnyH_take (i := 7) (oi := _) (v := ?_) rfl (by kernel_rfl) (by kernel_rfl) (by kernel_rfl) (fun _ _ _ h => h) (Or.inl ⟨by rfl, ?_⟩) (by assumption) ?_
  rotate_left
  · (intro w hSw; (try dsimp only at hSw); (try simp only [List.getElem_toArray, List.getElem_cons_succ, List.getElem_cons_zero]); go_simp; try with_reducible rfl)
  simp only [Act.put, List.setIfInBounds_toArray, List.set_cons_zero, List.set_cons_succ, List.getElem_toArray, List.getElem_cons_succ, List.getElem_cons_zero]
  refine wpAnyH_ready (rs := [2]) (by kernel_rfl) (by simp) ?_
  refine AllReadyH.cons (o := _) rfl (fun K hK => ?_) AllReadyH.nil
  try simp only [List.getElem_toArray, List.getElem_cons_succ, List.getElem_cons_zero]
  go_simp
  (go_at_call 33; go_split_ands; (with_reducible refine (num_clone r.la r.lines r.lc _ hl1 HNIL.out.1 (HS.out _ hHeld).lines).mono ?_); rintro e w8 hx; obtain ⟨v1, rfl, hr, hb⟩ := hx.out; obtain ⟨a1, c1, rfl, hcc1, _, hnn1, _⟩ := num_of_row hr; have HR1 := Lib.hid hr; have HB1 := Lib.hid hb; have HC1 := Lib.hid hcc1; have HN1 := Lib.hid hnn1; clear hx hr hcc1 hnn1)
  go_wp2_with fail
  refine hK.out _ _ (hHeld.trans (hb.mono hHeld.size)) (fun hHeld => ?_)
  clear hK K
  try simp only [Act.put, List.setIfInBounds_toArray, List.set_cons_zero, List.set_cons_succ, List.getElem_toArray, List.getElem_cons_succ, List.getElem_cons_zero]
  refine wpAnyH_take (i := 9) (oi := _) (v := ?_) rfl (by kernel_rfl) (by kernel_rfl) (by kernel_rfl) (fun _ _ _ h => h) (Or.inl ⟨by rfl, ?_⟩) (by assumption) ?_
  rotate_left
  · (intro w hSw; (try dsimp only at hSw); (try simp only [List.getElem_toArray, List.getElem_cons_succ, List.getElem_cons_zero]); go_simp; try with_reducible rfl)
  simp only [Act.put, List.setIfInBounds_toArray, List.set_cons_zero, List.set_cons_succ, List.getElem_toArray, List.getElem_cons_succ, List.getElem_cons_zero]
  refine wpAnyH_ready (rs := [5]) (by kernel_rfl) (by simp) ?_
  refine AllReadyH.cons (o := _) rfl (fun K hK => ?_) AllReadyH.nil
  try simp only [List.getElem_toArray, List.getElem_cons_succ, List.getElem_cons_zero]
  go_simp
  (go_at_call 34; go_split_ands; (with_reducible refine (item_clone r.ia r.items r.ic _ hl2 HNIL.out.2.1 (HS.out _ hHeld).items).mono ?_); rintro e w9 hx; obtain ⟨v2, rfl, hr, hb⟩ := hx.out; obtain ⟨a2, c2, rfl, hcc2, _, hnn2, _⟩ := item_of_row hr; have HR2 := Lib.hid hr; have HB2 := Lib.hid hb; have HC2 := Lib.hid hcc2; have HN2 := Lib.hid hnn2; clear hx hr hcc2 hnn2)
  go_wp2_with fail
  refine hK.out _ _ (hHeld.trans (hb.mono hHeld.size)) (fun hHeld => ?_)
  clear hK K
  try simp only [Act.put, List.setIfInBounds_toArray, List.set_cons_zero, List.set_cons_succ, List.getElem_toArray, List.getElem_cons_succ, List.getElem_cons_zero]
  refine wpAnyH_ready (rs := [8]) (by kernel_rfl) (by simp) ?_
  refine AllReadyH.cons (o := _) rfl (fun K hK => ?_) AllReadyH.nil
  try simp only [List.getElem_toArray, List.getElem_cons_succ, List.getElem_cons_zero]
  go_simp
  (go_at_call 35; go_split_ands; (with_reducible refine (brick_clone r.ba r.bricks r.bc _ hl3 HNIL.out.2.2 (HS.out _ hHeld).bricks).mono ?_); rintro e w10 hx; obtain ⟨v3, rfl, hr, hb⟩ := hx.out; obtain ⟨a3, c3, rfl, hcc3, _, hnn3, _⟩ := brick_of_row hr; have HR3 := Lib.hid hr; have HB3 := Lib.hid hb; have HC3 := Lib.hid hcc3; have HN3 := Lib.hid hnn3; clear hx hr hcc3 hnn3)
  go_wp2_with fail
  refine hK.out _ _ (hHeld.trans (hb.mono hHeld.size)) (fun hHeld => ?_)
  clear hK K
  try simp only [Act.put, List.setIfInBounds_toArray, List.set_cons_zero, List.set_cons_succ, List.getElem_toArray, List.getElem_cons_succ, List.getElem_cons_zero]
  refine wpAnyH_ready (rs := [10]) (by kernel_rfl) (by simp) ?_
  refine AllReadyH.cons (o := _) rfl (fun K hK => ?_) AllReadyH.nil
  have qa := (HW.out _ _ w10 HB1.out HB2.out HB3.out).1
  have qb := (HW.out _ _ w10 HB1.out HB2.out HB3.out).2.1
  have HT := Lib.hid (HW.out _ _ w10 HB1.out HB2.out HB3.out).2.2
  try simp only [List.getElem_toArray, List.getElem_cons_succ, List.getElem_cons_zero]
  go_simp
  refine hK.out _ _ (hHeld.setCell (show W0.heap.size ≤ B6 from HB6.out) _) (fun hHeld => ?_)
  clear hK K
  try simp only [Act.put, List.setIfInBounds_toArray, List.set_cons_zero, List.set_cons_succ, List.getElem_toArray, List.getElem_cons_succ, List.getElem_cons_zero]
  refine wpAnyH_take (i := 11) (oi := _) (v := ?_) rfl (by kernel_rfl) (by kernel_rfl) (by kernel_rfl) (fun _ _ _ h => h) (Or.inl ⟨by rfl, ?_⟩) (by assumption) ?_
  rotate_left
  · (intro w hSw; (try dsimp only at hSw); (try simp only [List.getElem_toArray, List.getElem_cons_succ, List.getElem_cons_zero]); go_simp; try with_reducible rfl)
  simp only [Act.put, List.setIfInBounds_toArray, List.set_cons_zero, List.set_cons_succ, List.getElem_toArray, List.getElem_cons_succ, List.getElem_cons_zero]
  refine wpAnyH_ready (rs := [12]) (by kernel_rfl) (by simp) ?_
  refine AllReadyH.cons (o := _) rfl (fun K hK => ?_) AllReadyH.nil
  clear qa qb
  have qa := (HT.out.1 (.slice a1 r.lines.length c1)).1
  have qb := (HT.out.1 (.slice a1 r.lines.length c1)).2
  try simp only [List.getElem_toArray, List.getElem_cons_succ, List.getElem_cons_zero]
  go_simp
  refine hK.out _ _ (hHeld.setCell (show W0.heap.size ≤ B6 from HB6.out) _) (fun hHeld => ?_)
  clear hK K
  try simp only [Act.put, List.setIfInBounds_toArray, List.set_cons_zero, List.set_cons_succ, List.getElem_toArray, List.getElem_cons_succ, List.getElem_cons_zero]
  refine wpAnyH_take (i := 13) (oi := _) (v := ?_) rfl (by kernel_rfl) (by kernel_rfl) (by kernel_rfl) (fun _ _ _ h => h) (Or.inl ⟨by rfl, ?_⟩) (by assumption) ?_
  rotate_left
  · (intro w hSw; (try dsimp only at hSw); (try simp only [List.getElem_toArray, List.getElem_cons_succ, List.getElem_cons_zero]); go_simp; try with_reducible rfl)
  simp only [Act.put, List.setIfInBounds_toArray, List.set_cons_zero, List.set_cons_succ, List.getElem_toArray, List.getElem_cons_succ, List.getElem_cons_zero]
  refine wpAnyH_ready (rs := [14]) (by kernel_rfl) (by simp) ?_
  refine AllReadyH.cons (o := _) rfl (fun K hK => ?_) AllReadyH.nil
  clear qa qb
  have qa := (HT.out.2.1 (.slice a1 r.lines.length c1) (.slice a2 r.items.length c2)).1
  have qb := (HT.out.2.1 (.slice a1 r.lines.length c1) (.slice a2 r.items.length c2)).2
  try simp only [List.getElem_toArray, List.getElem_cons_succ, List.getElem_cons_zero]
  go_simp
  refine hK.out _ _ (hHeld.setCell (show W0.heap.size ≤ B6 from HB6.out) _) (fun hHeld => ?_)
  clear hK K
  try simp only [Act.put, List.setIfInBounds_toArray, List.set_cons_zero, List.set_cons_succ, List.getElem_toArray, List.getElem_cons_succ, List.getElem_cons_zero]
  refine wpAnyH_done (by kernel_rfl) ?_ _
  have hWf := hHeld
  have hT := HT.out.2.2
  have e3 := set3_at hT.1 (.slice a1 r.lines.length c1) (.slice a2 r.items.length c2) (.slice a3 r.bricks.length c3)
  have s78 : W7.drew.heap.size ≤ w8.heap.size := HB1.out.size
  have s89 := HB2.out.size
  have hb67 : B6 < W7.drew.heap.size := HS7.out.2.2
  have r1 : (((w10.setCell ⟨B6, 5, none⟩ (.slice a1 r.lines.length c1)).setCell ⟨B6, 11, none⟩ (.slice a2 r.items.length c2)).setCell ⟨B6, 12, none⟩ (.slice a3 r.bricks.length c3)).ownsRow W7.drew.heap.size 3 1 (.slice a1 r.lines.length c1) r.lines.length (nflat r.lines) :=
    ownsRow_setCell_below (ownsRow_setCell_below (ownsRow_setCell_below (ownsRow_below (ownsRow_below HR1.out HB2.out) HB3.out) (a := ⟨B6, 5, none⟩) hb67 _) (a := ⟨B6, 11, none⟩) hb67 _) (a := ⟨B6, 12, none⟩) hb67 _
  have r2 : (((w10.setCell ⟨B6, 5, none⟩ (.slice a1 r.lines.length c1)).setCell ⟨B6, 11, none⟩ (.slice a2 r.items.length c2)).setCell ⟨B6, 12, none⟩ (.slice a3 r.bricks.length c3)).ownsRow w8.heap.size 47 7 (.slice a2 r.items.length c2) r.items.length (tflat r.items) :=
    ownsRow_setCell_below (ownsRow_setCell_below (ownsRow_setCell_below (ownsRow_below HR2.out HB3.out) (a := ⟨B6, 5, none⟩) (Nat.lt_of_lt_of_le hb67 s78) _) (a := ⟨B6, 11, none⟩) (Nat.lt_of_lt_of_le hb67 s78) _) (a := ⟨B6, 12, none⟩) (Nat.lt_of_lt_of_le hb67 s78) _
  have r3 : (((w10.setCell ⟨B6, 5, none⟩ (.slice a1 r.lines.length c1)).setCell ⟨B6, 11, none⟩ (.slice a2 r.items.length c2)).setCell ⟨B6, 12, none⟩ (.slice a3 r.bricks.length c3)).ownsRow w9.heap.size 49 3 (.slice a3 r.bricks.length c3) r.bricks.length (kflat (withC r.bricks (c.take 0))) := by
    have q : B6 < w9.heap.size := Nat.lt_of_lt_of_le hb67 (Nat.le_trans s78 s89)
    have e : withC r.bricks (c.take 0) = r.bricks := by rw [List.take_zero]; cases r.bricks <;> rfl
    rw [e]
    exact ownsRow_setCell_below (ownsRow_setCell_below (ownsRow_setCell_below HR3.out (a := ⟨B6, 5, none⟩) q _) (a := ⟨B6, 11, none⟩) q _) (a := ⟨B6, 12, none⟩) q _
  have HL1 := Lib.hid (own_lt HR1.out)
  have HL2 := Lib.hid (own_lt HR2.out)
  have HSZ : Hid (B6 < w9.heap.size ∧ w8.heap.size ≤ w9.heap.size) := Lib.hid ⟨Nat.lt_of_lt_of_le hb67 (Nat.le_trans s78 s89), s89⟩
  have HBS : Hid (W0.heap.size ≤ w9.heap.size ∧ B6 < (((w10.setCell ⟨B6, 5, none⟩ (.slice a1 r.lines.length c1)).setCell ⟨B6, 11, none⟩ (.slice a2 r.items.length c2)).setCell ⟨B6, 12, none⟩ (.slice a3 r.bricks.length c3)).heap.size) := Lib.hid ⟨by have := HB6.out; have := Nat.le_trans s78 s89; omega, by have := hT.2.2; simpa using this⟩
  have HQ1 := Lib.hid r1
  have HQ2 := Lib.hid r2
  have HQ3 := Lib.hid r3
  have HE3 : Hid (LoadAt (((w10.setCell ⟨B6, 5, none⟩ (.slice a1 r.lines.length c1)).setCell ⟨B6, 11, none⟩ (.slice a2 r.items.length c2)).setCell ⟨B6, 12, none⟩ (.slice a3 r.bricks.length c3)) B6 r a1 c1 a2 c2 a3 c3) := Lib.hid e3
  clear r1 r2 r3 e3 hT s78 s89 hb67 qa qb hHeld hB7
  generalize (((w10.setCell ⟨B6, 5, none⟩ (.slice a1 r.lines.length c1)).setCell ⟨B6, 11, none⟩ (.slice a2 r.items.length c2)).setCell ⟨B6, 12, none⟩ (.slice a3 r.bricks.length c3)) = Wf at *
  go_wp2_with fail
  go_loopw [43] (fun v wr => ∃ k : Nat, k ≤ c.length ∧ v = .int .i64 k ∧ Hid (wr.ownsRow w9.heap.size 49 3 (.slice a3 r.bricks.length c3) r.bricks.length (kflat (withC r.bricks (c.take k)))) ∧ Hid (wr.ownsRow W7.drew.heap.size 3 1 (.slice a1 r.lines.length c1) r.lines.length (nflat r.lines)) ∧ Hid (wr.ownsRow w8.heap.size 47 7 (.slice a2 r.items.length c2) r.items.length (tflat r.items)) ∧ Hid (LoadAt wr B6 r a1 c1 a2 c2 a3 c3) ∧ Hid (B6 < wr.heap.size) ∧ Below W0.heap.size W0 wr) (fun v _ => c.length - (intOf v).toNat)
  case atStart => exact ⟨0, Nat.zero_le _, rfl, HQ3, HQ1, HQ2, HE3, Lib.hid HBS.out.2, hWf⟩
  case round =>
    obtain ⟨k, hk, rfl, HP3, HP1, HP2, HLA, HBL, hB⟩ := hrel
    clear HQ1 HQ2 HQ3 HE3
    by_cases hlt : k < c.length
    · obtain ⟨bn, on, rfl, hbn, hcn⟩ := (HNC.out wr hB) (by omega)
      have y1 := hcn k hlt
      have hkb : k < r.bricks.length := by have := HLEN.out; omega
      obtain ⟨g, rfl, hg1, hg2⟩ := row_addr HP3.out (by omega)
      have o1 : wr.cell? ⟨g, k * 3 + 2, none⟩ = some (.int .i64 (bg (withC r.bricks (c.take k)) k).count) := by
        rw [HP3.out.cellAt (k * 3 + 2) (by omega)]
        exact (kflat_at _ k (by rw [withC_len]; exact hkb)).2.2
      have o2 := HP3.out.frozenAt (k * 3 + 2)
      obtain ⟨st1, st2⟩ := HP3.out.stored (k * 3 + 2) (.int .i64 (ig c k))
      rw [withC_flat HLEN.out hkb] at st1
      have HST := Lib.hid st1
      have HP1' := Lib.hid (own_far HP1.out HL1.out (Nat.le_trans HSZ.out.2 hg1) st2)
      have HP2' := Lib.hid (own_far HP2.out HL2.out hg1 st2)
      have HLA' := Lib.hid (HLA.out.set (show B6 ≠ g by have := HSZ.out.1; omega) (k * 3 + 2) (.int .i64 (ig c k)))
      have HBL' : Hid (B6 < (wr.setCell ⟨g, k * 3 + 2, none⟩ (.int .i64 (ig c k))).heap.size) := Lib.hid (by have := HBL.out; simpa using this)
      have hB' := hB.setCell (p := ⟨g, k * 3 + 2, none⟩) (show W0.heap.size ≤ g by have := HBS.out.1; omega) (.int .i64 (ig c k))
      have u12 := HLA.out.brk
      have k2 : (k : Int) < r.bricks.length := by omega
      have k3 : (k : Int) < c.length := by omega
      clear hcn st1 st2
      go_wp2_with fail
      go_roundw
      case rel => exact ⟨k + 1, by omega, by go_num, HST, HP1', HP2', HLA', HBL', hB'⟩
      case measure => simp [intOf]; omega
    · obtain rfl : k = c.length := by omega
      rw [List.take_length] at HP3
      have HP4 : Hid (wr.ownsRow w9.heap.size 49 3 (.slice a3 (withC r.bricks c).length c3) (withC r.bricks c).length (kflat (withC r.bricks c))) := Lib.hid (by
        have := HP3.out
        rw [← withC_len r.bricks c] at this
        exact this)
      have HBK : Hid (Bricks wr.heap.size wr a3 (withC r.bricks c)) := Lib.hid (by
        obtain ⟨a, cp, e, _, _, _, q⟩ := brick_of_row HP4.out
        cases e
        exact q)
      obtain ⟨N, hN⟩ : ∃ N, cntTo (withC r.bricks c) r.bricks.length = N := ⟨_, rfl⟩
      have HTH : Hid (Calls Tryz.prog 36 #[.agg #[.string r.name, .int .i64 r.depth, .int .i64 r.low, .int .i64 r.high, .int .i64 r.length, .slice a1 r.lines.length c1, .int .i64 r.pipe, .int .i64 r.arbor, .int .i64 r.purchase, .int .i64 r.most, .int .i64 r.brake, .slice a2 r.items.length c2, .slice a3 r.bricks.length c3]] wr fun e w' => e = .returned (.tuple #[.int .i64 (restC (withC r.bricks c)), .int .i64 N]) ∧ Below wr.heap.size wr w') := Lib.hid (by
        have := there_any (loadR r c a1 c1 a2 c2 a3 c3) wr (withC_ok HOK.out HIC.out) (by show (withC r.bricks c).length ≤ 8; rw [withC_len]; exact hl8) HBK.out
        rw [show (loadR r c a1 c1 a2 c2 a3 c3).bricks.length = r.bricks.length from withC_len _ _] at this
        rw [← hN]
        exact this)
      have gN : decide (60 < N) = false := decide_eq_false (by have := HCNT.out; rw [withC_len] at this; omega)
      obtain ⟨u0, u1, u2, u3, u4, u5, u6, u7, u8, u9, u10, u11, u12⟩ := HLA.out
      clear hN HP3
      go_wp2_with (go_at_call 36; (with_reducible refine HTH.out.mono ?_); rintro e w11 ⟨rfl, hb11⟩; obtain ⟨t0, t1, t2, t3, t4, t5, t6, t7, t8, t9, t10, t11, t12⟩ := HLA.out.below hb11 HBL.out; have hB11 := hB.trans (hb11.mono hB.size); have HH11 := Lib.hid hb11; have hz4 := HZ.out w11 hB11; obtain ⟨z0, z1, z2, z3, z4, z5, z6, z7, z8, z9, z10, z11, z12⟩ := hz4.cells; have hzf := hz4.free; have hzl := hz4.lt; clear hz4 hb11)
      show bodyPost _ _ _ Exit.ret _ (setFrom w11 (w.heap.size + 1) 0 [.string r.name, .int .i64 r.depth, .int .i64 r.low, .int .i64 r.high, .int .i64 r.length, .slice a1 r.lines.length c1, .int .i64 r.pipe, .int .i64 r.arbor, .int .i64 r.purchase, .int .i64 r.most, .int .i64 r.brake, .slice a2 r.items.length c2, .slice a3 r.bricks.length c3])
      have hB4 : w.heap.size + 1 < W0.heap.size := (HZ.out W0 hB1).lt
      have hsz : W0.heap.size ≤ W7.drew.heap.size := HB7.out.size
      have hrd := read_from [.string r.name, .int .i64 r.depth, .int .i64 r.low, .int .i64 r.high, .int .i64 r.length, .slice a1 r.lines.length c1, .int .i64 r.pipe, .int .i64 r.arbor, .int .i64 r.purchase, .int .i64 r.most, .int .i64 r.brake, .slice a2 r.items.length c2, .slice a3 r.bricks.length c3] w11 (w.heap.size + 1) 0 (by
        intro i hi
        match i, hi with
        | 0, _ => rw [show 0 + 0 = 0 by omega, z0]; rfl
        | 1, _ => rw [show 0 + 1 = 1 by omega, z1]; rfl
        | 2, _ => rw [show 0 + 2 = 2 by omega, z2]; rfl
        | 3, _ => rw [show 0 + 3 = 3 by omega, z3]; rfl
        | 4, _ => rw [show 0 + 4 = 4 by omega, z4]; rfl
        | 5, _ => rw [show 0 + 5 = 5 by omega, z5]; rfl
        | 6, _ => rw [show 0 + 6 = 6 by omega, z6]; rfl
        | 7, _ => rw [show 0 + 7 = 7 by omega, z7]; rfl
        | 8, _ => rw [show 0 + 8 = 8 by omega, z8]; rfl
        | 9, _ => rw [show 0 + 9 = 9 by omega, z9]; rfl
        | 10, _ => rw [show 0 + 10 = 10 by omega, z10]; rfl
        | 11, _ => rw [show 0 + 11 = 11 by omega, z11]; rfl
        | 12, _ => rw [show 0 + 12 = 12 by omega, z12]; rfl
        | n + 13, h => exact absurd h (by simp))
      have q1 : (setFrom w11 (w.heap.size + 1) 0 [.string r.name, .int .i64 r.depth, .int .i64 r.low, .int .i64 r.high, .int .i64 r.length, .slice a1 r.lines.length c1, .int .i64 r.pipe, .int .i64 r.arbor, .int .i64 r.purchase, .int .i64 r.most, .int .i64 r.brake, .slice a2 r.items.length c2, .slice a3 r.bricks.length c3]).ownsRow W7.drew.heap.size 3 1 (.slice a1 r.lines.length c1) r.lines.length (nflat r.lines) := own_from _ _ _ _ (ownsRow_below HP1.out HH11.out) (by omega)
      have q2 : (setFrom w11 (w.heap.size + 1) 0 [.string r.name, .int .i64 r.depth, .int .i64 r.low, .int .i64 r.high, .int .i64 r.length, .slice a1 r.lines.length c1, .int .i64 r.pipe, .int .i64 r.arbor, .int .i64 r.purchase, .int .i64 r.most, .int .i64 r.brake, .slice a2 r.items.length c2, .slice a3 r.bricks.length c3]).ownsRow w8.heap.size 47 7 (.slice a2 r.items.length c2) r.items.length (tflat r.items) := own_from _ _ _ _ (ownsRow_below HP2.out HH11.out) (by have := HB1.out.size; omega)
      have q3 : (setFrom w11 (w.heap.size + 1) 0 [.string r.name, .int .i64 r.depth, .int .i64 r.low, .int .i64 r.high, .int .i64 r.length, .slice a1 r.lines.length c1, .int .i64 r.pipe, .int .i64 r.arbor, .int .i64 r.purchase, .int .i64 r.most, .int .i64 r.brake, .slice a2 r.items.length c2, .slice a3 r.bricks.length c3]).ownsRow w9.heap.size 49 3 (.slice a3 (withC r.bricks c).length c3) (withC r.bricks c).length (kflat (withC r.bricks c)) := own_from _ _ _ _ (ownsRow_below HP4.out HH11.out) (by have := HB1.out.size; have := HB2.out.size; omega)
      have qB : Below w.heap.size w (setFrom w11 (w.heap.size + 1) 0 [.string r.name, .int .i64 r.depth, .int .i64 r.low, .int .i64 r.high, .int .i64 r.length, .slice a1 r.lines.length c1, .int .i64 r.pipe, .int .i64 r.arbor, .int .i64 r.purchase, .int .i64 r.most, .int .i64 r.brake, .slice a2 r.items.length c2, .slice a3 r.bricks.length c3]) := below_from _ _ _ (HX.out _ hB11) (by omega)
      have f0 : (setFrom w11 (w.heap.size + 1) 0 [.string r.name, .int .i64 r.depth, .int .i64 r.low, .int .i64 r.high, .int .i64 r.length, .slice a1 r.lines.length c1, .int .i64 r.pipe, .int .i64 r.arbor, .int .i64 r.purchase, .int .i64 r.most, .int .i64 r.brake, .slice a2 r.items.length c2, .slice a3 r.bricks.length c3]).cell? ⟨w.heap.size + 1, 0, none⟩ = some (.string r.name) := hrd 0 (by simp)
      have f1 : (setFrom w11 (w.heap.size + 1) 0 [.string r.name, .int .i64 r.depth, .int .i64 r.low, .int .i64 r.high, .int .i64 r.length, .slice a1 r.lines.length c1, .int .i64 r.pipe, .int .i64 r.arbor, .int .i64 r.purchase, .int .i64 r.most, .int .i64 r.brake, .slice a2 r.items.length c2, .slice a3 r.bricks.length c3]).cell? ⟨w.heap.size + 1, 1, none⟩ = some (.int .i64 r.depth) := hrd 1 (by simp)
      have f2 : (setFrom w11 (w.heap.size + 1) 0 [.string r.name, .int .i64 r.depth, .int .i64 r.low, .int .i64 r.high, .int .i64 r.length, .slice a1 r.lines.length c1, .int .i64 r.pipe, .int .i64 r.arbor, .int .i64 r.purchase, .int .i64 r.most, .int .i64 r.brake, .slice a2 r.items.length c2, .slice a3 r.bricks.length c3]).cell? ⟨w.heap.size + 1, 2, none⟩ = some (.int .i64 r.low) := hrd 2 (by simp)
      have f3 : (setFrom w11 (w.heap.size + 1) 0 [.string r.name, .int .i64 r.depth, .int .i64 r.low, .int .i64 r.high, .int .i64 r.length, .slice a1 r.lines.length c1, .int .i64 r.pipe, .int .i64 r.arbor, .int .i64 r.purchase, .int .i64 r.most, .int .i64 r.brake, .slice a2 r.items.length c2, .slice a3 r.bricks.length c3]).cell? ⟨w.heap.size + 1, 3, none⟩ = some (.int .i64 r.high) := hrd 3 (by simp)
      have f4 : (setFrom w11 (w.heap.size + 1) 0 [.string r.name, .int .i64 r.depth, .int .i64 r.low, .int .i64 r.high, .int .i64 r.length, .slice a1 r.lines.length c1, .int .i64 r.pipe, .int .i64 r.arbor, .int .i64 r.purchase, .int .i64 r.most, .int .i64 r.brake, .slice a2 r.items.length c2, .slice a3 r.bricks.length c3]).cell? ⟨w.heap.size + 1, 4, none⟩ = some (.int .i64 r.length) := hrd 4 (by simp)
      have f5 : (setFrom w11 (w.heap.size + 1) 0 [.string r.name, .int .i64 r.depth, .int .i64 r.low, .int .i64 r.high, .int .i64 r.length, .slice a1 r.lines.length c1, .int .i64 r.pipe, .int .i64 r.arbor, .int .i64 r.purchase, .int .i64 r.most, .int .i64 r.brake, .slice a2 r.items.length c2, .slice a3 r.bricks.length c3]).cell? ⟨w.heap.size + 1, 5, none⟩ = some (.slice a1 r.lines.length c1) := hrd 5 (by simp)
      have f6 : (setFrom w11 (w.heap.size + 1) 0 [.string r.name, .int .i64 r.depth, .int .i64 r.low, .int .i64 r.high, .int .i64 r.length, .slice a1 r.lines.length c1, .int .i64 r.pipe, .int .i64 r.arbor, .int .i64 r.purchase, .int .i64 r.most, .int .i64 r.brake, .slice a2 r.items.length c2, .slice a3 r.bricks.length c3]).cell? ⟨w.heap.size + 1, 6, none⟩ = some (.int .i64 r.pipe) := hrd 6 (by simp)
      have f7 : (setFrom w11 (w.heap.size + 1) 0 [.string r.name, .int .i64 r.depth, .int .i64 r.low, .int .i64 r.high, .int .i64 r.length, .slice a1 r.lines.length c1, .int .i64 r.pipe, .int .i64 r.arbor, .int .i64 r.purchase, .int .i64 r.most, .int .i64 r.brake, .slice a2 r.items.length c2, .slice a3 r.bricks.length c3]).cell? ⟨w.heap.size + 1, 7, none⟩ = some (.int .i64 r.arbor) := hrd 7 (by simp)
      have f8 : (setFrom w11 (w.heap.size + 1) 0 [.string r.name, .int .i64 r.depth, .int .i64 r.low, .int .i64 r.high, .int .i64 r.length, .slice a1 r.lines.length c1, .int .i64 r.pipe, .int .i64 r.arbor, .int .i64 r.purchase, .int .i64 r.most, .int .i64 r.brake, .slice a2 r.items.length c2, .slice a3 r.bricks.length c3]).cell? ⟨w.heap.size + 1, 8, none⟩ = some (.int .i64 r.purchase) := hrd 8 (by simp)
      have f9 : (setFrom w11 (w.heap.size + 1) 0 [.string r.name, .int .i64 r.depth, .int .i64 r.low, .int .i64 r.high, .int .i64 r.length, .slice a1 r.lines.length c1, .int .i64 r.pipe, .int .i64 r.arbor, .int .i64 r.purchase, .int .i64 r.most, .int .i64 r.brake, .slice a2 r.items.length c2, .slice a3 r.bricks.length c3]).cell? ⟨w.heap.size + 1, 9, none⟩ = some (.int .i64 r.most) := hrd 9 (by simp)
      have f10 : (setFrom w11 (w.heap.size + 1) 0 [.string r.name, .int .i64 r.depth, .int .i64 r.low, .int .i64 r.high, .int .i64 r.length, .slice a1 r.lines.length c1, .int .i64 r.pipe, .int .i64 r.arbor, .int .i64 r.purchase, .int .i64 r.most, .int .i64 r.brake, .slice a2 r.items.length c2, .slice a3 r.bricks.length c3]).cell? ⟨w.heap.size + 1, 10, none⟩ = some (.int .i64 r.brake) := hrd 10 (by simp)
      have f11 : (setFrom w11 (w.heap.size + 1) 0 [.string r.name, .int .i64 r.depth, .int .i64 r.low, .int .i64 r.high, .int .i64 r.length, .slice a1 r.lines.length c1, .int .i64 r.pipe, .int .i64 r.arbor, .int .i64 r.purchase, .int .i64 r.most, .int .i64 r.brake, .slice a2 r.items.length c2, .slice a3 r.bricks.length c3]).cell? ⟨w.heap.size + 1, 11, none⟩ = some (.slice a2 r.items.length c2) := hrd 11 (by simp)
      have f12 : (setFrom w11 (w.heap.size + 1) 0 [.string r.name, .int .i64 r.depth, .int .i64 r.low, .int .i64 r.high, .int .i64 r.length, .slice a1 r.lines.length c1, .int .i64 r.pipe, .int .i64 r.arbor, .int .i64 r.purchase, .int .i64 r.most, .int .i64 r.brake, .slice a2 r.items.length c2, .slice a3 r.bricks.length c3]).cell? ⟨w.heap.size + 1, 12, none⟩ = some (.slice a3 r.bricks.length c3) := hrd 12 (by simp)
      generalize (setFrom w11 (w.heap.size + 1) 0 [.string r.name, .int .i64 r.depth, .int .i64 r.low, .int .i64 r.high, .int .i64 r.length, .slice a1 r.lines.length c1, .int .i64 r.pipe, .int .i64 r.arbor, .int .i64 r.purchase, .int .i64 r.most, .int .i64 r.brake, .slice a2 r.items.length c2, .slice a3 r.bricks.length c3]) = Wz at *
      have HSI : Hid (SetIn Wz (loadR r c a1 c1 a2 c2 a3 c3)) := Lib.hid (by
        obtain ⟨_, _, e1, p1, _, p3, p4⟩ := num_of_row q1
        cases e1
        obtain ⟨_, _, e2, s1, _, s3, s4⟩ := item_of_row q2
        cases e2
        obtain ⟨_, _, e3, t1, _, t3, t4⟩ := brick_of_row q3
        cases e3
        exact ⟨⟨p4, s4, t4, p1, s1, t1, p3, s3, t3⟩, HNM.out.1, fun x hx => by
          have := List.mem_map_of_mem (f := BrickR.name) hx
          have e : ((loadR r c a1 c1 a2 c2 a3 c3).bricks).map BrickR.name = r.bricks.map BrickR.name := withC_names HLEN.out
          rw [e, List.mem_map] at this
          obtain ⟨y, hy, e⟩ := this
          rw [← e]
          exact HNM.out.2 y hy⟩)
      clear hrd q1 q2 q3
      exact bodyPost_ret (v := .tuple #[.agg #[.string r.name, .int .i64 r.depth, .int .i64 r.low, .int .i64 r.high, .int .i64 r.length, .slice a1 r.lines.length c1, .int .i64 r.pipe, .int .i64 r.arbor, .int .i64 r.purchase, .int .i64 r.most, .int .i64 r.brake, .slice a2 r.items.length c2, .slice a3 r.bricks.length c3], .int .i64 0]) (by simp [results, Tryz.results11, go_sem, f0, f1, f2, f3, f4, f5, f6, f7, f8, f9, f10, f11, f12]) rfl ⟨Lib.hid ⟨a1, c1, a2, c2, a3, c3, rfl, HSI.out⟩, qB⟩
end Go.Proofs.YtbniclapaigkkaaGreat
