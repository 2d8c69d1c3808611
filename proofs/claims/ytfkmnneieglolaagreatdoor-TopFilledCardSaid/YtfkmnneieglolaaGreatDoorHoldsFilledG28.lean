/-
  THE WALK of arbor.Loaded (a valid set, and a choice of its bricks).
  Short words for a set in a block; THE WALK of arbor.Holds at a valid set.
  A map[string]bool that the call has made, told by a function from names to bools; what a look-up and a store do to it.
  THE WALKS of package brake: Valid (where true), State (no further weights), Change.
  THE WALKS of brake.State (no further weights) and brake.Change, at a valid set.
  THE WALKS of package loadin's lattice: whole, any, and the two conditions of its states, at two jobs.
  PLAIN LAWS over any program: an operation of a drawn region that only reads is taken first; its side conditions are shown by themselves, and the frame is laid out anew.
  What the walk of loadin's of knows, at two jobs.
  THE WALK of a loop of loadin.of, over a frame of letters.
  THE WALK of a loop of loadin.of, over a frame of letters.
  THE WALKS of a round's region of loadin.of, over frames of letters.
  THE WALK of a loop of loadin.of, over a frame of letters.
  THE WALKS of a round's region of loadin.of, over frames of letters.
  THE WALK of a loop of loadin.of, over a frame of letters.
-/
import Derived.Laws.OwnMore
import Derived.Test.YtfkmnneieglolaaGreatDoorRows
import Derived.WalkKit
import Derived.WalkSpells
import Derived.WalkSmall
import Derived.Maps.Own
import Derived.Maps.OwnOps
import Derived.Maps.OwnSet
import Derived.Deep.RegionHeld3
import Derived.Test.YtfkmnneieglolaaGreatDoorHoldsFilledG27
namespace Go.Proofs.YtfkmnneieglolaaGreatDoor
open Go.RowKit Go.Shelf
attribute [local go_sem] Oper.semAt_some
theorem below_two (w : World) (o p : Obj) : Below w.heap.size w ((w.alloc o).alloc p) := (below_new w o).alloc (by simp) p
theorem mono_two {w w' : World} (o p : Obj) (h : Below ((w.alloc o).alloc p).heap.size ((w.alloc o).alloc p) w') : Below w.heap.size w w' := (below_two w o p).trans (h.mono (by simp; omega))
def ZeroAt (w : World) (b : Nat) : Prop := w.cell? ⟨b, 0, none⟩ = some (.string ⟨#[]⟩) ∧ w.cell? ⟨b, 1, none⟩ = some (.int .i64 0) ∧ w.cell? ⟨b, 2, none⟩ = some (.int .i64 0) ∧ w.cell? ⟨b, 3, none⟩ = some (.int .i64 0) ∧ w.cell? ⟨b, 4, none⟩ = some (.int .i64 0) ∧ w.cell? ⟨b, 5, none⟩ = some (.slice none 0 0) ∧ w.cell? ⟨b, 6, none⟩ = some (.int .i64 0) ∧ w.cell? ⟨b, 7, none⟩ = some (.int .i64 0) ∧ w.cell? ⟨b, 8, none⟩ = some (.int .i64 0) ∧ w.cell? ⟨b, 9, none⟩ = some (.int .i64 0) ∧ w.cell? ⟨b, 10, none⟩ = some (.int .i64 0) ∧ w.cell? ⟨b, 11, none⟩ = some (.slice none 0 0) ∧ w.cell? ⟨b, 12, none⟩ = some (.slice none 0 0)
/-- The zero set in a block of the call's own that can be written. -/
structure ZeroS (w : World) (b : Nat) : Prop where
  cells : ZeroAt w b
  free : ∀ j, w.frozen? ⟨b, j, none⟩ = false
  lt : b < w.heap.size
theorem ZeroS.below {w w' : World} {b : Nat} (h : ZeroS w b) (hb : Below w.heap.size w w') : ZeroS w' b := by
  obtain ⟨a0, a1, a2, a3, a4, a5, a6, a7, a8, a9, a10, a11, a12⟩ := h.cells
  exact ⟨⟨(hb.cell (p := ⟨b, 0, none⟩) h.lt).trans a0, (hb.cell (p := ⟨b, 1, none⟩) h.lt).trans a1, (hb.cell (p := ⟨b, 2, none⟩) h.lt).trans a2, (hb.cell (p := ⟨b, 3, none⟩) h.lt).trans a3, (hb.cell (p := ⟨b, 4, none⟩) h.lt).trans a4, (hb.cell (p := ⟨b, 5, none⟩) h.lt).trans a5, (hb.cell (p := ⟨b, 6, none⟩) h.lt).trans a6, (hb.cell (p := ⟨b, 7, none⟩) h.lt).trans a7, (hb.cell (p := ⟨b, 8, none⟩) h.lt).trans a8, (hb.cell (p := ⟨b, 9, none⟩) h.lt).trans a9, (hb.cell (p := ⟨b, 10, none⟩) h.lt).trans a10, (hb.cell (p := ⟨b, 11, none⟩) h.lt).trans a11, (hb.cell (p := ⟨b, 12, none⟩) h.lt).trans a12⟩, fun j => (hb.frozen (p := ⟨b, j, none⟩) h.lt).trans (h.free j), Nat.lt_of_lt_of_le h.lt hb.size⟩
theorem free_new (w : World) (cs : Array Value) (t : TypeId) (j : Nat) : (w.alloc (.cells cs t)).frozen? ⟨w.heap.size, j, none⟩ = false := by simp
theorem ZeroS.new (w : World) (t : TypeId) : ZeroS (w.alloc (.cells #[.string ⟨#[]⟩, .int .i64 0, .int .i64 0, .int .i64 0, .int .i64 0, .slice none 0 0, .int .i64 0, .int .i64 0, .int .i64 0, .int .i64 0, .int .i64 0, .slice none 0 0, .slice none 0 0] t)) w.heap.size := by
  refine ⟨?_, fun j => free_new _ _ _ _, by simp⟩
  unfold ZeroAt
  simp
theorem own_lt {w : World} {base n size : Nat} {e : TypeId} {v : Value} {xs : List Value} (h : w.ownsRow base e size v n xs) : ∀ b, v.ownBlock = some b → b < w.heap.size := by
  intro b hb
  rcases h.2 with ⟨e, _⟩ | ⟨g, cap, cur, e, _, hg, _⟩
  · subst e; cases hb
  · subst e; cases hb; exact (Array.getElem?_eq_some_iff.1 hg).1
theorem own_far {w w' : World} {base n size m g : Nat} {e : TypeId} {v : Value} {xs : List Value} (h : w.ownsRow base e size v n xs) (hv : ∀ b, v.ownBlock = some b → b < m) (hm : m ≤ g) (hg : w.grownBy w' (some g)) : w'.ownsRow base e size v n xs := by
  refine h.kept hg (.inr fun q => ?_)
  have := hv g q
  omega
/-- A row of stores into a block. -/
def setFrom (w : World) (b : Nat) : Nat → List Value → World
  | _, [] => w
  | j, v :: vs => setFrom (w.setCell ⟨b, j, none⟩ v) b (j + 1) vs
theorem own_from {base size n : Nat} {e : TypeId} {u : Value} {xs : List Value} : ∀ (vs : List Value) (w : World) (b j : Nat), w.ownsRow base e size u n xs → b < base → (setFrom w b j vs).ownsRow base e size u n xs
  | [], _, _, _, h, _ => h
  | v :: vs, _, b, j, h, hb => own_from vs _ b (j + 1) (ownsRow_setCell_below h (a := ⟨b, j, none⟩) hb v) hb
theorem below_from {m b : Nat} {W : World} : ∀ (vs : List Value) (w : World) (j : Nat), Below m W w → m ≤ b → Below m W (setFrom w b j vs)
  | [], _, _, h, _ => h
  | v :: vs, _, j, h, hb => below_from vs _ (j + 1) (h.setCell (p := ⟨b, j, none⟩) hb v) hb
theorem far_from : ∀ (vs : List Value) (w : World) (b j i : Nat), i < j → (setFrom w b j vs).cell? ⟨b, i, none⟩ = w.cell? ⟨b, i, none⟩
  | [], _, _, _, _, _ => rfl
  | v :: vs, w, b, j, i, h => (far_from vs _ b (j + 1) i (by omega)).trans (World.cell?_setCell_other _ _ _ _ (by intro q; injection q with _ q; omega))
theorem read_from : ∀ (vs : List Value) (w : World) (b j : Nat), (∀ i, i < vs.length → (w.cell? ⟨b, j + i, none⟩).isSome = true) → ∀ i (h : i < vs.length), (setFrom w b j vs).cell? ⟨b, j + i, none⟩ = some vs[i]
  | [], _, _, _, _, i, h => absurd h (Nat.not_lt_zero _)
  | v :: vs, w, b, j, hs, i, h => by
    have h0 := hs 0 (by simp)
    obtain ⟨u, hu⟩ := Option.isSome_iff_exists.1 h0
    match i, h with
    | 0, _ => exact (far_from vs _ b (j + 1) (j + 0) (by omega)).trans (World.cell?_setCell_same _ _ _ hu)
    | i + 1, h =>
      have := read_from vs (w.setCell ⟨b, j, none⟩ v) b (j + 1) (fun k hk => by
        rw [World.cell?_setCell_other _ _ _ _ (by intro q; injection q with _ q; omega), show j + 1 + k = j + (k + 1) by omega]
        exact hs (k + 1) (by simpa using hk)) i (by simpa using h)
      rw [show j + (i + 1) = j + 1 + i by omega]
      exact this
theorem withC_flat : ∀ {L : List BrickR} {c : List Int} {k : Nat}, c.length = L.length → k < L.length → (kflat (withC L (c.take k))).set (k * 3 + 2) (.int .i64 (ig c k)) = kflat (withC L (c.take (k + 1)))
  | [], _, _, _, h => absurd h (Nat.not_lt_zero _)
  | b :: t, n :: r, 0, _, _ => by
    show (kflat (b :: t)).set 2 _ = kflat (withC (b :: t) [n])
    simp only [withC]
    rfl
  | b :: t, n :: r, k + 1, h, hk => by
    have := withC_flat (L := t) (c := r) (k := k) (by simpa using h) (by simpa using hk)
    have e : ∀ (b : BrickR) (M : List BrickR), kflat (b :: M) = .string b.name :: .int .i64 b.weight :: .int .i64 b.count :: kflat M := fun _ _ => rfl
    show (kflat (⟨b.name, b.weight, n⟩ :: withC t (r.take k))).set ((k + 1) * 3 + 2) (.int .i64 (ig r k)) = kflat (⟨b.name, b.weight, n⟩ :: withC t (r.take (k + 1)))
    rw [e, e, ← this, show (k + 1) * 3 + 2 = k * 3 + 2 + 1 + 1 + 1 by omega, List.set_cons_succ, List.set_cons_succ, List.set_cons_succ]
  | _ :: _, [], _, h, _ => by simp at h
theorem withC_ok {L : List BrickR} {c : List Int} (ok : BrickOK L) (hc : IsC L c) : BrickOK (withC L c) := by
  obtain ⟨h1, h2⟩ := isC_iff.1 hc
  intro b hb
  obtain ⟨j, hj, rfl⟩ := List.getElem_of_mem hb
  rw [withC_len] at hj
  rw [← bg_eq _ j (by rw [withC_len]; exact hj), withC_at h1 hj]
  have a := ok_bg ok hj
  have b := h2 j hj
  exact ⟨a.1, a.2.1, b.1, by show ig c j ≤ 60; omega⟩
theorem withC_cnt {L : List BrickR} {c : List Int} (hc : IsC L c) : ∀ k, k ≤ L.length → cntTo (withC L c) k ≤ cntTo L k
  | 0, _ => by simp [cntTo]
  | k + 1, hk => by
    obtain ⟨h1, h2⟩ := isC_iff.1 hc
    have a := withC_cnt hc k (by omega)
    have b := h2 k (by omega)
    simp only [cntTo]
    rw [withC_at h1 (by omega)]
    show cntTo (withC L c) k + ig c k ≤ _
    omega
theorem withC_names {L : List BrickR} {c : List Int} (h : c.length = L.length) : (withC L c).map (·.name) = L.map (·.name) := by
  induction L generalizing c with
  | nil => simp [withC]
  | cons b t ih =>
    match c, h with
    | n :: r, h => simp only [withC, List.map_cons, ih (c := r) (by simpa using h)]
    | [], h => simp at h
theorem withC_B {L : List BrickR} {c : List Int} (hL : brickB L = true) (hc : IsC L c) : brickB (withC L c) = true := by
  obtain ⟨a, b, d, e⟩ := brickB_iff.1 hL
  obtain ⟨_, _, _, ok⟩ := brick_ok hL
  obtain ⟨h1, h2⟩ := isC_iff.1 hc
  refine brickB_iff.2 ⟨by rw [withC_len]; exact a, by rw [withC_names h1]; exact b, fun j hj => ?_, ?_⟩
  · rw [withC_len] at hj
    have x := (brick1_iff _).1 (d j hj)
    have y := h2 j hj
    rw [withC_at h1 hj]
    exact (brick1_iff _).2 ⟨x.1, x.2.1, x.2.2.1, y.1, by show ig c j ≤ 60; omega⟩
  · rw [withC_len]
    have := withC_cnt hc L.length (Nat.le_refl _)
    omega
/-- The set with other counts, its lists elsewhere. -/
def loadR (r : SetR) (c : List Int) (la : Option Addr) (lc : Nat) (ia : Option Addr) (ic : Nat) (ba : Option Addr) (bc : Nat) : SetR :=
  { r with la := la, lc := lc, ia := ia, ic := ic, ba := ba, bc := bc, bricks := withC r.bricks c }
theorem load_B {r : SetR} {c : List Int} {la lc ia ic ba bc} (h : setB r = true) (hc : IsC r.bricks c) : setB (loadR r c la lc ia ic ba bc) = true := by
  have k := setB_iff.1 h
  exact setB_iff.2 ⟨k.name, k.depth, k.low, k.length, k.lines, k.pipe, k.arbor, k.purchase, k.most, k.brake, k.items, withC_B k.bricks hc⟩
theorem load_bal {r : SetR} {c : List Int} {la lc ia ic ba bc} (hc : c.length = r.bricks.length) : balanceS (loadR r c la lc ia ic ba bc) = neededS r - sumC r.bricks c := by
  have e : neededS (loadR r c la lc ia ic ba bc) = neededS r := rfl
  unfold balanceS
  rw [e]
  show neededS r - restC (withC r.bricks c) = _
  rw [withC_sum hc]
set_option maxRecDepth 100000 in
set_option maxHeartbeats 1000000 in
theorem cntC_any (n : Int) (w : World) :
    Calls Tryz.prog 25 #[.int .i64 n] w fun e w' => e = .returned (.bool (!betB n 0 60)) ∧ w = w' := by
  have HR : Hid (betB n 0 60 = (decide (0 ≤ n) && decide (n ≤ 60))) := Lib.hid rfl
  by_cases p1 : n < 0
  · have g1 : decide (n < 0) = true := decide_eq_true p1
    rw [decide_eq_false (show ¬ (0 ≤ n) by omega)] at HR
    clear p1
    go_enter Tryz.func25, Tryz.ntmps25
    go_wp2_with fail
    go_ret
    exact ⟨ret_bool (by rw [HR.out]; rfl), rfl⟩
  · have g1 : decide (n < 0) = false := decide_eq_false p1
    rw [decide_eq_true (show 0 ≤ n by omega), Bool.true_and] at HR
    by_cases p2 : 60 < n
    · have g2 : decide (60 < n) = true := decide_eq_true p2
      rw [decide_eq_false (show ¬ (n ≤ 60) by omega)] at HR
      clear p1 p2
      go_enter Tryz.func25, Tryz.ntmps25
      go_wp2_with fail
      go_ret
      exact ⟨ret_bool (by rw [HR.out]; rfl), rfl⟩
    · have g2 : decide (60 < n) = false := decide_eq_false p2
      rw [decide_eq_true (show n ≤ 60 by omega)] at HR
      clear p1 p2
      go_enter Tryz.func25, Tryz.ntmps25
      go_wp2_with fail
      go_ret
      exact ⟨ret_bool (by rw [HR.out]; rfl), rfl⟩
theorem ent_cnt (args : Array Value) (w : World) : (callFunc 25 args).run Tryz.prog w = .ok (.enter 25 args) w := enters_of Tryz.func25 (by kernel_rfl) rfl args w
theorem asks_cnt (n₀ : Nat) (w : World) : AsksN 25 #[] n₀ w (fun n => !betB n 0 60) := by
  intro W r hb
  exact (cntC_any r W).mono fun e w' ⟨h1, h2⟩ => ⟨h1, by rw [h2]; exact Below.refl _ _⟩
theorem cnt_none {L : List BrickR} {c : List Int} (ok : BrickOK L) (hc : IsC L c) : num_any c (fun n => !betB n 0 60) = false := by
  obtain ⟨h1, h2⟩ := isC_iff.1 hc
  rw [num_any_eq, Bool.eq_false_iff]
  intro h
  rw [List.any_eq_true] at h
  obtain ⟨x, hx, e⟩ := h
  obtain ⟨j, hj, rfl⟩ := List.getElem_of_mem hx
  have a := h2 j (by omega)
  have b := ok_bg ok (show j < L.length by omega)
  rw [ig_eq c j hj] at a
  have : betB c[j] 0 60 = true := betB_iff.2 (by omega)
  simp only [this] at e
  cases e
theorem set3_at {w : World} {b : Nat} {r : SetR} (h : SetAt w b r) (v1 v2 v3 : Value) :
    (((w.setCell ⟨b, 5, none⟩ v1).setCell ⟨b, 11, none⟩ v2).setCell ⟨b, 12, none⟩ v3).cell? ⟨b, 0, none⟩ = some (.string r.name) ∧ (((w.setCell ⟨b, 5, none⟩ v1).setCell ⟨b, 11, none⟩ v2).setCell ⟨b, 12, none⟩ v3).cell? ⟨b, 1, none⟩ = some (.int .i64 r.depth) ∧ (((w.setCell ⟨b, 5, none⟩ v1).setCell ⟨b, 11, none⟩ v2).setCell ⟨b, 12, none⟩ v3).cell? ⟨b, 2, none⟩ = some (.int .i64 r.low) ∧ (((w.setCell ⟨b, 5, none⟩ v1).setCell ⟨b, 11, none⟩ v2).setCell ⟨b, 12, none⟩ v3).cell? ⟨b, 3, none⟩ = some (.int .i64 r.high) ∧ (((w.setCell ⟨b, 5, none⟩ v1).setCell ⟨b, 11, none⟩ v2).setCell ⟨b, 12, none⟩ v3).cell? ⟨b, 4, none⟩ = some (.int .i64 r.length) ∧ (((w.setCell ⟨b, 5, none⟩ v1).setCell ⟨b, 11, none⟩ v2).setCell ⟨b, 12, none⟩ v3).cell? ⟨b, 5, none⟩ = some (v1) ∧ (((w.setCell ⟨b, 5, none⟩ v1).setCell ⟨b, 11, none⟩ v2).setCell ⟨b, 12, none⟩ v3).cell? ⟨b, 6, none⟩ = some (.int .i64 r.pipe) ∧ (((w.setCell ⟨b, 5, none⟩ v1).setCell ⟨b, 11, none⟩ v2).setCell ⟨b, 12, none⟩ v3).cell? ⟨b, 7, none⟩ = some (.int .i64 r.arbor) ∧ (((w.setCell ⟨b, 5, none⟩ v1).setCell ⟨b, 11, none⟩ v2).setCell ⟨b, 12, none⟩ v3).cell? ⟨b, 8, none⟩ = some (.int .i64 r.purchase) ∧ (((w.setCell ⟨b, 5, none⟩ v1).setCell ⟨b, 11, none⟩ v2).setCell ⟨b, 12, none⟩ v3).cell? ⟨b, 9, none⟩ = some (.int .i64 r.most) ∧ (((w.setCell ⟨b, 5, none⟩ v1).setCell ⟨b, 11, none⟩ v2).setCell ⟨b, 12, none⟩ v3).cell? ⟨b, 10, none⟩ = some (.int .i64 r.brake) ∧ (((w.setCell ⟨b, 5, none⟩ v1).setCell ⟨b, 11, none⟩ v2).setCell ⟨b, 12, none⟩ v3).cell? ⟨b, 11, none⟩ = some (v2) ∧ (((w.setCell ⟨b, 5, none⟩ v1).setCell ⟨b, 11, none⟩ v2).setCell ⟨b, 12, none⟩ v3).cell? ⟨b, 12, none⟩ = some (v3) := by
  obtain ⟨a0, a1, a2, a3, a4, a5, a6, a7, a8, a9, a10, a11, a12⟩ := h
  have ne : ∀ (W : World) (i j : Nat) (v : Value), j ≠ i → (W.setCell ⟨b, i, none⟩ v).cell? ⟨b, j, none⟩ = W.cell? ⟨b, j, none⟩ := fun W i j v e => World.cell?_setCell_other _ _ _ _ (by intro q; injection q with _ q; exact e q.symm)
  have s5 : (w.setCell ⟨b, 5, none⟩ v1).cell? ⟨b, 5, none⟩ = some v1 := World.cell?_setCell_same _ _ _ a5
  have s11 : ((w.setCell ⟨b, 5, none⟩ v1).setCell ⟨b, 11, none⟩ v2).cell? ⟨b, 11, none⟩ = some v2 := World.cell?_setCell_same _ _ _ ((ne _ 5 11 _ (by decide)).trans a11)
  have s12 : (((w.setCell ⟨b, 5, none⟩ v1).setCell ⟨b, 11, none⟩ v2).setCell ⟨b, 12, none⟩ v3).cell? ⟨b, 12, none⟩ = some v3 := World.cell?_setCell_same _ _ _ ((ne _ 11 12 _ (by decide)).trans ((ne _ 5 12 _ (by decide)).trans a12))
  exact ⟨(ne _ 12 0 _ (by decide)).trans ((ne _ 11 0 _ (by decide)).trans ((ne _ 5 0 _ (by decide)).trans a0)), (ne _ 12 1 _ (by decide)).trans ((ne _ 11 1 _ (by decide)).trans ((ne _ 5 1 _ (by decide)).trans a1)), (ne _ 12 2 _ (by decide)).trans ((ne _ 11 2 _ (by decide)).trans ((ne _ 5 2 _ (by decide)).trans a2)), (ne _ 12 3 _ (by decide)).trans ((ne _ 11 3 _ (by decide)).trans ((ne _ 5 3 _ (by decide)).trans a3)), (ne _ 12 4 _ (by decide)).trans ((ne _ 11 4 _ (by decide)).trans ((ne _ 5 4 _ (by decide)).trans a4)), (ne _ 12 5 _ (by decide)).trans ((ne _ 11 5 _ (by decide)).trans s5), (ne _ 12 6 _ (by decide)).trans ((ne _ 11 6 _ (by decide)).trans ((ne _ 5 6 _ (by decide)).trans a6)), (ne _ 12 7 _ (by decide)).trans ((ne _ 11 7 _ (by decide)).trans ((ne _ 5 7 _ (by decide)).trans a7)), (ne _ 12 8 _ (by decide)).trans ((ne _ 11 8 _ (by decide)).trans ((ne _ 5 8 _ (by decide)).trans a8)), (ne _ 12 9 _ (by decide)).trans ((ne _ 11 9 _ (by decide)).trans ((ne _ 5 9 _ (by decide)).trans a9)), (ne _ 12 10 _ (by decide)).trans ((ne _ 11 10 _ (by decide)).trans ((ne _ 5 10 _ (by decide)).trans a10)), (ne _ 12 11 _ (by decide)).trans s11, s12⟩
def LoadAt (w : World) (b : Nat) (r : SetR) (a1 : Option Addr) (c1 : Nat) (a2 : Option Addr) (c2 : Nat) (a3 : Option Addr) (c3 : Nat) : Prop := w.cell? ⟨b, 0, none⟩ = some (.string r.name) ∧ w.cell? ⟨b, 1, none⟩ = some (.int .i64 r.depth) ∧ w.cell? ⟨b, 2, none⟩ = some (.int .i64 r.low) ∧ w.cell? ⟨b, 3, none⟩ = some (.int .i64 r.high) ∧ w.cell? ⟨b, 4, none⟩ = some (.int .i64 r.length) ∧ w.cell? ⟨b, 5, none⟩ = some (.slice a1 r.lines.length c1) ∧ w.cell? ⟨b, 6, none⟩ = some (.int .i64 r.pipe) ∧ w.cell? ⟨b, 7, none⟩ = some (.int .i64 r.arbor) ∧ w.cell? ⟨b, 8, none⟩ = some (.int .i64 r.purchase) ∧ w.cell? ⟨b, 9, none⟩ = some (.int .i64 r.most) ∧ w.cell? ⟨b, 10, none⟩ = some (.int .i64 r.brake) ∧ w.cell? ⟨b, 11, none⟩ = some (.slice a2 r.items.length c2) ∧ w.cell? ⟨b, 12, none⟩ = some (.slice a3 r.bricks.length c3)
section
variable {w w' : World} {b : Nat} {r : SetR} {a1 a2 a3 : Option Addr} {c1 c2 c3 : Nat}
theorem LoadAt.below (h : LoadAt w b r a1 c1 a2 c2 a3 c3) (hb : Below w.heap.size w w') (hlt : b < w.heap.size) : LoadAt w' b r a1 c1 a2 c2 a3 c3 :=
  let ⟨a20, a21, a22, a23, a24, a25, a26, a27, a28, a29, a30, a31, a32⟩ := h
  ⟨(hb.cell (p := ⟨b, 0, none⟩) hlt).trans a20, (hb.cell (p := ⟨b, 1, none⟩) hlt).trans a21, (hb.cell (p := ⟨b, 2, none⟩) hlt).trans a22, (hb.cell (p := ⟨b, 3, none⟩) hlt).trans a23, (hb.cell (p := ⟨b, 4, none⟩) hlt).trans a24, (hb.cell (p := ⟨b, 5, none⟩) hlt).trans a25, (hb.cell (p := ⟨b, 6, none⟩) hlt).trans a26, (hb.cell (p := ⟨b, 7, none⟩) hlt).trans a27, (hb.cell (p := ⟨b, 8, none⟩) hlt).trans a28, (hb.cell (p := ⟨b, 9, none⟩) hlt).trans a29, (hb.cell (p := ⟨b, 10, none⟩) hlt).trans a30, (hb.cell (p := ⟨b, 11, none⟩) hlt).trans a31, (hb.cell (p := ⟨b, 12, none⟩) hlt).trans a32⟩
theorem LoadAt.set (h : LoadAt w b r a1 c1 a2 c2 a3 c3) {g : Nat} (hne : b ≠ g) (i : Nat) (v : Value) : LoadAt (w.setCell ⟨g, i, none⟩ v) b r a1 c1 a2 c2 a3 c3 :=
  have ne : ∀ j, (w.setCell ⟨g, i, none⟩ v).cell? ⟨b, j, none⟩ = w.cell? ⟨b, j, none⟩ := fun _ => World.cell?_setCell_far _ _ _ _ (fun e => hne e.symm)
  let ⟨a20, a21, a22, a23, a24, a25, a26, a27, a28, a29, a30, a31, a32⟩ := h
  ⟨(ne 0).trans a20, (ne 1).trans a21, (ne 2).trans a22, (ne 3).trans a23, (ne 4).trans a24, (ne 5).trans a25, (ne 6).trans a26, (ne 7).trans a27, (ne 8).trans a28, (ne 9).trans a29, (ne 10).trans a30, (ne 11).trans a31, (ne 12).trans a32⟩
theorem LoadAt.brk (h : LoadAt w b r a1 c1 a2 c2 a3 c3) : w.cell? ⟨b, 12, none⟩ = some (.slice a3 r.bricks.length c3) := h.2.2.2.2.2.2.2.2.2.2.2.2
end
set_option maxRecDepth 100000 in
set_option maxHeartbeats 64000000 in
theorem loaded_any (r : SetR) (ac : Option Addr) (c : List Int) (cc : Nat) (w : World) (hv : setB r = true) (hc : IsC r.bricks c) (hs : SetIn w r) (hN : Nums w.heap.size w ac c) :
    Calls Tryz.prog 9 #[.agg #[.string r.name, .int .i64 r.depth, .int .i64 r.low, .int .i64 r.high, .int .i64 r.length, .slice r.la r.lines.length r.lc, .int .i64 r.pipe, .int .i64 r.arbor, .int .i64 r.purchase, .int .i64 r.most, .int .i64 r.brake, .slice r.ia r.items.length r.ic, .slice r.ba r.bricks.length r.bc], .slice ac c.length cc] w fun e w' => Hid (∃ la lc ia ic ba bc, e = .returned (.tuple #[.agg #[.string r.name, .int .i64 r.depth, .int .i64 r.low, .int .i64 r.high, .int .i64 r.length, .slice la r.lines.length lc, .int .i64 r.pipe, .int .i64 r.arbor, .int .i64 r.purchase, .int .i64 r.most, .int .i64 r.brake, .slice ia r.items.length ic, .slice ba r.bricks.length bc], .int .i64 0]) ∧ SetIn w' (loadR r c la lc ia ic ba bc)) ∧ Below w.heap.size w w' := by
  have hk := setB_iff.1 hv
  obtain ⟨hl8, _, hcnt, hok⟩ := brick_ok hk.bricks
  have HV := Lib.hid hv
  have hlen := isC_len hc
  have HCN := Lib.hid (cnt_none hok hc)
  have HIC := Lib.hid hc
  have HOK := Lib.hid hok
  have HLEN := Lib.hid hlen
  have hl1 : r.lines.length ≤ 1100 := by have := (lines_iff.1 hk.lines).1; omega
  have hl2 : r.items.length ≤ 1100 := by have := (items_iff.1 hk.items).1; omega
  have hl3 : r.bricks.length ≤ 1100 := by omega
  have HNIL := Lib.hid (And.intro hs.lnil (And.intro hs.inil hs.bnil))
  have HNM := Lib.hid (And.intro hs.inames hs.bnames)
  have HCNT : Hid (cntTo (withC r.bricks c) (withC r.bricks c).length ≤ 60) := Lib.hid (by rw [withC_len]; have := withC_cnt hc _ (Nat.le_refl _); omega)
  have g0 : ((c.length : Int) != (r.bricks.length : Int)) = false := bne_eq_false_iff_eq.2 (by omega)
  have g00 : (c.length != r.bricks.length) = false := bne_eq_false_iff_eq.2 (by omega)
  have hcl : c.length ≤ 8 := by omega
  have hb0 := below_two w (.cells #[.string r.name, .int .i64 r.depth, .int .i64 r.low, .int .i64 r.high, .int .i64 r.length, .slice r.la r.lines.length r.lc, .int .i64 r.pipe, .int .i64 r.arbor, .int .i64 r.purchase, .int .i64 r.most, .int .i64 r.brake, .slice r.ia r.items.length r.ic, .slice r.ba r.bricks.length r.bc] 26) (.cells #[.string ⟨#[]⟩, .int .i64 0, .int .i64 0, .int .i64 0, .int .i64 0, .slice none 0 0, .int .i64 0, .int .i64 0, .int .i64 0, .int .i64 0, .int .i64 0, .slice none 0 0, .slice none 0 0] 26)
  have HX : Hid (∀ wx, Below ((w.alloc (.cells #[.string r.name, .int .i64 r.depth, .int .i64 r.low, .int .i64 r.high, .int .i64 r.length, .slice r.la r.lines.length r.lc, .int .i64 r.pipe, .int .i64 r.arbor, .int .i64 r.purchase, .int .i64 r.most, .int .i64 r.brake, .slice r.ia r.items.length r.ic, .slice r.ba r.bricks.length r.bc] 26)).alloc (.cells #[.string ⟨#[]⟩, .int .i64 0, .int .i64 0, .int .i64 0, .int .i64 0, .slice none 0 0, .int .i64 0, .int .i64 0, .int .i64 0, .int .i64 0, .int .i64 0, .slice none 0 0, .slice none 0 0] 26)).heap.size ((w.alloc (.cells #[.string r.name, .int .i64 r.depth, .int .i64 r.low, .int .i64 r.high, .int .i64 r.length, .slice r.la r.lines.length r.lc, .int .i64 r.pipe, .int .i64 r.arbor, .int .i64 r.purchase, .int .i64 r.most, .int .i64 r.brake, .slice r.ia r.items.length r.ic, .slice r.ba r.bricks.length r.bc] 26)).alloc (.cells #[.string ⟨#[]⟩, .int .i64 0, .int .i64 0, .int .i64 0, .int .i64 0, .slice none 0 0, .int .i64 0, .int .i64 0, .int .i64 0, .int .i64 0, .int .i64 0, .slice none 0 0, .slice none 0 0] 26)) wx → Below w.heap.size w wx) := Lib.hid fun wx h => mono_two _ _ h
  have HS : Hid (∀ wx, Below ((w.alloc (.cells #[.string r.name, .int .i64 r.depth, .int .i64 r.low, .int .i64 r.high, .int .i64 r.length, .slice r.la r.lines.length r.lc, .int .i64 r.pipe, .int .i64 r.arbor, .int .i64 r.purchase, .int .i64 r.most, .int .i64 r.brake, .slice r.ia r.items.length r.ic, .slice r.ba r.bricks.length r.bc] 26)).alloc (.cells #[.string ⟨#[]⟩, .int .i64 0, .int .i64 0, .int .i64 0, .int .i64 0, .slice none 0 0, .int .i64 0, .int .i64 0, .int .i64 0, .int .i64 0, .int .i64 0, .slice none 0 0, .slice none 0 0] 26)).heap.size ((w.alloc (.cells #[.string r.name, .int .i64 r.depth, .int .i64 r.low, .int .i64 r.high, .int .i64 r.length, .slice r.la r.lines.length r.lc, .int .i64 r.pipe, .int .i64 r.arbor, .int .i64 r.purchase, .int .i64 r.most, .int .i64 r.brake, .slice r.ia r.items.length r.ic, .slice r.ba r.bricks.length r.bc] 26)).alloc (.cells #[.string ⟨#[]⟩, .int .i64 0, .int .i64 0, .int .i64 0, .int .i64 0, .slice none 0 0, .int .i64 0, .int .i64 0, .int .i64 0, .int .i64 0, .int .i64 0, .slice none 0 0, .slice none 0 0] 26)) wx → SetIn wx r) := Lib.hid fun wx h => (hs.grow hb0).grow h
  have HNC : Hid (∀ wx, Below ((w.alloc (.cells #[.string r.name, .int .i64 r.depth, .int .i64 r.low, .int .i64 r.high, .int .i64 r.length, .slice r.la r.lines.length r.lc, .int .i64 r.pipe, .int .i64 r.arbor, .int .i64 r.purchase, .int .i64 r.most, .int .i64 r.brake, .slice r.ia r.items.length r.ic, .slice r.ba r.bricks.length r.bc] 26)).alloc (.cells #[.string ⟨#[]⟩, .int .i64 0, .int .i64 0, .int .i64 0, .int .i64 0, .slice none 0 0, .int .i64 0, .int .i64 0, .int .i64 0, .int .i64 0, .int .i64 0, .slice none 0 0, .slice none 0 0] 26)).heap.size ((w.alloc (.cells #[.string r.name, .int .i64 r.depth, .int .i64 r.low, .int .i64 r.high, .int .i64 r.length, .slice r.la r.lines.length r.lc, .int .i64 r.pipe, .int .i64 r.arbor, .int .i64 r.purchase, .int .i64 r.most, .int .i64 r.brake, .slice r.ia r.items.length r.ic, .slice r.ba r.bricks.length r.bc] 26)).alloc (.cells #[.string ⟨#[]⟩, .int .i64 0, .int .i64 0, .int .i64 0, .int .i64 0, .slice none 0 0, .int .i64 0, .int .i64 0, .int .i64 0, .int .i64 0, .int .i64 0, .slice none 0 0, .slice none 0 0] 26)) wx → Nums wx.heap.size wx ac c) := Lib.hid fun wx h => (hN.grow hb0).grow h
  have HAT : Hid (∀ wx, Below ((w.alloc (.cells #[.string r.name, .int .i64 r.depth, .int .i64 r.low, .int .i64 r.high, .int .i64 r.length, .slice r.la r.lines.length r.lc, .int .i64 r.pipe, .int .i64 r.arbor, .int .i64 r.purchase, .int .i64 r.most, .int .i64 r.brake, .slice r.ia r.items.length r.ic, .slice r.ba r.bricks.length r.bc] 26)).alloc (.cells #[.string ⟨#[]⟩, .int .i64 0, .int .i64 0, .int .i64 0, .int .i64 0, .slice none 0 0, .int .i64 0, .int .i64 0, .int .i64 0, .int .i64 0, .int .i64 0, .slice none 0 0, .slice none 0 0] 26)).heap.size ((w.alloc (.cells #[.string r.name, .int .i64 r.depth, .int .i64 r.low, .int .i64 r.high, .int .i64 r.length, .slice r.la r.lines.length r.lc, .int .i64 r.pipe, .int .i64 r.arbor, .int .i64 r.purchase, .int .i64 r.most, .int .i64 r.brake, .slice r.ia r.items.length r.ic, .slice r.ba r.bricks.length r.bc] 26)).alloc (.cells #[.string ⟨#[]⟩, .int .i64 0, .int .i64 0, .int .i64 0, .int .i64 0, .slice none 0 0, .int .i64 0, .int .i64 0, .int .i64 0, .int .i64 0, .int .i64 0, .slice none 0 0, .slice none 0 0] 26)) wx → SetAt wx w.heap.size r) := Lib.hid fun wx h => ((SetAt.new w r 26).below (below_new _ _) (by simp)).below h (by simp; omega)
  have HZ : Hid (∀ wx, Below ((w.alloc (.cells #[.string r.name, .int .i64 r.depth, .int .i64 r.low, .int .i64 r.high, .int .i64 r.length, .slice r.la r.lines.length r.lc, .int .i64 r.pipe, .int .i64 r.arbor, .int .i64 r.purchase, .int .i64 r.most, .int .i64 r.brake, .slice r.ia r.items.length r.ic, .slice r.ba r.bricks.length r.bc] 26)).alloc (.cells #[.string ⟨#[]⟩, .int .i64 0, .int .i64 0, .int .i64 0, .int .i64 0, .slice none 0 0, .int .i64 0, .int .i64 0, .int .i64 0, .int .i64 0, .int .i64 0, .slice none 0 0, .slice none 0 0] 26)).heap.size ((w.alloc (.cells #[.string r.name, .int .i64 r.depth, .int .i64 r.low, .int .i64 r.high, .int .i64 r.length, .slice r.la r.lines.length r.lc, .int .i64 r.pipe, .int .i64 r.arbor, .int .i64 r.purchase, .int .i64 r.most, .int .i64 r.brake, .slice r.ia r.items.length r.ic, .slice r.ba r.bricks.length r.bc] 26)).alloc (.cells #[.string ⟨#[]⟩, .int .i64 0, .int .i64 0, .int .i64 0, .int .i64 0, .slice none 0 0, .int .i64 0, .int .i64 0, .int .i64 0, .int .i64 0, .int .i64 0, .slice none 0 0, .slice none 0 0] 26)) wx → ZeroS wx (w.heap.size + 1)) := Lib.hid fun wx h => by
    have := (ZeroS.new (w.alloc (.cells #[.string r.name, .int .i64 r.depth, .int .i64 r.low, .int .i64 r.high, .int .i64 r.length, .slice r.la r.lines.length r.lc, .int .i64 r.pipe, .int .i64 r.arbor, .int .i64 r.purchase, .int .i64 r.most, .int .i64 r.brake, .slice r.ia r.items.length r.ic, .slice r.ba r.bricks.length r.bc] 26)) 26).below h
    simpa using this
  clear hb0 hs hN hv hc hk hok hlen hcnt
  go_enter Tryz.func9, Tryz.ntmps9
  go_wp2_with fail
  generalize ((w.alloc (.cells #[.string r.name, .int .i64 r.depth, .int .i64 r.low, .int .i64 r.high, .int .i64 r.length, .slice r.la r.lines.length r.lc, .int .i64 r.pipe, .int .i64 r.arbor, .int .i64 r.purchase, .int .i64 r.most, .int .i64 r.brake, .slice r.ia r.items.length r.ic, .slice r.ba r.bricks.length r.bc] 26)).alloc (.cells #[.string ⟨#[]⟩, .int .i64 0, .int .i64 0, .int .i64 0, .int .i64 0, .slice none 0 0, .int .i64 0, .int .i64 0, .int .i64 0, .int .i64 0, .int .i64 0, .slice none 0 0, .slice none 0 0] 26)) = W0 at *
  have hB1 := Below.refl W0.heap.size W0
  have x0 : ∀ wx, Below W0.heap.size W0 wx → wx.cell? ⟨w.heap.size, 0, none⟩ = some (.string r.name) := fun wx h => (HAT.out wx h).1
  have x1 : ∀ wx, Below W0.heap.size W0 wx → wx.cell? ⟨w.heap.size, 1, none⟩ = some (.int .i64 r.depth) := fun wx h => (HAT.out wx h).2.1
  have x2 : ∀ wx, Below W0.heap.size W0 wx → wx.cell? ⟨w.heap.size, 2, none⟩ = some (.int .i64 r.low) := fun wx h => (HAT.out wx h).2.2.1
  have x3 : ∀ wx, Below W0.heap.size W0 wx → wx.cell? ⟨w.heap.size, 3, none⟩ = some (.int .i64 r.high) := fun wx h => (HAT.out wx h).2.2.2.1
  have x4 : ∀ wx, Below W0.heap.size W0 wx → wx.cell? ⟨w.heap.size, 4, none⟩ = some (.int .i64 r.length) := fun wx h => (HAT.out wx h).2.2.2.2.1
  have x5 : ∀ wx, Below W0.heap.size W0 wx → wx.cell? ⟨w.heap.size, 5, none⟩ = some (.slice r.la r.lines.length r.lc) := fun wx h => (HAT.out wx h).2.2.2.2.2.1
  have x6 : ∀ wx, Below W0.heap.size W0 wx → wx.cell? ⟨w.heap.size, 6, none⟩ = some (.int .i64 r.pipe) := fun wx h => (HAT.out wx h).2.2.2.2.2.2.1
  have x7 : ∀ wx, Below W0.heap.size W0 wx → wx.cell? ⟨w.heap.size, 7, none⟩ = some (.int .i64 r.arbor) := fun wx h => (HAT.out wx h).2.2.2.2.2.2.2.1
  have x8 : ∀ wx, Below W0.heap.size W0 wx → wx.cell? ⟨w.heap.size, 8, none⟩ = some (.int .i64 r.purchase) := fun wx h => (HAT.out wx h).2.2.2.2.2.2.2.2.1
  have x9 : ∀ wx, Below W0.heap.size W0 wx → wx.cell? ⟨w.heap.size, 9, none⟩ = some (.int .i64 r.most) := fun wx h => (HAT.out wx h).2.2.2.2.2.2.2.2.2.1
  have x10 : ∀ wx, Below W0.heap.size W0 wx → wx.cell? ⟨w.heap.size, 10, none⟩ = some (.int .i64 r.brake) := fun wx h => (HAT.out wx h).2.2.2.2.2.2.2.2.2.2.1
  have x11 : ∀ wx, Below W0.heap.size W0 wx → wx.cell? ⟨w.heap.size, 11, none⟩ = some (.slice r.ia r.items.length r.ic) := fun wx h => (HAT.out wx h).2.2.2.2.2.2.2.2.2.2.2.1
  have x12 : ∀ wx, Below W0.heap.size W0 wx → wx.cell? ⟨w.heap.size, 12, none⟩ = some (.slice r.ba r.bricks.length r.bc) := fun wx h => (HAT.out wx h).2.2.2.2.2.2.2.2.2.2.2.2
  go_upto_region 8 with (first
    | (go_at_call 23; (with_reducible refine (batvalid_any r _ (HS.out _ hB1)).mono ?_); rintro e w2 ⟨rfl, hb⟩; rw [HV.out]; have hB2 := hB1.trans (hb.mono hB1.size); clear hb)
    | (go_at_call 24; (with_reducible refine (num_containsFunc ac c cc _ _ _ (fun n => !betB n 0 60) _ ent_cnt (by omega) (Nat.le_refl _) (HNC.out _ hB2) (asks_cnt _ _)).mono ?_); rintro e w3 ⟨rfl, hb⟩; rw [HCN.out]; have hB3 := hB2.trans (hb.mono hB2.size); clear hb))
  have hB7 : Below W0.heap.size W0 (w3.alloc (.cells #[.string r.name, .int .i64 r.depth, .int .i64 r.low, .int .i64 r.high, .int .i64 r.length, .slice r.la r.lines.length r.lc, .int .i64 r.pipe, .int .i64 r.arbor, .int .i64 r.purchase, .int .i64 r.most, .int .i64 r.brake, .slice r.ia r.items.length r.ic, .slice r.ba r.bricks.length r.bc] 26)) := hB3.alloc hB3.size _
  have hA7 := SetAt.new w3 r 26
  have hf7 := fun j => free_new w3 #[.string r.name, .int .i64 r.depth, .int .i64 r.low, .int .i64 r.high, .int .i64 r.length, .slice r.la r.lines.length r.lc, .int .i64 r.pipe, .int .i64 r.arbor, .int .i64 r.purchase, .int .i64 r.most, .int .i64 r.brake, .slice r.ia r.items.length r.ic, .slice r.ba r.bricks.length r.bc] 26 j
  have hz7 : w3.heap.size < (w3.alloc (.cells #[.string r.name, .int .i64 r.depth, .int .i64 r.low, .int .i64 r.high, .int .i64 r.length, .slice r.la r.lines.length r.lc, .int .i64 r.pipe, .int .i64 r.arbor, .int .i64 r.purchase, .int .i64 r.most, .int .i64 r.brake, .slice r.ia r.items.length r.ic, .slice r.ba r.bricks.length r.bc] 26)).heap.size := by simp
  have HB6 := Lib.hid hB3.size
  clear hB2 hB3
  generalize hB6 : w3.heap.size = B6 at *
  generalize (w3.alloc (.cells #[.string r.name, .int .i64 r.depth, .int .i64 r.low, .int .i64 r.high, .int .i64 r.length, .slice r.la r.lines.length r.lc, .int .i64 r.pipe, .int .i64 r.arbor, .int .i64 r.purchase, .int .i64 r.most, .int .i64 r.brake, .slice r.ia r.items.length r.ic, .slice r.ba r.bricks.length r.bc] 26)) = W7 at *
  have HB7 := Lib.hid hB7
  have HS7 := Lib.hid (And.intro hA7 (And.intro hf7 hz7))
  have HW : Hid (∀ (w8 w9 w10 : World), Below W7.drew.heap.size W7.drew w8 → Below w8.heap.size w8 w9 → Below w9.heap.size w9 w10 → w10.cell? ⟨B6, 5, none⟩ = some (.slice r.la r.lines.length r.lc) ∧ w10.frozen? ⟨B6, 5, none⟩ = false ∧ ((∀ v1, (w10.setCell ⟨B6, 5, none⟩ v1).cell? ⟨B6, 11, none⟩ = some (.slice r.ia r.items.length r.ic) ∧ (w10.setCell ⟨B6, 5, none⟩ v1).frozen? ⟨B6, 11, none⟩ = false) ∧ (∀ v1 v2, ((w10.setCell ⟨B6, 5, none⟩ v1).setCell ⟨B6, 11, none⟩ v2).cell? ⟨B6, 12, none⟩ = some (.slice r.ba r.bricks.length r.bc) ∧ ((w10.setCell ⟨B6, 5, none⟩ v1).setCell ⟨B6, 11, none⟩ v2).frozen? ⟨B6, 12, none⟩ = false) ∧ SetAt w10 B6 r ∧ (∀ j, w10.frozen? ⟨B6, j, none⟩ = false) ∧ B6 < w10.heap.size)) := Lib.hid fun w8 w9 w10 k1 k2 k3 => by
    have hbb : Below W7.heap.size W7 w10 := (Below.refl _ _).drew.trans ((k1.mono (Nat.le_refl _)).trans ((k2.mono k1.size).trans (k3.mono (Nat.le_trans k1.size k2.size))))
    have ha := HS7.out.1.below hbb HS7.out.2.2
    have hf : ∀ j, w10.frozen? ⟨B6, j, none⟩ = false := fun j => (hbb.frozen (p := ⟨B6, j, none⟩) HS7.out.2.2).trans (HS7.out.2.1 j)
    have ne : ∀ (W : World) (i j : Nat) (v : Value), j ≠ i → (W.setCell ⟨B6, i, none⟩ v).cell? ⟨B6, j, none⟩ = W.cell? ⟨B6, j, none⟩ := fun W i j v e => World.cell?_setCell_other _ _ _ _ (by intro q; injection q with _ q; exact e q.symm)
    have ha' := ha
    obtain ⟨_, _, _, _, _, a5, _, _, _, _, _, a11, a12⟩ := ha'
    exact ⟨a5, hf 5, fun v1 => ⟨(ne _ _ _ _ (by decide)).trans a11, (World.frozen?_setCell _ _ _ _).trans (hf 11)⟩, fun v1 v2 => ⟨(ne _ _ _ _ (by decide)).trans ((ne _ _ _ _ (by decide)).trans a12), ((World.frozen?_setCell _ _ _ _).trans (World.frozen?_setCell _ _ _ _)).trans (hf 12)⟩, ha, hf, Nat.lt_of_lt_of_le HS7.out.2.2 hbb.size⟩
  clear hA7 hf7 hz7
  refine wp_region_held_drew (S := (fun w' => Below W0.heap.size W0 w')) (by kernel_rfl) (hB7.drew) (fun hHeld => ?_)
  refine wpAnyH_take (i := 0) (oi := _) (v := ?_) rfl (by kernel_rfl) (by kernel_rfl) (by kernel_rfl) (fun _ _ _ h => h) (Or.inl ⟨by rfl, ?_⟩) (by assumption) ?_
  rotate_left
  · (intro w hSw; (try dsimp only at hSw); (try simp only [List.getElem_toArray, List.getElem_cons_zero]); go_simp; try with_reducible rfl)
  simp only [Act.put, List.setIfInBounds_toArray, List.set_cons_zero, List.set_cons_succ, List.getElem_toArray, List.getElem_cons_zero]
  refine wpAnyH_take (i := 1) (oi := _) (v := ?_) rfl (by kernel_rfl) (by kernel_rfl) (by kernel_rfl) (fun _ _ _ h => h) (Or.inl ⟨by rfl, ?_⟩) (by assumption) ?_
  rotate_left
  · (intro w hSw; (try dsimp only at hSw); (try simp only [List.getElem_toArray, List.getElem_cons_succ, List.getElem_cons_zero]); go_simp; try with_reducible rfl)
  simp only [Act.put, List.setIfInBounds_toArray, List.set_cons_zero, List.set_cons_succ, List.getElem_toArray, List.getElem_cons_succ, List.getElem_cons_zero]
  refine wpAnyH_take (i := 3) (oi := _) (v := ?_) rfl (by kernel_rfl) (by kernel_rfl) (by kernel_rfl) (fun _ _ _ h => h) (Or.inl ⟨by rfl, ?_⟩) (by assumption) ?_
  rotate_left
  · (intro w hSw; (try dsimp only at hSw); (try simp only [List.getElem_toArray, List.getElem_cons_succ, List.getElem_cons_zero]); go_simp; try with_reducible rfl)
  simp only [Act.put, List.setIfInBounds_toArray, List.set_cons_zero, List.set_cons_succ, List.getElem_toArray, List.getElem_cons_succ, List.getElem_cons_zero]
  refine wpAnyH_take (i := 4) (oi := _) (v := ?_) rfl (by kernel_rfl) (by kernel_rfl) (by kernel_rfl) (fun _ _ _ h => h) (Or.inl ⟨by rfl, ?_⟩) (by assumption) ?_
  rotate_left
  · (intro w hSw; (try dsimp only at hSw); (try simp only [List.getElem_toArray, List.getElem_cons_succ, List.getElem_cons_zero]); go_simp; try with_reducible rfl)
  simp only [Act.put, List.setIfInBounds_toArray, List.set_cons_zero, List.set_cons_succ, List.getElem_toArray, List.getElem_cons_succ, List.getElem_cons_zero]
  refine wpAnyH_take (i := 6) (oi := _) (v := ?_) rfl (by kernel_rfl) (by kernel_rfl) (by kernel_rfl) (fun _ _ _ h => h) (Or.inl ⟨by rfl, ?_⟩) (by assumption) ?_
  rotate_left
  · (intro w hSw; (try dsimp only at hSw); (try simp only [List.getElem_toArray, List.getElem_cons_succ, List.getElem_cons_zero]); go_simp; try with_reducible rfl)
  simp only [Act.put, List.setIfInBounds_toArray, List.set_cons_zero, List.set_cons_succ, List.getElem_toArray, List.getElem_cons_succ, List.getElem_cons_zero]
  refine wpAnyH_take (i := 7) (oi := _) (v := ?_) rfl (by kernel_rfl) (by kernel_rfl) (by kernel_rfl) (fun _ _ _ h => h) (Or.inl ⟨by rfl, ?_⟩) (by assumption) ?_
  rotate_left
  · (intro w hSw; (try dsimp only at hSw); (try simp only [List.getElem_toArray, List.getElem_cons_succ, List.getElem_cons_zero]); go_simp; try with_reducible rfl)
  simp only [Act.put, List.setIfInBounds_toArray, List.set_cons_zero, List.set_cons_succ, List.getElem_toArray, List.getElem_cons_succ, List.getElem_cons_zero]
  refine wpAnyH_ready (rs := [2]) (by kernel_rfl) (by simp) ?_
  refine AllReadyH.cons (o := _) rfl (fun K hK => ?_) AllReadyH.nil
  try simp only [List.getElem_toArray, List.getElem_cons_succ, List.getElem_cons_zero]
  go_simp
  (go_at_call 26; go_split_ands; (with_reducible refine (num_clone r.la r.lines r.lc _ hl1 HNIL.out.1 (HS.out _ hHeld).lines).mono ?_); rintro e w8 hx; obtain ⟨v1, rfl, hr, hb⟩ := hx.out; obtain ⟨a1, c1, rfl, hcc1, _, hnn1, _⟩ := num_of_row hr; have HR1 := Lib.hid hr; have HB1 := Lib.hid hb; have HC1 := Lib.hid hcc1; have HN1 := Lib.hid hnn1; clear hx hr hcc1 hnn1)
  go_wp2_with fail
  refine hK.out _ _ (hHeld.trans (hb.mono hHeld.size)) (fun hHeld => ?_)
  clear hK K
  try simp only [Act.put, List.setIfInBounds_toArray, List.set_cons_zero, List.set_cons_succ, List.getElem_toArray, List.getElem_cons_succ, List.getElem_cons_zero]
  refine wpAnyH_take (i := 9) (oi := _) (v := ?_) rfl (by kernel_rfl) (by kernel_rfl) (by kernel_rfl) (fun _ _ _ h => h) (Or.inl ⟨by rfl, ?_⟩) (by assumption) ?_
  rotate_left
  · (intro w hSw; (try dsimp only at hSw); (try simp only [List.getElem_toArray, List.getElem_cons_succ, List.getElem_cons_zero]); go_simp; try with_reducible rfl)
  simp only [Act.put, List.setIfInBounds_toArray, List.set_cons_zero, List.set_cons_succ, List.getElem_toArray, List.getElem_cons_succ, List.getElem_cons_zero]
  refine wpAnyH_ready (rs := [5]) (by kernel_rfl) (by simp) ?_
  refine AllReadyH.cons (o := _) rfl (fun K hK => ?_) AllReadyH.nil
  try simp only [List.getElem_toArray, List.getElem_cons_succ, List.getElem_cons_zero]
  go_simp
  (go_at_call 27; go_split_ands; (with_reducible refine (item_clone r.ia r.items r.ic _ hl2 HNIL.out.2.1 (HS.out _ hHeld).items).mono ?_); rintro e w9 hx; obtain ⟨v2, rfl, hr, hb⟩ := hx.out; obtain ⟨a2, c2, rfl, hcc2, _, hnn2, _⟩ := item_of_row hr; have HR2 := Lib.hid hr; have HB2 := Lib.hid hb; have HC2 := Lib.hid hcc2; have HN2 := Lib.hid hnn2; clear hx hr hcc2 hnn2)
  go_wp2_with fail
  refine hK.out _ _ (hHeld.trans (hb.mono hHeld.size)) (fun hHeld => ?_)
  clear hK K
  try simp only [Act.put, List.setIfInBounds_toArray, List.set_cons_zero, List.set_cons_succ, List.getElem_toArray, List.getElem_cons_succ, List.getElem_cons_zero]
  refine wpAnyH_ready (rs := [8]) (by kernel_rfl) (by simp) ?_
  refine AllReadyH.cons (o := _) rfl (fun K hK => ?_) AllReadyH.nil
  try simp only [List.getElem_toArray, List.getElem_cons_succ, List.getElem_cons_zero]
  go_simp
  (go_at_call 28; go_split_ands; (with_reducible refine (brick_clone r.ba r.bricks r.bc _ hl3 HNIL.out.2.2 (HS.out _ hHeld).bricks).mono ?_); rintro e w10 hx; obtain ⟨v3, rfl, hr, hb⟩ := hx.out; obtain ⟨a3, c3, rfl, hcc3, _, hnn3, _⟩ := brick_of_row hr; have HR3 := Lib.hid hr; have HB3 := Lib.hid hb; have HC3 := Lib.hid hcc3; have HN3 := Lib.hid hnn3; clear hx hr hcc3 hnn3)
  go_wp2_with fail
  refine hK.out _ _ (hHeld.trans (hb.mono hHeld.size)) (fun hHeld => ?_)
  clear hK K
  try simp only [Act.put, List.setIfInBounds_toArray, List.set_cons_zero, List.set_cons_succ, List.getElem_toArray, List.getElem_cons_succ, List.getElem_cons_zero]
  refine wpAnyH_ready (rs := [10]) (by kernel_rfl) (by simp) ?_
  refine AllReadyH.cons (o := _) rfl (fun K hK => ?_) AllReadyH.nil
  have qa := (HW.out _ _ w10 HB1.out HB2.out HB3.out).1
  have qb := (HW.out _ _ w10 HB1.out HB2.out HB3.out).2.1
  have HT := Lib.hid (HW.out _ _ w10 HB1.out HB2.out HB3.out).2.2
  try simp only [List.getElem_toArray, List.getElem_cons_succ, List.getElem_cons_zero]
  go_simp
  refine hK.out _ _ (hHeld.setCell (show W0.heap.size ≤ B6 from HB6.out) _) (fun hHeld => ?_)
  clear hK K
  try simp only [Act.put, List.setIfInBounds_toArray, List.set_cons_zero, List.set_cons_succ, List.getElem_toArray, List.getElem_cons_succ, List.getElem_cons_zero]
  refine wpAnyH_take (i := 11) (oi := _) (v := ?_) rfl (by kernel_rfl) (by kernel_rfl) (by kernel_rfl) (fun _ _ _ h => h) (Or.inl ⟨by rfl, ?_⟩) (by assumption) ?_
  rotate_left
  · (intro w hSw; (try dsimp only at hSw); (try simp only [List.getElem_toArray, List.getElem_cons_succ, List.getElem_cons_zero]); go_simp; try with_reducible rfl)
  simp only [Act.put, List.setIfInBounds_toArray, List.set_cons_zero, List.set_cons_succ, List.getElem_toArray, List.getElem_cons_succ, List.getElem_cons_zero]
  refine wpAnyH_ready (rs := [12]) (by kernel_rfl) (by simp) ?_
  refine AllReadyH.cons (o := _) rfl (fun K hK => ?_) AllReadyH.nil
  clear qa qb
  have qa := (HT.out.1 (.slice a1 r.lines.length c1)).1
  have qb := (HT.out.1 (.slice a1 r.lines.length c1)).2
  try simp only [List.getElem_toArray, List.getElem_cons_succ, List.getElem_cons_zero]
  go_simp
  refine hK.out _ _ (hHeld.setCell (show W0.heap.size ≤ B6 from HB6.out) _) (fun hHeld => ?_)
  clear hK K
  try simp only [Act.put, List.setIfInBounds_toArray, List.set_cons_zero, List.set_cons_succ, List.getElem_toArray, List.getElem_cons_succ, List.getElem_cons_zero]
  refine wpAnyH_take (i := 13) (oi := _) (v := ?_) rfl (by kernel_rfl) (by kernel_rfl) (by kernel_rfl) (fun _ _ _ h => h) (Or.inl ⟨by rfl, ?_⟩) (by assumption) ?_
  rotate_left
  · (intro w hSw; (try dsimp only at hSw); (try simp only [List.getElem_toArray, List.getElem_cons_succ, List.getElem_cons_zero]); go_simp; try with_reducible rfl)
  simp only [Act.put, List.setIfInBounds_toArray, List.set_cons_zero, List.set_cons_succ, List.getElem_toArray, List.getElem_cons_succ, List.getElem_cons_zero]
  refine wpAnyH_ready (rs := [14]) (by kernel_rfl) (by simp) ?_
  refine AllReadyH.cons (o := _) rfl (fun K hK => ?_) AllReadyH.nil
  clear qa qb
  have qa := (HT.out.2.1 (.slice a1 r.lines.length c1) (.slice a2 r.items.length c2)).1
  have qb := (HT.out.2.1 (.slice a1 r.lines.length c1) (.slice a2 r.items.length c2)).2
  try simp only [List.getElem_toArray, List.getElem_cons_succ, List.getElem_cons_zero]
  go_simp
  refine hK.out _ _ (hHeld.setCell (show W0.heap.size ≤ B6 from HB6.out) _) (fun hHeld => ?_)
  clear hK K
  try simp only [Act.put, List.setIfInBounds_toArray, List.set_cons_zero, List.set_cons_succ, List.getElem_toArray, List.getElem_cons_succ, List.getElem_cons_zero]
  refine wpAnyH_done (by kernel_rfl) ?_ _
  have hWf := hHeld
  have hT := HT.out.2.2
  have e3 := set3_at hT.1 (.slice a1 r.lines.length c1) (.slice a2 r.items.length c2) (.slice a3 r.bricks.length c3)
  have s78 : W7.drew.heap.size ≤ w8.heap.size := HB1.out.size
  have s89 := HB2.out.size
  have hb67 : B6 < W7.drew.heap.size := HS7.out.2.2
  have r1 : (((w10.setCell ⟨B6, 5, none⟩ (.slice a1 r.lines.length c1)).setCell ⟨B6, 11, none⟩ (.slice a2 r.items.length c2)).setCell ⟨B6, 12, none⟩ (.slice a3 r.bricks.length c3)).ownsRow W7.drew.heap.size 3 1 (.slice a1 r.lines.length c1) r.lines.length (nflat r.lines) :=
    ownsRow_setCell_below (ownsRow_setCell_below (ownsRow_setCell_below (ownsRow_below (ownsRow_below HR1.out HB2.out) HB3.out) (a := ⟨B6, 5, none⟩) hb67 _) (a := ⟨B6, 11, none⟩) hb67 _) (a := ⟨B6, 12, none⟩) hb67 _
  have r2 : (((w10.setCell ⟨B6, 5, none⟩ (.slice a1 r.lines.length c1)).setCell ⟨B6, 11, none⟩ (.slice a2 r.items.length c2)).setCell ⟨B6, 12, none⟩ (.slice a3 r.bricks.length c3)).ownsRow w8.heap.size 59 7 (.slice a2 r.items.length c2) r.items.length (tflat r.items) :=
    ownsRow_setCell_below (ownsRow_setCell_below (ownsRow_setCell_below (ownsRow_below HR2.out HB3.out) (a := ⟨B6, 5, none⟩) (Nat.lt_of_lt_of_le hb67 s78) _) (a := ⟨B6, 11, none⟩) (Nat.lt_of_lt_of_le hb67 s78) _) (a := ⟨B6, 12, none⟩) (Nat.lt_of_lt_of_le hb67 s78) _
  have r3 : (((w10.setCell ⟨B6, 5, none⟩ (.slice a1 r.lines.length c1)).setCell ⟨B6, 11, none⟩ (.slice a2 r.items.length c2)).setCell ⟨B6, 12, none⟩ (.slice a3 r.bricks.length c3)).ownsRow w9.heap.size 61 3 (.slice a3 r.bricks.length c3) r.bricks.length (kflat (withC r.bricks (c.take 0))) := by
    have q : B6 < w9.heap.size := Nat.lt_of_lt_of_le hb67 (Nat.le_trans s78 s89)
    have e : withC r.bricks (c.take 0) = r.bricks := by rw [List.take_zero]; cases r.bricks <;> rfl
    rw [e]
    exact ownsRow_setCell_below (ownsRow_setCell_below (ownsRow_setCell_below HR3.out (a := ⟨B6, 5, none⟩) q _) (a := ⟨B6, 11, none⟩) q _) (a := ⟨B6, 12, none⟩) q _
  have HL1 := Lib.hid (own_lt HR1.out)
  have HL2 := Lib.hid (own_lt HR2.out)
  have HSZ : Hid (B6 < w9.heap.size ∧ w8.heap.size ≤ w9.heap.size) := Lib.hid ⟨Nat.lt_of_lt_of_le hb67 (Nat.le_trans s78 s89), s89⟩
  have HBS : Hid (W0.heap.size ≤ w9.heap.size ∧ B6 < (((w10.setCell ⟨B6, 5, none⟩ (.slice a1 r.lines.length c1)).setCell ⟨B6, 11, none⟩ (.slice a2 r.items.length c2)).setCell ⟨B6, 12, none⟩ (.slice a3 r.bricks.length c3)).heap.size) := Lib.hid ⟨by have := HB6.out; have := Nat.le_trans s78 s89; omega, by have := hT.2.2; simpa using this⟩
  have HQ1 := Lib.hid r1
  have HQ2 := Lib.hid r2
  have HQ3 := Lib.hid r3
  have HE3 : Hid (LoadAt (((w10.setCell ⟨B6, 5, none⟩ (.slice a1 r.lines.length c1)).setCell ⟨B6, 11, none⟩ (.slice a2 r.items.length c2)).setCell ⟨B6, 12, none⟩ (.slice a3 r.bricks.length c3)) B6 r a1 c1 a2 c2 a3 c3) := Lib.hid e3
  clear r1 r2 r3 e3 hT s78 s89 hb67 qa qb hHeld hB7
  generalize (((w10.setCell ⟨B6, 5, none⟩ (.slice a1 r.lines.length c1)).setCell ⟨B6, 11, none⟩ (.slice a2 r.items.length c2)).setCell ⟨B6, 12, none⟩ (.slice a3 r.bricks.length c3)) = Wf at *
  go_wp2_with fail
  go_loopw [43] (fun v wr => ∃ k : Nat, k ≤ c.length ∧ v = .int .i64 k ∧ Hid (wr.ownsRow w9.heap.size 61 3 (.slice a3 r.bricks.length c3) r.bricks.length (kflat (withC r.bricks (c.take k)))) ∧ Hid (wr.ownsRow W7.drew.heap.size 3 1 (.slice a1 r.lines.length c1) r.lines.length (nflat r.lines)) ∧ Hid (wr.ownsRow w8.heap.size 59 7 (.slice a2 r.items.length c2) r.items.length (tflat r.items)) ∧ Hid (LoadAt wr B6 r a1 c1 a2 c2 a3 c3) ∧ Hid (B6 < wr.heap.size) ∧ Below W0.heap.size W0 wr) (fun v _ => c.length - (intOf v).toNat)
  case atStart => exact ⟨0, Nat.zero_le _, rfl, HQ3, HQ1, HQ2, HE3, Lib.hid HBS.out.2, hWf⟩
  case round =>
    obtain ⟨k, hk, rfl, HP3, HP1, HP2, HLA, HBL, hB⟩ := hrel
    clear HQ1 HQ2 HQ3 HE3
    by_cases hlt : k < c.length
    · obtain ⟨bn, on, rfl, hbn, hcn⟩ := (HNC.out wr hB) (by omega)
      have y1 := hcn k hlt
      have hkb : k < r.bricks.length := by have := HLEN.out; omega
      obtain ⟨g, rfl, hg1, hg2⟩ := row_addr HP3.out (by omega)
      have o1 : wr.cell? ⟨g, k * 3 + 2, none⟩ = some (.int .i64 (bg (withC r.bricks (c.take k)) k).count) := by
        rw [HP3.out.cellAt (k * 3 + 2) (by omega)]
        exact (kflat_at _ k (by rw [withC_len]; exact hkb)).2.2
      have o2 := HP3.out.frozenAt (k * 3 + 2)
      obtain ⟨st1, st2⟩ := HP3.out.stored (k * 3 + 2) (.int .i64 (ig c k))
      rw [withC_flat HLEN.out hkb] at st1
      have HST := Lib.hid st1
      have HP1' := Lib.hid (own_far HP1.out HL1.out (Nat.le_trans HSZ.out.2 hg1) st2)
      have HP2' := Lib.hid (own_far HP2.out HL2.out hg1 st2)
      have HLA' := Lib.hid (HLA.out.set (show B6 ≠ g by have := HSZ.out.1; omega) (k * 3 + 2) (.int .i64 (ig c k)))
      have HBL' : Hid (B6 < (wr.setCell ⟨g, k * 3 + 2, none⟩ (.int .i64 (ig c k))).heap.size) := Lib.hid (by have := HBL.out; simpa using this)
      have hB' := hB.setCell (p := ⟨g, k * 3 + 2, none⟩) (show W0.heap.size ≤ g by have := HBS.out.1; omega) (.int .i64 (ig c k))
      have u12 := HLA.out.brk
      have k2 : (k : Int) < r.bricks.length := by omega
      have k3 : (k : Int) < c.length := by omega
      clear hcn st1 st2
      go_wp2_with fail
      go_roundw
      case rel => exact ⟨k + 1, by omega, by go_num, HST, HP1', HP2', HLA', HBL', hB'⟩
      case measure => simp [intOf]; omega
    · obtain rfl : k = c.length := by omega
      rw [List.take_length] at HP3
      have HP4 : Hid (wr.ownsRow w9.heap.size 61 3 (.slice a3 (withC r.bricks c).length c3) (withC r.bricks c).length (kflat (withC r.bricks c))) := Lib.hid (by
        have := HP3.out
        rw [← withC_len r.bricks c] at this
        exact this)
      have HBK : Hid (Bricks wr.heap.size wr a3 (withC r.bricks c)) := Lib.hid (by
        obtain ⟨a, cp, e, _, _, _, q⟩ := brick_of_row HP4.out
        cases e
        exact q)
      obtain ⟨N, hN⟩ : ∃ N, cntTo (withC r.bricks c) r.bricks.length = N := ⟨_, rfl⟩
      have HTH : Hid (Calls Tryz.prog 29 #[.agg #[.string r.name, .int .i64 r.depth, .int .i64 r.low, .int .i64 r.high, .int .i64 r.length, .slice a1 r.lines.length c1, .int .i64 r.pipe, .int .i64 r.arbor, .int .i64 r.purchase, .int .i64 r.most, .int .i64 r.brake, .slice a2 r.items.length c2, .slice a3 r.bricks.length c3]] wr fun e w' => e = .returned (.tuple #[.int .i64 (restC (withC r.bricks c)), .int .i64 N]) ∧ Below wr.heap.size wr w') := Lib.hid (by
        have := there_any (loadR r c a1 c1 a2 c2 a3 c3) wr (withC_ok HOK.out HIC.out) (by show (withC r.bricks c).length ≤ 8; rw [withC_len]; exact hl8) HBK.out
        rw [show (loadR r c a1 c1 a2 c2 a3 c3).bricks.length = r.bricks.length from withC_len _ _] at this
        rw [← hN]
        exact this)
      have gN : decide (60 < N) = false := decide_eq_false (by have := HCNT.out; rw [withC_len] at this; omega)
      obtain ⟨u0, u1, u2, u3, u4, u5, u6, u7, u8, u9, u10, u11, u12⟩ := HLA.out
      clear hN HP3
      go_wp2_with (go_at_call 29; (with_reducible refine HTH.out.mono ?_); rintro e w11 ⟨rfl, hb11⟩; obtain ⟨t0, t1, t2, t3, t4, t5, t6, t7, t8, t9, t10, t11, t12⟩ := HLA.out.below hb11 HBL.out; have hB11 := hB.trans (hb11.mono hB.size); have HH11 := Lib.hid hb11; have hz4 := HZ.out w11 hB11; obtain ⟨z0, z1, z2, z3, z4, z5, z6, z7, z8, z9, z10, z11, z12⟩ := hz4.cells; have hzf := hz4.free; have hzl := hz4.lt; clear hz4 hb11)
      show bodyPost _ _ _ Exit.ret _ (setFrom w11 (w.heap.size + 1) 0 [.string r.name, .int .i64 r.depth, .int .i64 r.low, .int .i64 r.high, .int .i64 r.length, .slice a1 r.lines.length c1, .int .i64 r.pipe, .int .i64 r.arbor, .int .i64 r.purchase, .int .i64 r.most, .int .i64 r.brake, .slice a2 r.items.length c2, .slice a3 r.bricks.length c3])
      have hB4 : w.heap.size + 1 < W0.heap.size := (HZ.out W0 hB1).lt
      have hsz : W0.heap.size ≤ W7.drew.heap.size := HB7.out.size
      have hrd := read_from [.string r.name, .int .i64 r.depth, .int .i64 r.low, .int .i64 r.high, .int .i64 r.length, .slice a1 r.lines.length c1, .int .i64 r.pipe, .int .i64 r.arbor, .int .i64 r.purchase, .int .i64 r.most, .int .i64 r.brake, .slice a2 r.items.length c2, .slice a3 r.bricks.length c3] w11 (w.heap.size + 1) 0 (by
        intro i hi
        match i, hi with
        | 0, _ => rw [show 0 + 0 = 0 by omega, z0]; rfl
        | 1, _ => rw [show 0 + 1 = 1 by omega, z1]; rfl
        | 2, _ => rw [show 0 + 2 = 2 by omega, z2]; rfl
        | 3, _ => rw [show 0 + 3 = 3 by omega, z3]; rfl
        | 4, _ => rw [show 0 + 4 = 4 by omega, z4]; rfl
        | 5, _ => rw [show 0 + 5 = 5 by omega, z5]; rfl
        | 6, _ => rw [show 0 + 6 = 6 by omega, z6]; rfl
        | 7, _ => rw [show 0 + 7 = 7 by omega, z7]; rfl
        | 8, _ => rw [show 0 + 8 = 8 by omega, z8]; rfl
        | 9, _ => rw [show 0 + 9 = 9 by omega, z9]; rfl
        | 10, _ => rw [show 0 + 10 = 10 by omega, z10]; rfl
        | 11, _ => rw [show 0 + 11 = 11 by omega, z11]; rfl
        | 12, _ => rw [show 0 + 12 = 12 by omega, z12]; rfl
        | n + 13, h => exact absurd h (by simp))
      have q1 : (setFrom w11 (w.heap.size + 1) 0 [.string r.name, .int .i64 r.depth, .int .i64 r.low, .int .i64 r.high, .int .i64 r.length, .slice a1 r.lines.length c1, .int .i64 r.pipe, .int .i64 r.arbor, .int .i64 r.purchase, .int .i64 r.most, .int .i64 r.brake, .slice a2 r.items.length c2, .slice a3 r.bricks.length c3]).ownsRow W7.drew.heap.size 3 1 (.slice a1 r.lines.length c1) r.lines.length (nflat r.lines) := own_from _ _ _ _ (ownsRow_below HP1.out HH11.out) (by omega)
      have q2 : (setFrom w11 (w.heap.size + 1) 0 [.string r.name, .int .i64 r.depth, .int .i64 r.low, .int .i64 r.high, .int .i64 r.length, .slice a1 r.lines.length c1, .int .i64 r.pipe, .int .i64 r.arbor, .int .i64 r.purchase, .int .i64 r.most, .int .i64 r.brake, .slice a2 r.items.length c2, .slice a3 r.bricks.length c3]).ownsRow w8.heap.size 59 7 (.slice a2 r.items.length c2) r.items.length (tflat r.items) := own_from _ _ _ _ (ownsRow_below HP2.out HH11.out) (by have := HB1.out.size; omega)
      have q3 : (setFrom w11 (w.heap.size + 1) 0 [.string r.name, .int .i64 r.depth, .int .i64 r.low, .int .i64 r.high, .int .i64 r.length, .slice a1 r.lines.length c1, .int .i64 r.pipe, .int .i64 r.arbor, .int .i64 r.purchase, .int .i64 r.most, .int .i64 r.brake, .slice a2 r.items.length c2, .slice a3 r.bricks.length c3]).ownsRow w9.heap.size 61 3 (.slice a3 (withC r.bricks c).length c3) (withC r.bricks c).length (kflat (withC r.bricks c)) := own_from _ _ _ _ (ownsRow_below HP4.out HH11.out) (by have := HB1.out.size; have := HB2.out.size; omega)
      have qB : Below w.heap.size w (setFrom w11 (w.heap.size + 1) 0 [.string r.name, .int .i64 r.depth, .int .i64 r.low, .int .i64 r.high, .int .i64 r.length, .slice a1 r.lines.length c1, .int .i64 r.pipe, .int .i64 r.arbor, .int .i64 r.purchase, .int .i64 r.most, .int .i64 r.brake, .slice a2 r.items.length c2, .slice a3 r.bricks.length c3]) := below_from _ _ _ (HX.out _ hB11) (by omega)
      have f0 : (setFrom w11 (w.heap.size + 1) 0 [.string r.name, .int .i64 r.depth, .int .i64 r.low, .int .i64 r.high, .int .i64 r.length, .slice a1 r.lines.length c1, .int .i64 r.pipe, .int .i64 r.arbor, .int .i64 r.purchase, .int .i64 r.most, .int .i64 r.brake, .slice a2 r.items.length c2, .slice a3 r.bricks.length c3]).cell? ⟨w.heap.size + 1, 0, none⟩ = some (.string r.name) := hrd 0 (by simp)
      have f1 : (setFrom w11 (w.heap.size + 1) 0 [.string r.name, .int .i64 r.depth, .int .i64 r.low, .int .i64 r.high, .int .i64 r.length, .slice a1 r.lines.length c1, .int .i64 r.pipe, .int .i64 r.arbor, .int .i64 r.purchase, .int .i64 r.most, .int .i64 r.brake, .slice a2 r.items.length c2, .slice a3 r.bricks.length c3]).cell? ⟨w.heap.size + 1, 1, none⟩ = some (.int .i64 r.depth) := hrd 1 (by simp)
      have f2 : (setFrom w11 (w.heap.size + 1) 0 [.string r.name, .int .i64 r.depth, .int .i64 r.low, .int .i64 r.high, .int .i64 r.length, .slice a1 r.lines.length c1, .int .i64 r.pipe, .int .i64 r.arbor, .int .i64 r.purchase, .int .i64 r.most, .int .i64 r.brake, .slice a2 r.items.length c2, .slice a3 r.bricks.length c3]).cell? ⟨w.heap.size + 1, 2, none⟩ = some (.int .i64 r.low) := hrd 2 (by simp)
      have f3 : (setFrom w11 (w.heap.size + 1) 0 [.string r.name, .int .i64 r.depth, .int .i64 r.low, .int .i64 r.high, .int .i64 r.length, .slice a1 r.lines.length c1, .int .i64 r.pipe, .int .i64 r.arbor, .int .i64 r.purchase, .int .i64 r.most, .int .i64 r.brake, .slice a2 r.items.length c2, .slice a3 r.bricks.length c3]).cell? ⟨w.heap.size + 1, 3, none⟩ = some (.int .i64 r.high) := hrd 3 (by simp)
      have f4 : (setFrom w11 (w.heap.size + 1) 0 [.string r.name, .int .i64 r.depth, .int .i64 r.low, .int .i64 r.high, .int .i64 r.length, .slice a1 r.lines.length c1, .int .i64 r.pipe, .int .i64 r.arbor, .int .i64 r.purchase, .int .i64 r.most, .int .i64 r.brake, .slice a2 r.items.length c2, .slice a3 r.bricks.length c3]).cell? ⟨w.heap.size + 1, 4, none⟩ = some (.int .i64 r.length) := hrd 4 (by simp)
      have f5 : (setFrom w11 (w.heap.size + 1) 0 [.string r.name, .int .i64 r.depth, .int .i64 r.low, .int .i64 r.high, .int .i64 r.length, .slice a1 r.lines.length c1, .int .i64 r.pipe, .int .i64 r.arbor, .int .i64 r.purchase, .int .i64 r.most, .int .i64 r.brake, .slice a2 r.items.length c2, .slice a3 r.bricks.length c3]).cell? ⟨w.heap.size + 1, 5, none⟩ = some (.slice a1 r.lines.length c1) := hrd 5 (by simp)
      have f6 : (setFrom w11 (w.heap.size + 1) 0 [.string r.name, .int .i64 r.depth, .int .i64 r.low, .int .i64 r.high, .int .i64 r.length, .slice a1 r.lines.length c1, .int .i64 r.pipe, .int .i64 r.arbor, .int .i64 r.purchase, .int .i64 r.most, .int .i64 r.brake, .slice a2 r.items.length c2, .slice a3 r.bricks.length c3]).cell? ⟨w.heap.size + 1, 6, none⟩ = some (.int .i64 r.pipe) := hrd 6 (by simp)
      have f7 : (setFrom w11 (w.heap.size + 1) 0 [.string r.name, .int .i64 r.depth, .int .i64 r.low, .int .i64 r.high, .int .i64 r.length, .slice a1 r.lines.length c1, .int .i64 r.pipe, .int .i64 r.arbor, .int .i64 r.purchase, .int .i64 r.most, .int .i64 r.brake, .slice a2 r.items.length c2, .slice a3 r.bricks.length c3]).cell? ⟨w.heap.size + 1, 7, none⟩ = some (.int .i64 r.arbor) := hrd 7 (by simp)
      have f8 : (setFrom w11 (w.heap.size + 1) 0 [.string r.name, .int .i64 r.depth, .int .i64 r.low, .int .i64 r.high, .int .i64 r.length, .slice a1 r.lines.length c1, .int .i64 r.pipe, .int .i64 r.arbor, .int .i64 r.purchase, .int .i64 r.most, .int .i64 r.brake, .slice a2 r.items.length c2, .slice a3 r.bricks.length c3]).cell? ⟨w.heap.size + 1, 8, none⟩ = some (.int .i64 r.purchase) := hrd 8 (by simp)
      have f9 : (setFrom w11 (w.heap.size + 1) 0 [.string r.name, .int .i64 r.depth, .int .i64 r.low, .int .i64 r.high, .int .i64 r.length, .slice a1 r.lines.length c1, .int .i64 r.pipe, .int .i64 r.arbor, .int .i64 r.purchase, .int .i64 r.most, .int .i64 r.brake, .slice a2 r.items.length c2, .slice a3 r.bricks.length c3]).cell? ⟨w.heap.size + 1, 9, none⟩ = some (.int .i64 r.most) := hrd 9 (by simp)
      have f10 : (setFrom w11 (w.heap.size + 1) 0 [.string r.name, .int .i64 r.depth, .int .i64 r.low, .int .i64 r.high, .int .i64 r.length, .slice a1 r.lines.length c1, .int .i64 r.pipe, .int .i64 r.arbor, .int .i64 r.purchase, .int .i64 r.most, .int .i64 r.brake, .slice a2 r.items.length c2, .slice a3 r.bricks.length c3]).cell? ⟨w.heap.size + 1, 10, none⟩ = some (.int .i64 r.brake) := hrd 10 (by simp)
      have f11 : (setFrom w11 (w.heap.size + 1) 0 [.string r.name, .int .i64 r.depth, .int .i64 r.low, .int .i64 r.high, .int .i64 r.length, .slice a1 r.lines.length c1, .int .i64 r.pipe, .int .i64 r.arbor, .int .i64 r.purchase, .int .i64 r.most, .int .i64 r.brake, .slice a2 r.items.length c2, .slice a3 r.bricks.length c3]).cell? ⟨w.heap.size + 1, 11, none⟩ = some (.slice a2 r.items.length c2) := hrd 11 (by simp)
      have f12 : (setFrom w11 (w.heap.size + 1) 0 [.string r.name, .int .i64 r.depth, .int .i64 r.low, .int .i64 r.high, .int .i64 r.length, .slice a1 r.lines.length c1, .int .i64 r.pipe, .int .i64 r.arbor, .int .i64 r.purchase, .int .i64 r.most, .int .i64 r.brake, .slice a2 r.items.length c2, .slice a3 r.bricks.length c3]).cell? ⟨w.heap.size + 1, 12, none⟩ = some (.slice a3 r.bricks.length c3) := hrd 12 (by simp)
      generalize (setFrom w11 (w.heap.size + 1) 0 [.string r.name, .int .i64 r.depth, .int .i64 r.low, .int .i64 r.high, .int .i64 r.length, .slice a1 r.lines.length c1, .int .i64 r.pipe, .int .i64 r.arbor, .int .i64 r.purchase, .int .i64 r.most, .int .i64 r.brake, .slice a2 r.items.length c2, .slice a3 r.bricks.length c3]) = Wz at *
      have HSI : Hid (SetIn Wz (loadR r c a1 c1 a2 c2 a3 c3)) := Lib.hid (by
        obtain ⟨_, _, e1, p1, _, p3, p4⟩ := num_of_row q1
        cases e1
        obtain ⟨_, _, e2, s1, _, s3, s4⟩ := item_of_row q2
        cases e2
        obtain ⟨_, _, e3, t1, _, t3, t4⟩ := brick_of_row q3
        cases e3
        exact ⟨⟨p4, s4, t4, p1, s1, t1, p3, s3, t3⟩, HNM.out.1, fun x hx => by
          have := List.mem_map_of_mem (f := BrickR.name) hx
          have e : ((loadR r c a1 c1 a2 c2 a3 c3).bricks).map BrickR.name = r.bricks.map BrickR.name := withC_names HLEN.out
          rw [e, List.mem_map] at this
          obtain ⟨y, hy, e⟩ := this
          rw [← e]
          exact HNM.out.2 y hy⟩)
      clear hrd q1 q2 q3
      exact bodyPost_ret (v := .tuple #[.agg #[.string r.name, .int .i64 r.depth, .int .i64 r.low, .int .i64 r.high, .int .i64 r.length, .slice a1 r.lines.length c1, .int .i64 r.pipe, .int .i64 r.arbor, .int .i64 r.purchase, .int .i64 r.most, .int .i64 r.brake, .slice a2 r.items.length c2, .slice a3 r.bricks.length c3], .int .i64 0]) (by simp [results, Tryz.results9, go_sem, f0, f1, f2, f3, f4, f5, f6, f7, f8, f9, f10, f11, f12]) rfl ⟨Lib.hid ⟨a1, c1, a2, c2, a3, c3, rfl, HSI.out⟩, qB⟩
end Go.Proofs.YtfkmnneieglolaaGreatDoor
namespace Go.Proofs.YtfkmnneieglolaaGreatDoor
open Go.RowKit Go.Shelf
attribute [local go_sem] Oper.semAt_some
abbrev SV (r : SetR) : Value := .agg #[.string r.name, .int .i64 r.depth, .int .i64 r.low, .int .i64 r.high, .int .i64 r.length, .slice r.la r.lines.length r.lc, .int .i64 r.pipe, .int .i64 r.arbor, .int .i64 r.purchase, .int .i64 r.most, .int .i64 r.brake, .slice r.ia r.items.length r.ic, .slice r.ba r.bricks.length r.bc]
abbrev SC (r : SetR) : Obj := .cells #[.string r.name, .int .i64 r.depth, .int .i64 r.low, .int .i64 r.high, .int .i64 r.length, .slice r.la r.lines.length r.lc, .int .i64 r.pipe, .int .i64 r.arbor, .int .i64 r.purchase, .int .i64 r.most, .int .i64 r.brake, .slice r.ia r.items.length r.ic, .slice r.ba r.bricks.length r.bc] 26
/-- What holds of a set's block in each world that keeps the base. -/
structure SetFix (W0 : World) (b : Nat) (r : SetR) : Prop where
  c0 : ∀ wx, Below W0.heap.size W0 wx → wx.cell? ⟨b, 0, none⟩ = some (.string r.name)
  c1 : ∀ wx, Below W0.heap.size W0 wx → wx.cell? ⟨b, 1, none⟩ = some (.int .i64 r.depth)
  c2 : ∀ wx, Below W0.heap.size W0 wx → wx.cell? ⟨b, 2, none⟩ = some (.int .i64 r.low)
  c3 : ∀ wx, Below W0.heap.size W0 wx → wx.cell? ⟨b, 3, none⟩ = some (.int .i64 r.high)
  c4 : ∀ wx, Below W0.heap.size W0 wx → wx.cell? ⟨b, 4, none⟩ = some (.int .i64 r.length)
  c5 : ∀ wx, Below W0.heap.size W0 wx → wx.cell? ⟨b, 5, none⟩ = some (.slice r.la r.lines.length r.lc)
  c6 : ∀ wx, Below W0.heap.size W0 wx → wx.cell? ⟨b, 6, none⟩ = some (.int .i64 r.pipe)
  c7 : ∀ wx, Below W0.heap.size W0 wx → wx.cell? ⟨b, 7, none⟩ = some (.int .i64 r.arbor)
  c8 : ∀ wx, Below W0.heap.size W0 wx → wx.cell? ⟨b, 8, none⟩ = some (.int .i64 r.purchase)
  c9 : ∀ wx, Below W0.heap.size W0 wx → wx.cell? ⟨b, 9, none⟩ = some (.int .i64 r.most)
  c10 : ∀ wx, Below W0.heap.size W0 wx → wx.cell? ⟨b, 10, none⟩ = some (.int .i64 r.brake)
  c11 : ∀ wx, Below W0.heap.size W0 wx → wx.cell? ⟨b, 11, none⟩ = some (.slice r.ia r.items.length r.ic)
  c12 : ∀ wx, Below W0.heap.size W0 wx → wx.cell? ⟨b, 12, none⟩ = some (.slice r.ba r.bricks.length r.bc)
theorem set13 {W0 : World} {b : Nat} {r : SetR} (h : SetAt W0 b r) (hb : b < W0.heap.size) : SetFix W0 b r :=
  have k : ∀ wx, Below W0.heap.size W0 wx → SetAt wx b r := fun _ e => h.below e hb
  ⟨fun _ e => (k _ e).1, fun _ e => (k _ e).2.1, fun _ e => (k _ e).2.2.1, fun _ e => (k _ e).2.2.2.1, fun _ e => (k _ e).2.2.2.2.1, fun _ e => (k _ e).2.2.2.2.2.1, fun _ e => (k _ e).2.2.2.2.2.2.1, fun _ e => (k _ e).2.2.2.2.2.2.2.1, fun _ e => (k _ e).2.2.2.2.2.2.2.2.1, fun _ e => (k _ e).2.2.2.2.2.2.2.2.2.1, fun _ e => (k _ e).2.2.2.2.2.2.2.2.2.2.1, fun _ e => (k _ e).2.2.2.2.2.2.2.2.2.2.2.1, fun _ e => (k _ e).2.2.2.2.2.2.2.2.2.2.2.2⟩
set_option maxRecDepth 100000 in
set_option maxHeartbeats 8000000 in
theorem holds_any (r : SetR) (w : World) (hv : setB r = true) (hs : SetIn w r) :
    Calls Tryz.prog 11 #[SV r] w fun e w' => e = .returned (.tuple #[.bool (decide (max (balanceS r) (-balanceS r) ≤ r.brake)), .int .i64 0]) ∧ Below w.heap.size w w' := by
  have hb0 := below_new w (SC r)
  have HS := Lib.hid (hs.grow hb0)
  have HX : Hid (∀ wx, Below (w.alloc (SC r)).heap.size (w.alloc (SC r)) wx → Below w.heap.size w wx) := Lib.hid fun wx h => mono_in _ h
  have HAT := Lib.hid (set13 (SetAt.new w r 26) (by simp))
  have hk := setB_iff.1 hv
  have h1 := needed_bd hk
  obtain ⟨hl8, _, _, hok⟩ := brick_ok hk.bricks
  have h2 := rest_bd hok
  have HB : Hid (balanceB r = balanceS r ∧ weightEr r = 0) := Lib.hid (by unfold balanceB weightEr; rw [if_pos hv, if_pos hv]; exact ⟨rfl, rfl⟩)
  have s1 : IntKind.i64.wrap (-balanceS r) = -balanceS r := IntWalk.i64_in _ (by unfold balanceS; omega)
  obtain ⟨x, hx⟩ : ∃ x, balanceS r = x := ⟨_, rfl⟩
  rw [hx] at s1 HB ⊢
  obtain ⟨g, hg⟩ : ∃ g, decide (max x (-x) ≤ r.brake) = g := ⟨_, rfl⟩
  rw [hg]
  clear hb0 hs hk h1 h2 hok hl8 hv hx
  go_enter Tryz.func11, Tryz.ntmps11
  go_wp2_with fail
  generalize w.alloc (SC r) = W0 at *
  have hB := Below.refl W0.heap.size W0
  obtain ⟨x0, x1, x2, x3, x4, x5, x6, x7, x8, x9, x10, x11, x12⟩ := HAT.out
  go_wp2_with (go_at_call 10; (with_reducible refine (balance_any r _ HS.out).mono ?_); rintro e wx ⟨rfl, hb⟩; rw [HB.out.1, HB.out.2]; have hBn := hB.trans (hb.mono hB.size); clear hB hb; have hB := hBn; clear hBn)
  · go_ret2
    have e : decide (-x ≤ r.brake) = g := by rw [← hg]; exact decide_eq_decide.2 (by omega)
    exact ⟨by rw [← e]; rfl, HX.out _ hB⟩
  · go_ret2
    have e : decide (x ≤ r.brake) = g := by rw [← hg]; exact decide_eq_decide.2 (by omega)
    exact ⟨by rw [← e]; rfl, HX.out _ hB⟩
end Go.Proofs.YtfkmnneieglolaaGreatDoor
namespace Go.Proofs.YtfkmnneieglolaaGreatDoor
open Go.RowKit Go.Maps Go.WideMaps Go.ChangeMaps

theorem zeroB (w : World) : (zeroValue 4).run Tryz.prog w = .ok (.bool false) w := by kernel_rfl
theorem keyedS : Keyed Tryz.prog 9 := string_keyed Tryz.underlying9

def BoolMap (w : World) (b n : Nat) (f : ByteArray → Bool) : Prop :=
  ∃ D : DataW Unit, w.ownsMap Tryz.prog 9 (plainElem Tryz.prog 4) b n D ∧ IsMap D ∧ ∀ s : ByteArray, s.size ≤ 20 → D.atKey (.string s.data.toList) (.lit (.bool false)) = .lit (.bool (f s))

theorem BoolMap.made (w : World) : BoolMap (w.alloc (.map #[] 0)) w.heap.size 0 (fun _ => false) :=
  ⟨.map [], World.ownsMap_made _ _ _ _, isMap_empty, fun _ _ => rfl⟩
theorem BoolMap.lt {w : World} {b n : Nat} {f : ByteArray → Bool} (h : BoolMap w b n f) : b < w.heap.size := let ⟨_, h, _⟩ := h; h.lt
theorem BoolMap.kept {w w' : World} {b n : Nat} {f : ByteArray → Bool} {row : Option Nat} (h : BoolMap w b n f) (hg : w.grownBy w' row) (hne : some b ≠ row) : BoolMap w' b n f :=
  let ⟨D, h1, h2, h3⟩ := h; ⟨D, h1.kept hg hne, h2, h3⟩
theorem BoolMap.alloc {w : World} {b n : Nat} {f : ByteArray → Bool} (h : BoolMap w b n f) (o : Obj) : BoolMap (w.alloc o) b n f := let ⟨D, h1, h2, h3⟩ := h; ⟨D, h1.alloc o, h2, h3⟩
theorem BoolMap.below {w w' : World} {b n : Nat} {f : ByteArray → Bool} (h : BoolMap w b n f) (hB : Below w.heap.size w w') : BoolMap w' b n f := by
  obtain ⟨D, h1, h2, h3⟩ := h
  have hlt := h1.lt
  obtain ⟨es, clock, hb, F, hs, hD⟩ := h1
  exact ⟨D, ⟨es, clock, (hB.block b hlt).trans hb, F, hs, hD⟩, h2, h3⟩
theorem BoolMap.look {w : World} {b n : Nat} {f : ByteArray → Bool} (h : BoolMap w b n f) (s : ByteArray) (hs : s.size ≤ 20) :
    (Instr.lookup 143 (.map (some b)) (.string s) false).run Tryz.prog w = .ok (.bool (f s)) w := by
  obtain ⟨D, h1, h2, h3⟩ := h
  obtain ⟨v, ps, hrun, hv⟩ := h1.lookup keyedS Tryz.underlying143 (zeroB w) (plainElem_bool Tryz.underlying4 false) (keyOf_string_mk Tryz.underlying9 (show s.size ≤ maxLen by unfold maxLen; omega))
  rw [h3 s hs] at hv
  rw [hrun]
  have e : v = .bool (f s) := by
    cases v <;> simp [plainElem, Tryz.underlying4] at hv
    rw [hv.1]
  rw [e]
theorem bytes_ne {a b : ByteArray} (h : a ≠ b) : (Lit.string a.data.toList) ≠ .string b.data.toList := by
  intro e
  apply h
  obtain ⟨⟨x⟩⟩ := a
  obtain ⟨⟨y⟩⟩ := b
  simp at e
  rw [e]
/-- What a store leaves. -/
theorem BoolMap.put {w : World} {b n : Nat} {f : ByteArray → Bool} {D : DataW Unit} {s : ByteArray} {v : Bool} (h : w.ownsMap Tryz.prog 9 (plainElem Tryz.prog 4) b n (D.put (.string s.data.toList) (.lit (.bool v)))) (h2 : IsMap D)
    (h3 : ∀ s : ByteArray, s.size ≤ 20 → D.atKey (.string s.data.toList) (.lit (.bool false)) = .lit (.bool (f s))) : BoolMap w b n (fun t => if t = s then v else f t) := by
  refine ⟨_, h, h2.put _ _, fun t ht => ?_⟩
  by_cases e : t = s
  · subst e
    rw [atKey_put_same h2 (show WideAt.IsKeyLit (.string _) from trivial)]
    simp
  · rw [atKey_put_other (bytes_ne e)]
    simp [e, h3 t ht]
end Go.Proofs.YtfkmnneieglolaaGreatDoor
namespace Go.Proofs.YtfkmnneieglolaaGreatDoor
open Go.RowKit Go.Shelf Go.Maps Go.WideMaps
structure JobR where
  name : ByteArray
  pipe : Bool
  weight : Int
def jg (L : List JobR) (k : Nat) : JobR := (L[k]?).getD ⟨⟨#[]⟩, false, 0⟩
def JobOK (x : JobR) : Prop := isNameB x.name = true ∧ x.name.size ≤ 20 ∧ -1048576 ≤ x.weight ∧ x.weight ≤ 1048576
def JobsOK (L : List JobR) : Prop := L.length ≤ 20 ∧ ∀ i, i < L.length → JobOK (jg L i) ∧ ∀ j, j < i → (jg L j).name ≠ (jg L i).name
def Jobs (w : World) (b : Nat) (L : List JobR) : Prop :=
  b < w.heap.size ∧ ∀ i, i < L.length → w.cell? ⟨b, i * 3, none⟩ = some (.string (jg L i).name) ∧ w.cell? ⟨b, i * 3 + 1, none⟩ = some (.bool (jg L i).pipe) ∧ w.cell? ⟨b, i * 3 + 2, none⟩ = some (.int .i64 (jg L i).weight)
theorem Jobs.grow {w w' : World} {b : Nat} {L : List JobR} (h : Jobs w b L) (hb : Below w.heap.size w w') : Jobs w' b L :=
  ⟨Nat.lt_of_lt_of_le h.1 hb.size, fun i hi => let ⟨a, c, d⟩ := h.2 i hi; ⟨(hb.cell (p := ⟨b, _, none⟩) h.1).trans a, (hb.cell (p := ⟨b, _, none⟩) h.1).trans c, (hb.cell (p := ⟨b, _, none⟩) h.1).trans d⟩⟩
theorem jobs_one (w : World) (x : JobR) : Jobs (w.alloc (.cells #[.string x.name, .bool x.pipe, .int .i64 x.weight] 44)) w.heap.size [x] := by
  refine ⟨by simp, fun i hi => ?_⟩
  obtain rfl : i = 0 := by simpa using hi
  simp [jg]
theorem jobs_two (w : World) (x y : JobR) : Jobs (w.alloc (.cells #[.string x.name, .bool x.pipe, .int .i64 x.weight, .string y.name, .bool y.pipe, .int .i64 y.weight] 44)) w.heap.size [x, y] := by
  refine ⟨by simp, fun i hi => ?_⟩
  have : i = 0 ∨ i = 1 := by simp at hi; omega
  rcases this with rfl | rfl <;> simp [jg]
def seenJ (L : List JobR) (k : Nat) (t : ByteArray) : Bool := (List.range k).any fun j => decide ((jg L j).name = t)
theorem seenJ_no {L : List JobR} {k : Nat} (h : JobsOK L) (hk : k < L.length) : seenJ L k (jg L k).name = false := by
  unfold seenJ
  rw [List.any_eq_false]
  intro j hj
  have := (h.2 k hk).2 j (by simpa using hj)
  simp [this]
theorem seenJ_succ (L : List JobR) (k : Nat) : (fun t => if t = (jg L k).name then true else seenJ L k t) = seenJ L (k + 1) := by
  funext t
  unfold seenJ
  rw [List.range_succ, List.any_append]
  by_cases e : t = (jg L k).name
  · subst e; simp
  · have : ¬ (jg L k).name = t := fun q => e q.symm
    simp [e, this]
set_option maxRecDepth 100000 in
set_option maxHeartbeats 8000000 in
theorem brakevalid_yes (b : Nat) (L : List JobR) (cap : Nat) (w : World) (hj : JobsOK L) (hJ : Jobs w b L) :
    Calls Tryz.prog 56 #[.slice (some ⟨b, 0, none⟩) L.length cap] w fun e w' => e = .returned (.bool true) ∧ Below w.heap.size w w' := by
  have HJ := Lib.hid hj
  have HC := Lib.hid hJ
  have hl := hj.1
  have g0 : decide ((100 : Int) < L.length) = false := decide_eq_false (by omega)
  have g1 : decide (100 < L.length) = false := decide_eq_false (by omega)
  have hmm := @run_makeMap Tryz.prog
  clear hj hJ
  go_enter Tryz.func56, Tryz.ntmps56
  go_wp2_with fail
  go_loopw [12] (fun i wr => ∃ k : Nat, k ≤ L.length ∧ i = .int .i64 k ∧ Below w.heap.size w wr ∧ Hid (BoolMap wr w.heap.size k (seenJ L k))) (fun i _ => L.length - (intOf i).toNat)
  case atStart => exact ⟨0, Nat.zero_le _, rfl, (Below.refl _ _).alloc (Nat.le_refl _) _, Lib.hid (by have h := BoolMap.made w; exact h)⟩
  case round =>
    obtain ⟨k, hk, rfl, hB, HM⟩ := hrel
    by_cases hlt : k < L.length
    · obtain ⟨c0, c1, c2⟩ := HC.out.2 k hlt
      have hbl := HC.out.1
      have d0 := (hB.cell (p := ⟨b, k * 3, none⟩) hbl).trans c0
      have d1 := (hB.cell (p := ⟨b, k * 3 + 1, none⟩) hbl).trans c1
      have d2 := (hB.cell (p := ⟨b, k * 3 + 2, none⟩) hbl).trans c2
      obtain ⟨o1, o2, o3, o4⟩ := (HJ.out.2 k hlt).1
      have hseen := seenJ_no HJ.out hlt
      have HSU := Lib.hid (seenJ_succ L k)
      have hM1 := HM.out.alloc (.cells #[.string (jg L k).name, .bool (jg L k).pipe, .int .i64 (jg L k).weight] 44)
      have hlook := hM1.look (jg L k).name o2
      rw [hseen] at hlook
      have HN := Lib.hid o1
      have e1 : decide ((jg L k).weight < -1048576) = false := decide_eq_false (by omega)
      have e2 : decide ((1048576 : Int) < (jg L k).weight) = false := decide_eq_false (by omega)
      have e3 : decide ((jg L k).weight > 1048576) = false := decide_eq_false (by omega)
      obtain ⟨D, hown, h2, h3⟩ := hM1
      have hkey := keyOf_string_mk Tryz.underlying9 (show (jg L k).name.size ≤ maxLen by unfold maxLen; omega)
      have hkl : (k : Int) < L.length := by omega
      have HB := Lib.hid hB
      clear c0 c1 c2 o1 o2 o3 o4 hseen
      go_wp2_with (first
        | (go_at_call 48; (with_reducible refine (isName_any _ _).mono ?_); rintro e w' ⟨rfl, rfl⟩; rw [HN.out])
        | (at_mapUpdate; refine wpList_mapUpdate_own _ rfl _ _ _ 143 rfl 9 4 keyedS Tryz.underlying143 _ w.heap.size k D rfl hown (by unfold maxLen; omega) _ _ _ rfl rfl hkey _ [] (plainElem_bool Tryz.underlying4 _) ?_; intro w1 hown1 hgrow1))
      have hput := BoolMap.put hown1 h2 h3
      rw [HSU.out] at hput
      go_wp2_with fail
      go_roundw
      case rel => exact ⟨k + 1, by omega, by go_num, (HB.out.alloc HB.out.size _).grown hgrow1 (by have := HB.out.size; simp; omega) (fun _ e => by cases e; exact Nat.le_refl _), Lib.hid hput⟩
      case measure => simp [intOf]; omega
    · obtain rfl : k = L.length := by omega
      go_wp2_with fail
      go_ret
      exact ⟨rfl, hB⟩
end Go.Proofs.YtfkmnneieglolaaGreatDoor
namespace Go.Proofs.YtfkmnneieglolaaGreatDoor
open Go.RowKit Go.Shelf
attribute [local go_sem] Oper.semAt_some
theorem nums_new (w : World) (n : Nat) (L : List Int) (h : n = L.length) (hl : n ≤ 1000) : Nums (w.alloc (.cells (nflat L).toArray 3)).heap.size (w.alloc (.cells (nflat L).toArray 3)) (some ⟨w.heap.size, 0, none⟩) L := by
  subst h
  obtain ⟨a, cap, e, _, _, _, hc⟩ := num_of_row (World.ownsRow_lit (base := 0) (e := 3) (size := 1) w (nflat L).toArray L.length (Nat.zero_le _) (by unfold maxLen; omega) (by simp [num_len]))
  cases e
  exact hc
def farB (n : Int) : Bool := decide (n < -1073741824) || decide (1073741824 < n)
set_option maxHeartbeats 1000000 in
theorem far_any (n : Int) (w : World) : Calls Tryz.prog 86 #[.int .i64 n] w fun e w' => e = .returned (.bool (farB n)) ∧ w = w' := by
  obtain ⟨a, ha⟩ : ∃ a, decide (n < -1073741824) = a := ⟨_, rfl⟩
  obtain ⟨b, hb⟩ : ∃ b, decide (1073741824 < n) = b := ⟨_, rfl⟩
  have HR : Hid (farB n = (a || b)) := Lib.hid (by unfold farB; rw [ha, hb])
  cases a
  · go_enter Tryz.func86, Tryz.ntmps86
    go_wp2_with fail
    go_ret
    exact ⟨ret_bool (by rw [HR.out]; rfl), rfl⟩
  · go_enter Tryz.func86, Tryz.ntmps86
    go_wp2_with fail
    go_ret
    exact ⟨ret_bool (by rw [HR.out]; rfl), rfl⟩
theorem ent_far (args : Array Value) (w : World) : (callFunc 86 args).run Tryz.prog w = .ok (.enter 86 args) w := enters_of Tryz.func86 (by kernel_rfl) rfl args w
theorem asks_far (n₀ : Nat) (w : World) : AsksN 86 #[] n₀ w farB := by
  intro W r hb
  exact (far_any r W).mono fun e w' ⟨h1, h2⟩ => ⟨h1, by rw [h2]; exact Below.refl _ _⟩
theorem far_two (w : World) : Calls Tryz.prog 24 #[.slice (some ⟨w.heap.size, 0, none⟩) 2 2, .func (.func 86) #[] #[]] (w.alloc (.cells #[.int .i64 0, .int .i64 0] 3)) fun e w' => e = .returned (.bool false) ∧ Below w.heap.size w w' := by
  have h := num_containsFunc _ [0, 0] 2 _ _ _ farB _ ent_far (by decide) (Nat.le_refl _) (nums_new w 2 [0, 0] rfl (by decide)) (asks_far _ _)
  rw [show num_any [0, 0] farB = false by rw [num_any_eq]; rfl] at h
  exact h.mono fun e w' ⟨a, b⟩ => ⟨a, mono_in _ b⟩
set_option maxRecDepth 100000 in
set_option maxHeartbeats 8000000 in
theorem state_any (r : SetR) (w : World) (hv : setB r = true) (hs : SetIn w r) :
    Calls Tryz.prog 57 #[SV r, .int .i64 0, .int .i64 0] w fun e w' => e = .returned (.tuple #[.int .i64 (balanceS r), .int .i64 0]) ∧ Below w.heap.size w w' := by
  have hb0 := below_new w (SC r)
  have HS := Lib.hid (hs.grow hb0)
  have HX : Hid (∀ wx, Below (w.alloc (SC r)).heap.size (w.alloc (SC r)) wx → Below w.heap.size w wx) := Lib.hid fun wx h => mono_in _ h
  have HAT := Lib.hid (set13 (SetAt.new w r 26) (by simp))
  have hk := setB_iff.1 hv
  have h1 := needed_bd hk
  obtain ⟨hl8, hq1, hq2, hok⟩ := brick_ok hk.bricks
  have h2 := rest_bd hok
  have HB : Hid (balanceB r = balanceS r ∧ weightEr r = 0) := Lib.hid (by unfold balanceB weightEr; rw [if_pos hv, if_pos hv]; exact ⟨rfl, rfl⟩)
  have hbd : -1000000000000 ≤ balanceS r ∧ balanceS r ≤ 1000000000000 := by unfold balanceS; omega
  obtain ⟨x, hx⟩ : ∃ x, balanceS r = x := ⟨_, rfl⟩
  rw [hx] at hbd HB ⊢
  have s1 : IntKind.i64.wrap x = x := IntWalk.i64_in _ (by omega)
  clear hb0 hs hk h1 h2 hok hl8 hv hx hq1 hq2 hbd
  go_enter Tryz.func57, Tryz.ntmps57
  go_upto_region 1 with (fail)
  generalize w.alloc (SC r) = W0 at *
  have hB := Below.refl W0.heap.size W0
  obtain ⟨x0, x1, x2, x3, x4, x5, x6, x7, x8, x9, x10, x11, x12⟩ := HAT.out
  go_wp2_with (first
    | (go_at_call 10; (with_reducible refine (balance_any r _ HS.out).mono ?_); rintro e wx ⟨rfl, hb⟩; rw [HB.out.1, HB.out.2]; have hBn := hB.trans (hb.mono hB.size); clear hB hb; have hB := hBn; clear hBn)
    | (go_at_call 24; (with_reducible refine (far_two _).mono ?_); rintro e wy ⟨rfl, hb⟩; have hBn := hB.trans (hb.mono hB.size); clear hB hb; have hB := hBn; clear hBn))
  go_ret2
  exact ⟨rfl, HX.out _ hB⟩
/-- By how much a job changes the imbalance. -/
def changeS (r : SetR) (x : JobR) : Int := if x.pipe = true then r.purchase * x.weight else -x.weight
abbrev JV (x : JobR) : Value := .agg #[.string x.name, .bool x.pipe, .int .i64 x.weight]
abbrev JC (x : JobR) : Obj := .cells #[.string x.name, .bool x.pipe, .int .i64 x.weight] 44
structure JobFix (W0 : World) (b : Nat) (x : JobR) : Prop where
  c0 : ∀ wx, Below W0.heap.size W0 wx → wx.cell? ⟨b, 0, none⟩ = some (.string x.name)
  c1 : ∀ wx, Below W0.heap.size W0 wx → wx.cell? ⟨b, 1, none⟩ = some (.bool x.pipe)
  c2 : ∀ wx, Below W0.heap.size W0 wx → wx.cell? ⟨b, 2, none⟩ = some (.int .i64 x.weight)
theorem job_fix (w : World) (x : JobR) : JobFix (w.alloc (JC x)) w.heap.size x := by
  have h := jobs_one w x
  have k := h.2 0 (by simp)
  exact ⟨fun _ e => (e.cell (p := ⟨_, 0, none⟩) h.1).trans k.1, fun _ e => (e.cell (p := ⟨_, 1, none⟩) h.1).trans k.2.1, fun _ e => (e.cell (p := ⟨_, 2, none⟩) h.1).trans k.2.2⟩
set_option maxRecDepth 100000 in
set_option maxHeartbeats 8000000 in
theorem change1_any (r : SetR) (x : JobR) (w : World) (h1 : 1 ≤ r.purchase ∧ r.purchase ≤ 2) (h2 : -1048576 ≤ x.weight ∧ x.weight ≤ 1048576) :
    Calls Tryz.prog 87 #[SV r, JV x] w fun e w' => e = .returned (.int .i64 (changeS r x)) ∧ Below w.heap.size w w' := by
  obtain ⟨xn, xp, xw⟩ := x
  have HAT := Lib.hid (set13 (SetAt.new w r 26) (by simp))
  have HJT := Lib.hid (job_fix (w.alloc (SC r)) ⟨xn, xp, xw⟩)
  have hb1 := below_two w (SC r) (JC ⟨xn, xp, xw⟩)
  have hb2 := below_new (w.alloc (SC r)) (JC ⟨xn, xp, xw⟩)
  have HB := Lib.hid hb1
  have s1 : IntKind.i64.wrap (r.purchase * xw) = r.purchase * xw := by
    refine IntWalk.i64_in _ ?_
    dsimp only at h2
    rcases (show r.purchase = 1 ∨ r.purchase = 2 by omega) with e | e <;> rw [e] <;> omega
  have s2 : IntKind.i64.wrap (-xw) = -xw := IntWalk.i64_in _ (by dsimp only at h2; omega)
  have k8 := HAT.out.c8 _ hb2
  have j1 := HJT.out.c1 _ (Below.refl _ _)
  have j2 := HJT.out.c2 _ (Below.refl _ _)
  rw [show (w.alloc (SC r)).heap.size = w.heap.size + 1 by simp] at j1 j2
  have HC : Hid (changeS r ⟨xn, xp, xw⟩ = if xp = true then r.purchase * xw else -xw) := Lib.hid rfl
  dsimp only at k8 j1 j2 HB
  clear h1 h2 hb1 hb2 HAT HJT
  cases xp
  · go_enter Tryz.func87, Tryz.ntmps87
    go_wp2_with fail
    go_ret
    exact ⟨ret_int HC.out.symm, HB.out⟩
  · go_enter Tryz.func87, Tryz.ntmps87
    go_wp2_with fail
    go_ret
    exact ⟨ret_int HC.out.symm, HB.out⟩
set_option maxRecDepth 100000 in
set_option maxHeartbeats 8000000 in
theorem change_any (r : SetR) (x : JobR) (w : World) (hv : setB r = true) (hx : JobOK x) (hs : SetIn w r) :
    Calls Tryz.prog 58 #[SV r, JV x] w fun e w' => e = .returned (.tuple #[.int .i64 (changeS r x), .int .i64 0]) ∧ Below w.heap.size w w' := by
  have hb1 := below_two w (SC r) (JC x)
  have hb2 := below_new (w.alloc (SC r)) (JC x)
  have HS := Lib.hid (hs.grow hb1)
  have HX : Hid (∀ wx, Below ((w.alloc (SC r)).alloc (JC x)).heap.size ((w.alloc (SC r)).alloc (JC x)) wx → Below w.heap.size w wx) := Lib.hid fun wx h => mono_two _ _ h
  have h13 := set13 ((SetAt.new w r 26).below hb2 (by simp)) (by simp; omega)
  have h3 := job_fix (w.alloc (SC r)) x
  rw [show (w.alloc (SC r)).heap.size = w.heap.size + 1 by simp] at h3
  have HAT := Lib.hid h13
  have HJT := Lib.hid h3
  have HV := Lib.hid hv
  have HP := Lib.hid (And.intro (setB_iff.1 hv).purchase hx.2.2)
  have HJ : Hid (JobsOK [x]) := Lib.hid ⟨by simp, fun i hi => by
    obtain rfl : i = 0 := by simpa using hi
    exact ⟨hx, fun j hj => absurd hj (Nat.not_lt_zero _)⟩⟩
  have HV1 : Hid (∀ w : World, Calls Tryz.prog 56 #[.slice (some ⟨w.heap.size, 0, none⟩) 1 1] (w.alloc (JC x)) fun e w' => e = .returned (.bool true) ∧ Below w.heap.size w w') := Lib.hid fun w =>
    (brakevalid_yes _ [x] 1 _ HJ.out (jobs_one w x)).mono fun e w' ⟨a, b⟩ => ⟨a, mono_in _ b⟩
  clear hb1 hb2 hs h13 h3 hv hx HJ
  go_enter Tryz.func58, Tryz.ntmps58
  go_upto_region 1 with (fail)
  generalize (w.alloc (SC r)).alloc (JC x) = W0 at *
  have hB := Below.refl W0.heap.size W0
  obtain ⟨x0, x1, x2, x3, x4, x5, x6, x7, x8, x9, x10, x11, x12⟩ := HAT.out
  obtain ⟨y0, y1, y2⟩ := HJT.out
  go_wp2_with (first
    | (go_at_call 23; (with_reducible refine (batvalid_any r _ HS.out).mono ?_); rintro e wx ⟨rfl, hb⟩; rw [HV.out]; have hBn := hB.trans (hb.mono hB.size); clear hB hb; have hB := hBn; clear hBn)
    | (go_at_call 56; (with_reducible refine (HV1.out _).mono ?_); rintro e wy ⟨rfl, hb⟩; have hBn := hB.trans (hb.mono hB.size); clear hB hb; have hB := hBn; clear hBn)
    | (go_at_call 87; (with_reducible refine (change1_any r x _ HP.out.1 HP.out.2).mono ?_); rintro e wz ⟨rfl, hb⟩; have hBn := hB.trans (hb.mono hB.size); clear hB hb; have hB := hBn; clear hBn))
  go_ret2
  exact ⟨rfl, HX.out _ hB⟩
end Go.Proofs.YtfkmnneieglolaaGreatDoor
namespace Go.Proofs.YtfkmnneieglolaaGreatDoor
open Go.RowKit Go.Shelf
attribute [local go_sem] Oper.semAt_some
/-- A block of four cells that can be written. -/
structure Four (w : World) (b : Nat) (x0 x1 x2 x3 : Value) : Prop where
  c0 : w.cell? ⟨b, 0, none⟩ = some x0
  c1 : w.cell? ⟨b, 1, none⟩ = some x1
  c2 : w.cell? ⟨b, 2, none⟩ = some x2
  c3 : w.cell? ⟨b, 3, none⟩ = some x3
  fz : ∀ j, w.frozen? ⟨b, j, none⟩ = false
  lt : b < w.heap.size
section
variable {w w' : World} {b : Nat} {x0 x1 x2 x3 : Value}
theorem Four.below (h : Four w b x0 x1 x2 x3) (hb : Below w.heap.size w w') : Four w' b x0 x1 x2 x3 :=
  ⟨(hb.cell (p := ⟨b, 0, none⟩) h.lt).trans h.c0, (hb.cell (p := ⟨b, 1, none⟩) h.lt).trans h.c1, (hb.cell (p := ⟨b, 2, none⟩) h.lt).trans h.c2, (hb.cell (p := ⟨b, 3, none⟩) h.lt).trans h.c3, fun j => (hb.frozen (p := ⟨b, j, none⟩) h.lt).trans (h.fz j), Nat.lt_of_lt_of_le h.lt hb.size⟩
theorem Four.far (h : Four w b x0 x1 x2 x3) {g : Nat} (hne : b ≠ g) (j : Nat) (v : Value) : Four (w.setCell ⟨g, j, none⟩ v) b x0 x1 x2 x3 := by
  have ne : ∀ i, (w.setCell ⟨g, j, none⟩ v).cell? ⟨b, i, none⟩ = w.cell? ⟨b, i, none⟩ := fun _ => World.cell?_setCell_far _ _ _ _ (fun e => hne e.symm)
  exact ⟨(ne 0).trans h.c0, (ne 1).trans h.c1, (ne 2).trans h.c2, (ne 3).trans h.c3, fun j => (World.frozen?_setCell _ _ _ _).trans (h.fz j), by simpa using h.lt⟩
theorem four_ne (i j : Nat) (h : j ≠ i) (v : Value) : (w.setCell ⟨b, i, none⟩ v).cell? ⟨b, j, none⟩ = w.cell? ⟨b, j, none⟩ := World.cell?_setCell_other _ _ _ _ (by intro q; injection q with _ q; exact h q.symm)
theorem Four.set0 (h : Four w b x0 x1 x2 x3) (v : Value) : Four (w.setCell ⟨b, 0, none⟩ v) b v x1 x2 x3 :=
  ⟨World.cell?_setCell_same _ _ _ h.c0, (four_ne 0 1 (by decide) v).trans h.c1, (four_ne 0 2 (by decide) v).trans h.c2, (four_ne 0 3 (by decide) v).trans h.c3, fun j => (World.frozen?_setCell _ _ _ _).trans (h.fz j), by simpa using h.lt⟩
theorem Four.set1 (h : Four w b x0 x1 x2 x3) (v : Value) : Four (w.setCell ⟨b, 1, none⟩ v) b x0 v x2 x3 :=
  ⟨(four_ne 1 0 (by decide) v).trans h.c0, World.cell?_setCell_same _ _ _ h.c1, (four_ne 1 2 (by decide) v).trans h.c2, (four_ne 1 3 (by decide) v).trans h.c3, fun j => (World.frozen?_setCell _ _ _ _).trans (h.fz j), by simpa using h.lt⟩
theorem Four.set2 (h : Four w b x0 x1 x2 x3) (v : Value) : Four (w.setCell ⟨b, 2, none⟩ v) b x0 x1 v x3 :=
  ⟨(four_ne 2 0 (by decide) v).trans h.c0, (four_ne 2 1 (by decide) v).trans h.c1, World.cell?_setCell_same _ _ _ h.c2, (four_ne 2 3 (by decide) v).trans h.c3, fun j => (World.frozen?_setCell _ _ _ _).trans (h.fz j), by simpa using h.lt⟩
theorem Four.set3 (h : Four w b x0 x1 x2 x3) (v : Value) : Four (w.setCell ⟨b, 3, none⟩ v) b x0 x1 x2 v :=
  ⟨(four_ne 3 0 (by decide) v).trans h.c0, (four_ne 3 1 (by decide) v).trans h.c1, (four_ne 3 2 (by decide) v).trans h.c2, World.cell?_setCell_same _ _ _ h.c3, fun j => (World.frozen?_setCell _ _ _ _).trans (h.fz j), by simpa using h.lt⟩
end
set_option maxHeartbeats 1000000 in
theorem whole_any (l : Nat) (w : World) (h0 : w.cell? ⟨l, 0, none⟩ = some (.int .i64 2)) : Calls Tryz.prog 32 #[.pointer (some ⟨l, 0, none⟩)] w fun e w' => e = .returned (.int .i64 3) ∧ w = w' := by
  go_enter Tryz.func32, Tryz.ntmps32
  go_wp2_with fail
  go_ret
  exact ⟨rfl, rfl⟩
set_option maxHeartbeats 4000000 in
/-- any, at a condition that changes no old memory. -/
theorem any_gen (l g : Nat) (s : Int) (cb : Array Value) (p0 p1 : Bool) (w : World) (h0 : w.cell? ⟨l, 0, none⟩ = some (.int .i64 2)) (eg : ∀ args w, (callFunc g args).run Tryz.prog w = .ok (.enter g args) w)
    (hg0 : Calls Tryz.prog g (#[.int .i64 0] ++ cb) w fun e w' => e = .returned (.bool p0) ∧ Below w.heap.size w w')
    (hg1 : ∀ W, Below w.heap.size w W → Calls Tryz.prog g (#[.int .i64 1] ++ cb) W fun e w' => e = .returned (.bool p1) ∧ Below W.heap.size W w') :
    Calls Tryz.prog 33 #[.pointer (some ⟨l, 0, none⟩), .int .i64 s, .func (.func g) #[] cb] w fun e w' => e = .returned (.bool (p0 || p1)) ∧ Below w.heap.size w w' := by
  have H0 := Lib.hid hg0
  have H1 := Lib.hid hg1
  clear hg0 hg1
  go_enter Tryz.func33, Tryz.ntmps33
  go_wp2_with fail
  refine wp_loop_rounds 3 ?_
  rw [rounds_succ]
  cases p0
  · go_wp2_with ((with_reducible refine H0.out.mono ?_); rintro e w1 ⟨rfl, hb1⟩)
    rw [rounds_succ]
    have H2 := Lib.hid (H1.out _ hb1)
    cases p1
    · go_wp2_with ((with_reducible refine H2.out.mono ?_); rintro e w2 ⟨rfl, hb2⟩)
      rw [rounds_succ]
      go_wp2_with fail
      go_ret
      exact ⟨rfl, hb1.trans (hb2.mono hb1.size)⟩
    · go_wp2_with ((with_reducible refine H2.out.mono ?_); rintro e w2 ⟨rfl, hb2⟩)
      go_ret
      exact ⟨rfl, hb1.trans (hb2.mono hb1.size)⟩
  · go_wp2_with ((with_reducible refine H0.out.mono ?_); rintro e w1 ⟨rfl, hb1⟩)
    go_ret
    exact ⟨rfl, hb1⟩
theorem bitsL : (bits .and .i64 1 1 = 1 ∧ bits .and .i64 0 1 = 0 ∧ bits .and .i64 3 1 = 1 ∧ bits .andNot .i64 1 1 = 0 ∧ bits .andNot .i64 3 1 = 2 ∧ bits .andNot .i64 3 2 = 1 ∧ bits .or .i64 0 1 = 1 ∧ bits .or .i64 0 2 = 2 ∧ bits .or .i64 1 2 = 3 ∧ bits .or .i64 1 1 = 1) ∧ IntKind.i64.wrap 1 = 1 ∧ IntKind.i64.wrap 2 = 2 ∧ IntKind.i64.wrap 4 = 4 := by decide +kernel
set_option maxRecDepth 100000 in
set_option maxHeartbeats 4000000 in
theorem re_cl (i s : Int) (p : Bool) (sb lb l br : Nat) (x0 x1 x2 x3 : Bool) (w : World) (hs : w.cell? ⟨sb, 0, none⟩ = some (.int .i64 s)) (hl : w.cell? ⟨lb, 0, none⟩ = some (.pointer (some ⟨l, 0, none⟩)))
    (h2 : w.cell? ⟨l, 2, none⟩ = some (.slice (some ⟨br, 0, none⟩) 4 4)) (hr : Four w br (.bool x0) (.bool x1) (.bool x2) (.bool x3))
    (h : (i = 0 ∧ s = 1 ∧ p = x0) ∨ (i = 1 ∧ s = 1 ∧ p = false) ∨ (i = 0 ∧ s = 3 ∧ p = x2) ∨ (i = 1 ∧ s = 3 ∧ p = x1)) :
    Calls Tryz.prog 59 #[.int .i64 i, .pointer (some ⟨sb, 0, none⟩), .pointer (some ⟨lb, 0, none⟩)] w fun e w' => e = .returned (.bool p) ∧ Below w.heap.size w w' := by
  obtain ⟨r0, r1, r2, r3, r4, r5⟩ := hr
  obtain ⟨⟨b0, b1, b2, b3, b4, b5, b6, b7, b8, b9⟩, v1, v2, v4⟩ := bitsL
  rcases h with ⟨rfl, rfl, rfl⟩ | ⟨rfl, rfl, rfl⟩ | ⟨rfl, rfl, rfl⟩ | ⟨rfl, rfl, rfl⟩
  all_goals go_enter Tryz.func59, Tryz.ntmps59
  all_goals go_wp2_with fail
  all_goals go_quiet (fail)
  all_goals go_wp2_with fail
  all_goals go_ret
  all_goals exact ⟨rfl, below_drewN (Below.refl _ _) _⟩
set_option maxRecDepth 100000 in
set_option maxHeartbeats 4000000 in
theorem go_cl (i s : Int) (p : Bool) (sb lb l bg : Nat) (x0 x1 x2 x3 : Bool) (w : World) (hs : w.cell? ⟨sb, 0, none⟩ = some (.int .i64 s)) (hl : w.cell? ⟨lb, 0, none⟩ = some (.pointer (some ⟨l, 0, none⟩)))
    (h2 : w.cell? ⟨l, 3, none⟩ = some (.slice (some ⟨bg, 0, none⟩) 4 4)) (hr : Four w bg (.bool x0) (.bool x1) (.bool x2) (.bool x3))
    (h : (i = 0 ∧ s = 0 ∧ p = x1) ∨ (i = 1 ∧ s = 0 ∧ p = x2) ∨ (i = 0 ∧ s = 1 ∧ p = false) ∨ (i = 1 ∧ s = 1 ∧ p = x3)) :
    Calls Tryz.prog 60 #[.int .i64 i, .pointer (some ⟨sb, 0, none⟩), .pointer (some ⟨lb, 0, none⟩)] w fun e w' => e = .returned (.bool p) ∧ Below w.heap.size w w' := by
  obtain ⟨r0, r1, r2, r3, r4, r5⟩ := hr
  obtain ⟨⟨b0, b1, b2, b3, b4, b5, b6, b7, b8, b9⟩, v1, v2, v4⟩ := bitsL
  rcases h with ⟨rfl, rfl, rfl⟩ | ⟨rfl, rfl, rfl⟩ | ⟨rfl, rfl, rfl⟩ | ⟨rfl, rfl, rfl⟩
  all_goals go_enter Tryz.func60, Tryz.ntmps60
  all_goals go_wp2_with fail
  all_goals go_quiet (fail)
  all_goals go_wp2_with fail
  all_goals go_ret
  all_goals exact ⟨rfl, below_drewN (Below.refl _ _) _⟩
theorem ent_re (args : Array Value) (w : World) : (callFunc 59 args).run Tryz.prog w = .ok (.enter 59 args) w := enters_of Tryz.func59 (by kernel_rfl) rfl args w
theorem ent_go (args : Array Value) (w : World) : (callFunc 60 args).run Tryz.prog w = .ok (.enter 60 args) w := enters_of Tryz.func60 (by kernel_rfl) rfl args w
/-- any at the first condition, at the states 1 and 3. -/
theorem any_re (s : Int) (p : Bool) (sb lb l br : Nat) (x0 x1 x2 x3 : Bool) (w : World) (k0 : sb < w.heap.size) (k1 : lb < w.heap.size) (k2 : l < w.heap.size) (hn : w.cell? ⟨l, 0, none⟩ = some (.int .i64 2)) (hs : w.cell? ⟨sb, 0, none⟩ = some (.int .i64 s)) (hl : w.cell? ⟨lb, 0, none⟩ = some (.pointer (some ⟨l, 0, none⟩)))
    (h2 : w.cell? ⟨l, 2, none⟩ = some (.slice (some ⟨br, 0, none⟩) 4 4)) (hr : Four w br (.bool x0) (.bool x1) (.bool x2) (.bool x3)) (h : (s = 1 ∧ p = (x0 || false)) ∨ (s = 3 ∧ p = (x2 || x1))) :
    Calls Tryz.prog 33 #[.pointer (some ⟨l, 0, none⟩), .int .i64 s, .func (.func 59) #[] #[.pointer (some ⟨sb, 0, none⟩), .pointer (some ⟨lb, 0, none⟩)]] w fun e w' => e = .returned (.bool p) ∧ Below w.heap.size w w' := by
  rcases h with ⟨rfl, h⟩ | ⟨rfl, h⟩ <;> rw [h]
  · exact any_gen l _ 1 _ x0 false w hn ent_re (re_cl 0 1 x0 sb lb l br x0 x1 x2 x3 w hs hl h2 hr (.inl ⟨rfl, rfl, rfl⟩)) fun W hb => re_cl 1 1 false sb lb l br x0 x1 x2 x3 W ((hb.cell (p := ⟨sb, 0, none⟩) k0).trans hs) ((hb.cell (p := ⟨lb, 0, none⟩) k1).trans hl) ((hb.cell (p := ⟨l, 2, none⟩) k2).trans h2) (hr.below hb) (.inr (.inl ⟨rfl, rfl, rfl⟩))
  · exact any_gen l _ 3 _ x2 x1 w hn ent_re (re_cl 0 3 x2 sb lb l br x0 x1 x2 x3 w hs hl h2 hr (.inr (.inr (.inl ⟨rfl, rfl, rfl⟩)))) fun W hb => re_cl 1 3 x1 sb lb l br x0 x1 x2 x3 W ((hb.cell (p := ⟨sb, 0, none⟩) k0).trans hs) ((hb.cell (p := ⟨lb, 0, none⟩) k1).trans hl) ((hb.cell (p := ⟨l, 2, none⟩) k2).trans h2) (hr.below hb) (.inr (.inr (.inr ⟨rfl, rfl, rfl⟩)))
theorem any_go (s : Int) (p : Bool) (sb lb l bg : Nat) (x0 x1 x2 x3 : Bool) (w : World) (k0 : sb < w.heap.size) (k1 : lb < w.heap.size) (k2 : l < w.heap.size) (hn : w.cell? ⟨l, 0, none⟩ = some (.int .i64 2)) (hs : w.cell? ⟨sb, 0, none⟩ = some (.int .i64 s)) (hl : w.cell? ⟨lb, 0, none⟩ = some (.pointer (some ⟨l, 0, none⟩)))
    (h2 : w.cell? ⟨l, 3, none⟩ = some (.slice (some ⟨bg, 0, none⟩) 4 4)) (hr : Four w bg (.bool x0) (.bool x1) (.bool x2) (.bool x3)) (h : (s = 0 ∧ p = (x1 || x2)) ∨ (s = 1 ∧ p = (false || x3))) :
    Calls Tryz.prog 33 #[.pointer (some ⟨l, 0, none⟩), .int .i64 s, .func (.func 60) #[] #[.pointer (some ⟨sb, 0, none⟩), .pointer (some ⟨lb, 0, none⟩)]] w fun e w' => e = .returned (.bool p) ∧ Below w.heap.size w w' := by
  rcases h with ⟨rfl, h⟩ | ⟨rfl, h⟩ <;> rw [h]
  · exact any_gen l _ 0 _ x1 x2 w hn ent_go (go_cl 0 0 x1 sb lb l bg x0 x1 x2 x3 w hs hl h2 hr (.inl ⟨rfl, rfl, rfl⟩)) fun W hb => go_cl 1 0 x2 sb lb l bg x0 x1 x2 x3 W ((hb.cell (p := ⟨sb, 0, none⟩) k0).trans hs) ((hb.cell (p := ⟨lb, 0, none⟩) k1).trans hl) ((hb.cell (p := ⟨l, 3, none⟩) k2).trans h2) (hr.below hb) (.inr (.inl ⟨rfl, rfl, rfl⟩))
  · exact any_gen l _ 1 _ false x3 w hn ent_go (go_cl 0 1 false sb lb l bg x0 x1 x2 x3 w hs hl h2 hr (.inr (.inr (.inl ⟨rfl, rfl, rfl⟩)))) fun W hb => go_cl 1 1 x3 sb lb l bg x0 x1 x2 x3 W ((hb.cell (p := ⟨sb, 0, none⟩) k0).trans hs) ((hb.cell (p := ⟨lb, 0, none⟩) k1).trans hl) ((hb.cell (p := ⟨l, 3, none⟩) k2).trans h2) (hr.below hb) (.inr (.inr (.inr ⟨rfl, rfl, rfl⟩)))
end Go.Proofs.YtfkmnneieglolaaGreatDoor
namespace Go.Proofs.YtfkmnneieglolaaGreatDoor
section
variable {P : Program} {ops : Array Oper} {Q : Exit → Act → World → Prop} {md : Region.Mode} {S : World → Prop}
/-- One that reads or reckons. -/
theorem tk (i : Nat) {oi : Oper} {v : Value} {fuel : Nat} {listed : Array Bool} {a a' : Act} {w : World} (h : wpAnyH P md ops Q S fuel (listed.setIfInBounds i true) a' w)
    (hi : ops[i]? = some oi := by first | (simp only [List.getElem?_toArray, List.getElem?_cons_zero]; rfl) | (simp only [List.getElem?_toArray, List.getElem?_cons_succ, List.getElem?_cons_zero]; rfl))
    (hs : Region.noSelect ops = true := by kernel_rfl) (hf : Region.free md ops listed i = true := by kernel_rfl) (hr : (Region.ready md ops listed).contains i = true := by kernel_rfl)
    (hQ : ∀ c a w, Q (.panic c) (a.put oi.dst v) w → Q (.panic c) a w := by exact fun _ _ _ h => h)
    (hy : YieldsIf P ops S oi v a := by refine Or.inl ⟨by rfl, ?_⟩; (intro w hSw; (try dsimp only at hSw); go_split_ands; (try simp only [List.getElem_toArray, List.getElem_cons_succ, List.getElem_cons_zero]); go_simp; try with_reducible rfl))
    (ha : a.put oi.dst v = a' := by simp only [Act.put, List.setIfInBounds_toArray, List.set_cons_zero, List.set_cons_succ, List.getElem_toArray, List.getElem_cons_succ, List.getElem_cons_zero]; rfl)
    (hS : S w := by assumption) : wpAnyH P md ops Q S (fuel + 1) listed a w := wpAnyH_take hi hs hf hr hQ hy hS (ha ▸ h)
/-- One that its guard passes over. -/
theorem sk (i : Nat) {oi : Oper} {fuel : Nat} {listed : Array Bool} {a a' : Act} {w : World} (h : wpAnyH P md ops Q S fuel (listed.setIfInBounds i true) a' w)
    (hi : ops[i]? = some oi := by first | (simp only [List.getElem?_toArray, List.getElem?_cons_zero]; rfl) | (simp only [List.getElem?_toArray, List.getElem?_cons_succ, List.getElem?_cons_zero]; rfl))
    (hs : Region.noSelect ops = true := by kernel_rfl) (hf : Region.free md ops listed i = true := by kernel_rfl) (hr : (Region.ready md ops listed).contains i = true := by kernel_rfl)
    (hQ : ∀ c a w, Q (.panic c) (a.put oi.dst undef) w → Q (.panic c) a w := by exact fun _ _ _ h => h)
    (hy : YieldsIf P ops S oi undef a := by exact Or.inr ⟨by rfl, rfl⟩)
    (ha : a.put oi.dst undef = a' := by simp only [Act.put, List.setIfInBounds_toArray, List.set_cons_zero, List.set_cons_succ, List.getElem_toArray, List.getElem_cons_succ, List.getElem_cons_zero]; rfl)
    (hS : S w := by assumption) : wpAnyH P md ops Q S (fuel + 1) listed a w := wpAnyH_take hi hs hf hr hQ hy hS (ha ▸ h)
end
end Go.Proofs.YtfkmnneieglolaaGreatDoor
namespace Go.Proofs.YtfkmnneieglolaaGreatDoor
open Go.RowKit Go.Shelf
attribute [local go_sem] Oper.semAt_some
def jA : JobR := ⟨⟨#[97]⟩, false, 16⟩
def jB : JobR := ⟨⟨#[98]⟩, true, 18⟩
theorem jobs_ok : JobsOK [jA, jB] := by
  have ha : JobOK jA := ⟨by decide +kernel, by decide, by decide, by decide⟩
  have hb : JobOK jB := ⟨by decide +kernel, by decide, by decide, by decide⟩
  refine ⟨by simp, fun i hi => ?_⟩
  have : i = 0 ∨ i = 1 := by simp at hi; omega
  rcases this with rfl | rfl
  · exact ⟨ha, fun j hj => absurd hj (Nat.not_lt_zero _)⟩
  · refine ⟨hb, fun j hj => ?_⟩
    obtain rfl : j = 0 := by omega
    decide
structure JobsFix (W0 : World) (b : Nat) : Prop where
  c0 : ∀ wx, Below W0.heap.size W0 wx → wx.cell? ⟨b, 0, none⟩ = some (.string ⟨#[97]⟩)
  c1 : ∀ wx, Below W0.heap.size W0 wx → wx.cell? ⟨b, 1, none⟩ = some (.bool false)
  c2 : ∀ wx, Below W0.heap.size W0 wx → wx.cell? ⟨b, 2, none⟩ = some (.int .i64 16)
  c3 : ∀ wx, Below W0.heap.size W0 wx → wx.cell? ⟨b, 3, none⟩ = some (.string ⟨#[98]⟩)
  c4 : ∀ wx, Below W0.heap.size W0 wx → wx.cell? ⟨b, 4, none⟩ = some (.bool true)
  c5 : ∀ wx, Below W0.heap.size W0 wx → wx.cell? ⟨b, 5, none⟩ = some (.int .i64 18)
theorem jobs_fix {W0 : World} {b : Nat} (h : Jobs W0 b [jA, jB]) : JobsFix W0 b := by
  have h0 := h.2 0 (by simp)
  have h1 := h.2 1 (by simp)
  exact ⟨fun _ e => (e.cell (p := ⟨b, 0, none⟩) h.1).trans h0.1, fun _ e => (e.cell (p := ⟨b, 1, none⟩) h.1).trans h0.2.1, fun _ e => (e.cell (p := ⟨b, 2, none⟩) h.1).trans h0.2.2, fun _ e => (e.cell (p := ⟨b, 3, none⟩) h.1).trans h1.1, fun _ e => (e.cell (p := ⟨b, 4, none⟩) h.1).trans h1.2.1, fun _ e => (e.cell (p := ⟨b, 5, none⟩) h.1).trans h1.2.2⟩
/-- The lattice of two jobs, and the box that points to it. -/
structure LatW (n₀ : Nat) (w : World) (bl l bh br bg : Nat) : Prop where
  p : w.cell? ⟨bl, 0, none⟩ = some (.pointer (some ⟨l, 0, none⟩))
  n : w.cell? ⟨l, 0, none⟩ = some (.int .i64 2)
  h : w.cell? ⟨l, 1, none⟩ = some (.slice (some ⟨bh, 0, none⟩) 4 4)
  r : w.cell? ⟨l, 2, none⟩ = some (.slice (some ⟨br, 0, none⟩) 4 4)
  g : w.cell? ⟨l, 3, none⟩ = some (.slice (some ⟨bg, 0, none⟩) 4 4)
  tl : bl < w.heap.size ∧ l < w.heap.size
  lo : n₀ ≤ bl ∧ n₀ ≤ l ∧ n₀ ≤ bh ∧ n₀ ≤ br ∧ n₀ ≤ bg
  ne : bh ≠ br ∧ bh ≠ bg ∧ br ≠ bg ∧ bl ≠ bh ∧ bl ≠ br ∧ bl ≠ bg ∧ l ≠ bh ∧ l ≠ br ∧ l ≠ bg
theorem LatW.below {n₀ : Nat} {w w' : World} {bl l bh br bg : Nat} (a : LatW n₀ w bl l bh br bg) (hb : Below w.heap.size w w') : LatW n₀ w' bl l bh br bg :=
  ⟨(hb.cell (p := ⟨bl, 0, none⟩) a.tl.1).trans a.p, (hb.cell (p := ⟨l, 0, none⟩) a.tl.2).trans a.n, (hb.cell (p := ⟨l, 1, none⟩) a.tl.2).trans a.h, (hb.cell (p := ⟨l, 2, none⟩) a.tl.2).trans a.r, (hb.cell (p := ⟨l, 3, none⟩) a.tl.2).trans a.g, ⟨Nat.lt_of_lt_of_le a.tl.1 hb.size, Nat.lt_of_lt_of_le a.tl.2 hb.size⟩, a.lo, a.ne⟩
theorem LatW.far {n₀ : Nat} {w : World} {bl l bh br bg q j : Nat} (a : LatW n₀ w bl l bh br bg) (h1 : bl ≠ q) (h2 : l ≠ q) (v : Value) : LatW n₀ (w.setCell ⟨q, j, none⟩ v) bl l bh br bg := by
  have k : ∀ b i, b ≠ q → (w.setCell ⟨q, j, none⟩ v).cell? ⟨b, i, none⟩ = w.cell? ⟨b, i, none⟩ := fun _ _ e => World.cell?_setCell_far _ _ _ _ (fun z => e z.symm)
  exact ⟨(k _ _ h1).trans a.p, (k _ _ h2).trans a.n, (k _ _ h2).trans a.h, (k _ _ h2).trans a.r, (k _ _ h2).trans a.g, by simpa using a.tl, a.lo, a.ne⟩
theorem bool_info : (Tryz.prog.info? 4).map (fun i => (i.zero, i.size, i.bytes)) = some (some (.bool false), 1, 1) := by kernel_rfl
theorem make_bools (w : World) : (Instr.makeSlice 76 (.int .i64 4) (.int .i64 4)).run Tryz.prog w = .ok (.slice (some ⟨w.heap.size, 0, none⟩) 4 4) (w.alloc (.cells #[.bool false, .bool false, .bool false, .bool false] 4)) := by
  obtain ⟨i0, hi, hz0, hz1, hz2⟩ := info_parts bool_info
  have := run_make (P := Tryz.prog) w 76 4 i0 (.bool false) Tryz.underlying76 hi hz0 .i64 .i64 4 4 (by decide) (by decide) (by rw [hz2]; decide) (by decide)
  rw [hz1, show Int.toNat 4 = 4 from rfl, Nat.mul_one, show madeCells (Value.bool false).cells 4 = #[.bool false, .bool false, .bool false, .bool false] by kernel_rfl] at this
  exact this
theorem make_ints (w : World) : (Instr.makeSlice 22 (.int .i64 4) (.int .i64 4)).run Tryz.prog w = .ok (.slice (some ⟨w.heap.size, 0, none⟩) 4 4) (w.alloc (.cells #[.int .i64 0, .int .i64 0, .int .i64 0, .int .i64 0] 3)) := by
  obtain ⟨i0, hi, hz0, hz1, hz2⟩ := info_parts num_info
  have := run_make (P := Tryz.prog) w 22 3 i0 (.int .i64 0) Tryz.underlying22 hi hz0 .i64 .i64 4 4 (by decide) (by decide) (by rw [hz2]; decide) (by decide)
  rw [hz1, show Int.toNat 4 = 4 from rfl, Nat.mul_one, show madeCells (Value.int .i64 0).cells 4 = #[.int .i64 0, .int .i64 0, .int .i64 0, .int .i64 0] by kernel_rfl] at this
  exact this
theorem belA {W0 w : World} (o : Obj) (h : Below W0.heap.size W0 w) : Below W0.heap.size W0 (w.alloc o) := h.alloc h.size o
theorem belS {W0 w : World} {q j : Nat} (h : Below W0.heap.size W0 w) (hq : W0.heap.size ≤ q) (v : Value) : Below W0.heap.size W0 (w.setCell ⟨q, j, none⟩ v) := h.setCell (p := ⟨q, j, none⟩) hq v
/-- What the walk of 'of' knows: the lattice, its three rows, and the imbalances. -/
structure LSt (W0 w : World) (bl l bh br bg bi : Nat) (h0 h1 h2 h3 r0 r1 r2 r3 g0 g1 g2 g3 : Bool) (i0 i1 i2 i3 : Int) : Prop where
  lat : LatW W0.heap.size w bl l bh br bg
  fh : Four w bh (.bool h0) (.bool h1) (.bool h2) (.bool h3)
  fr : Four w br (.bool r0) (.bool r1) (.bool r2) (.bool r3)
  fg : Four w bg (.bool g0) (.bool g1) (.bool g2) (.bool g3)
  fi : Four w bi (.int .i64 i0) (.int .i64 i1) (.int .i64 i2) (.int .i64 i3)
  old : Below W0.heap.size W0 w
  nei : bh ≠ bi ∧ br ≠ bi ∧ bg ≠ bi ∧ bl ≠ bi ∧ l ≠ bi
  lo : W0.heap.size ≤ bi
section
variable {W0 w w' : World} {bl l bh br bg bi : Nat} {h0 h1 h2 h3 r0 r1 r2 r3 g0 g1 g2 g3 : Bool} {i0 i1 i2 i3 : Int}
theorem LSt.below (s : LSt W0 w bl l bh br bg bi h0 h1 h2 h3 r0 r1 r2 r3 g0 g1 g2 g3 i0 i1 i2 i3) (hb : Below w.heap.size w w') : LSt W0 w' bl l bh br bg bi h0 h1 h2 h3 r0 r1 r2 r3 g0 g1 g2 g3 i0 i1 i2 i3 :=
  ⟨s.lat.below hb, s.fh.below hb, s.fr.below hb, s.fg.below hb, s.fi.below hb, s.old.trans (hb.mono s.old.size), s.nei, s.lo⟩
theorem LSt.alloc (s : LSt W0 w bl l bh br bg bi h0 h1 h2 h3 r0 r1 r2 r3 g0 g1 g2 g3 i0 i1 i2 i3) (o : Obj) : LSt W0 (w.alloc o) bl l bh br bg bi h0 h1 h2 h3 r0 r1 r2 r3 g0 g1 g2 g3 i0 i1 i2 i3 := s.below (below_new w o)
theorem LSt.ui1 (s : LSt W0 w bl l bh br bg bi h0 h1 h2 h3 r0 r1 r2 r3 g0 g1 g2 g3 i0 i1 i2 i3) (v : Int) : LSt W0 (w.setCell ⟨bi, 1, none⟩ (.int .i64 v)) bl l bh br bg bi h0 h1 h2 h3 r0 r1 r2 r3 g0 g1 g2 g3 i0 v i2 i3 :=
  ⟨s.lat.far s.nei.2.2.2.1 s.nei.2.2.2.2 _, s.fh.far s.nei.1 1 (.int .i64 v), s.fr.far s.nei.2.1 1 (.int .i64 v), s.fg.far s.nei.2.2.1 1 (.int .i64 v), s.fi.set1 (.int .i64 v), belS s.old s.lo _, s.nei, s.lo⟩
theorem LSt.ui2 (s : LSt W0 w bl l bh br bg bi h0 h1 h2 h3 r0 r1 r2 r3 g0 g1 g2 g3 i0 i1 i2 i3) (v : Int) : LSt W0 (w.setCell ⟨bi, 2, none⟩ (.int .i64 v)) bl l bh br bg bi h0 h1 h2 h3 r0 r1 r2 r3 g0 g1 g2 g3 i0 i1 v i3 :=
  ⟨s.lat.far s.nei.2.2.2.1 s.nei.2.2.2.2 _, s.fh.far s.nei.1 2 (.int .i64 v), s.fr.far s.nei.2.1 2 (.int .i64 v), s.fg.far s.nei.2.2.1 2 (.int .i64 v), s.fi.set2 (.int .i64 v), belS s.old s.lo _, s.nei, s.lo⟩
theorem LSt.ui3 (s : LSt W0 w bl l bh br bg bi h0 h1 h2 h3 r0 r1 r2 r3 g0 g1 g2 g3 i0 i1 i2 i3) (v : Int) : LSt W0 (w.setCell ⟨bi, 3, none⟩ (.int .i64 v)) bl l bh br bg bi h0 h1 h2 h3 r0 r1 r2 r3 g0 g1 g2 g3 i0 i1 i2 v :=
  ⟨s.lat.far s.nei.2.2.2.1 s.nei.2.2.2.2 _, s.fh.far s.nei.1 3 (.int .i64 v), s.fr.far s.nei.2.1 3 (.int .i64 v), s.fg.far s.nei.2.2.1 3 (.int .i64 v), s.fi.set3 (.int .i64 v), belS s.old s.lo _, s.nei, s.lo⟩
theorem LSt.uh0 (s : LSt W0 w bl l bh br bg bi h0 h1 h2 h3 r0 r1 r2 r3 g0 g1 g2 g3 i0 i1 i2 i3) (v : Bool) : LSt W0 (w.setCell ⟨bh, 0, none⟩ (.bool v)) bl l bh br bg bi v h1 h2 h3 r0 r1 r2 r3 g0 g1 g2 g3 i0 i1 i2 i3 :=
  ⟨s.lat.far s.lat.ne.2.2.2.1 s.lat.ne.2.2.2.2.2.2.1 _, s.fh.set0 (.bool v), s.fr.far (s.lat.ne.1.symm) 0 (.bool v), s.fg.far (s.lat.ne.2.1.symm) 0 (.bool v), s.fi.far (s.nei.1.symm) 0 (.bool v), belS s.old s.lat.lo.2.2.1 _, s.nei, s.lo⟩
theorem LSt.uh1 (s : LSt W0 w bl l bh br bg bi h0 h1 h2 h3 r0 r1 r2 r3 g0 g1 g2 g3 i0 i1 i2 i3) (v : Bool) : LSt W0 (w.setCell ⟨bh, 1, none⟩ (.bool v)) bl l bh br bg bi h0 v h2 h3 r0 r1 r2 r3 g0 g1 g2 g3 i0 i1 i2 i3 :=
  ⟨s.lat.far s.lat.ne.2.2.2.1 s.lat.ne.2.2.2.2.2.2.1 _, s.fh.set1 (.bool v), s.fr.far (s.lat.ne.1.symm) 1 (.bool v), s.fg.far (s.lat.ne.2.1.symm) 1 (.bool v), s.fi.far (s.nei.1.symm) 1 (.bool v), belS s.old s.lat.lo.2.2.1 _, s.nei, s.lo⟩
theorem LSt.uh2 (s : LSt W0 w bl l bh br bg bi h0 h1 h2 h3 r0 r1 r2 r3 g0 g1 g2 g3 i0 i1 i2 i3) (v : Bool) : LSt W0 (w.setCell ⟨bh, 2, none⟩ (.bool v)) bl l bh br bg bi h0 h1 v h3 r0 r1 r2 r3 g0 g1 g2 g3 i0 i1 i2 i3 :=
  ⟨s.lat.far s.lat.ne.2.2.2.1 s.lat.ne.2.2.2.2.2.2.1 _, s.fh.set2 (.bool v), s.fr.far (s.lat.ne.1.symm) 2 (.bool v), s.fg.far (s.lat.ne.2.1.symm) 2 (.bool v), s.fi.far (s.nei.1.symm) 2 (.bool v), belS s.old s.lat.lo.2.2.1 _, s.nei, s.lo⟩
theorem LSt.uh3 (s : LSt W0 w bl l bh br bg bi h0 h1 h2 h3 r0 r1 r2 r3 g0 g1 g2 g3 i0 i1 i2 i3) (v : Bool) : LSt W0 (w.setCell ⟨bh, 3, none⟩ (.bool v)) bl l bh br bg bi h0 h1 h2 v r0 r1 r2 r3 g0 g1 g2 g3 i0 i1 i2 i3 :=
  ⟨s.lat.far s.lat.ne.2.2.2.1 s.lat.ne.2.2.2.2.2.2.1 _, s.fh.set3 (.bool v), s.fr.far (s.lat.ne.1.symm) 3 (.bool v), s.fg.far (s.lat.ne.2.1.symm) 3 (.bool v), s.fi.far (s.nei.1.symm) 3 (.bool v), belS s.old s.lat.lo.2.2.1 _, s.nei, s.lo⟩
theorem LSt.ur0 (s : LSt W0 w bl l bh br bg bi h0 h1 h2 h3 r0 r1 r2 r3 g0 g1 g2 g3 i0 i1 i2 i3) (v : Bool) : LSt W0 (w.setCell ⟨br, 0, none⟩ (.bool v)) bl l bh br bg bi h0 h1 h2 h3 v r1 r2 r3 g0 g1 g2 g3 i0 i1 i2 i3 :=
  ⟨s.lat.far s.lat.ne.2.2.2.2.1 s.lat.ne.2.2.2.2.2.2.2.1 _, s.fh.far s.lat.ne.1 0 (.bool v), s.fr.set0 (.bool v), s.fg.far (s.lat.ne.2.2.1.symm) 0 (.bool v), s.fi.far (s.nei.2.1.symm) 0 (.bool v), belS s.old s.lat.lo.2.2.2.1 _, s.nei, s.lo⟩
theorem LSt.ur1 (s : LSt W0 w bl l bh br bg bi h0 h1 h2 h3 r0 r1 r2 r3 g0 g1 g2 g3 i0 i1 i2 i3) (v : Bool) : LSt W0 (w.setCell ⟨br, 1, none⟩ (.bool v)) bl l bh br bg bi h0 h1 h2 h3 r0 v r2 r3 g0 g1 g2 g3 i0 i1 i2 i3 :=
  ⟨s.lat.far s.lat.ne.2.2.2.2.1 s.lat.ne.2.2.2.2.2.2.2.1 _, s.fh.far s.lat.ne.1 1 (.bool v), s.fr.set1 (.bool v), s.fg.far (s.lat.ne.2.2.1.symm) 1 (.bool v), s.fi.far (s.nei.2.1.symm) 1 (.bool v), belS s.old s.lat.lo.2.2.2.1 _, s.nei, s.lo⟩
theorem LSt.ur2 (s : LSt W0 w bl l bh br bg bi h0 h1 h2 h3 r0 r1 r2 r3 g0 g1 g2 g3 i0 i1 i2 i3) (v : Bool) : LSt W0 (w.setCell ⟨br, 2, none⟩ (.bool v)) bl l bh br bg bi h0 h1 h2 h3 r0 r1 v r3 g0 g1 g2 g3 i0 i1 i2 i3 :=
  ⟨s.lat.far s.lat.ne.2.2.2.2.1 s.lat.ne.2.2.2.2.2.2.2.1 _, s.fh.far s.lat.ne.1 2 (.bool v), s.fr.set2 (.bool v), s.fg.far (s.lat.ne.2.2.1.symm) 2 (.bool v), s.fi.far (s.nei.2.1.symm) 2 (.bool v), belS s.old s.lat.lo.2.2.2.1 _, s.nei, s.lo⟩
theorem LSt.ur3 (s : LSt W0 w bl l bh br bg bi h0 h1 h2 h3 r0 r1 r2 r3 g0 g1 g2 g3 i0 i1 i2 i3) (v : Bool) : LSt W0 (w.setCell ⟨br, 3, none⟩ (.bool v)) bl l bh br bg bi h0 h1 h2 h3 r0 r1 r2 v g0 g1 g2 g3 i0 i1 i2 i3 :=
  ⟨s.lat.far s.lat.ne.2.2.2.2.1 s.lat.ne.2.2.2.2.2.2.2.1 _, s.fh.far s.lat.ne.1 3 (.bool v), s.fr.set3 (.bool v), s.fg.far (s.lat.ne.2.2.1.symm) 3 (.bool v), s.fi.far (s.nei.2.1.symm) 3 (.bool v), belS s.old s.lat.lo.2.2.2.1 _, s.nei, s.lo⟩
theorem LSt.ug0 (s : LSt W0 w bl l bh br bg bi h0 h1 h2 h3 r0 r1 r2 r3 g0 g1 g2 g3 i0 i1 i2 i3) (v : Bool) : LSt W0 (w.setCell ⟨bg, 0, none⟩ (.bool v)) bl l bh br bg bi h0 h1 h2 h3 r0 r1 r2 r3 v g1 g2 g3 i0 i1 i2 i3 :=
  ⟨s.lat.far s.lat.ne.2.2.2.2.2.1 s.lat.ne.2.2.2.2.2.2.2.2 _, s.fh.far s.lat.ne.2.1 0 (.bool v), s.fr.far s.lat.ne.2.2.1 0 (.bool v), s.fg.set0 (.bool v), s.fi.far (s.nei.2.2.1.symm) 0 (.bool v), belS s.old s.lat.lo.2.2.2.2 _, s.nei, s.lo⟩
theorem LSt.ug1 (s : LSt W0 w bl l bh br bg bi h0 h1 h2 h3 r0 r1 r2 r3 g0 g1 g2 g3 i0 i1 i2 i3) (v : Bool) : LSt W0 (w.setCell ⟨bg, 1, none⟩ (.bool v)) bl l bh br bg bi h0 h1 h2 h3 r0 r1 r2 r3 g0 v g2 g3 i0 i1 i2 i3 :=
  ⟨s.lat.far s.lat.ne.2.2.2.2.2.1 s.lat.ne.2.2.2.2.2.2.2.2 _, s.fh.far s.lat.ne.2.1 1 (.bool v), s.fr.far s.lat.ne.2.2.1 1 (.bool v), s.fg.set1 (.bool v), s.fi.far (s.nei.2.2.1.symm) 1 (.bool v), belS s.old s.lat.lo.2.2.2.2 _, s.nei, s.lo⟩
theorem LSt.ug2 (s : LSt W0 w bl l bh br bg bi h0 h1 h2 h3 r0 r1 r2 r3 g0 g1 g2 g3 i0 i1 i2 i3) (v : Bool) : LSt W0 (w.setCell ⟨bg, 2, none⟩ (.bool v)) bl l bh br bg bi h0 h1 h2 h3 r0 r1 r2 r3 g0 g1 v g3 i0 i1 i2 i3 :=
  ⟨s.lat.far s.lat.ne.2.2.2.2.2.1 s.lat.ne.2.2.2.2.2.2.2.2 _, s.fh.far s.lat.ne.2.1 2 (.bool v), s.fr.far s.lat.ne.2.2.1 2 (.bool v), s.fg.set2 (.bool v), s.fi.far (s.nei.2.2.1.symm) 2 (.bool v), belS s.old s.lat.lo.2.2.2.2 _, s.nei, s.lo⟩
theorem LSt.ug3 (s : LSt W0 w bl l bh br bg bi h0 h1 h2 h3 r0 r1 r2 r3 g0 g1 g2 g3 i0 i1 i2 i3) (v : Bool) : LSt W0 (w.setCell ⟨bg, 3, none⟩ (.bool v)) bl l bh br bg bi h0 h1 h2 h3 r0 r1 r2 r3 g0 g1 g2 v i0 i1 i2 i3 :=
  ⟨s.lat.far s.lat.ne.2.2.2.2.2.1 s.lat.ne.2.2.2.2.2.2.2.2 _, s.fh.far s.lat.ne.2.1 3 (.bool v), s.fr.far s.lat.ne.2.2.1 3 (.bool v), s.fg.set3 (.bool v), s.fi.far (s.nei.2.2.1.symm) 3 (.bool v), belS s.old s.lat.lo.2.2.2.2 _, s.nei, s.lo⟩
end
/-- The region of a text with a number. -/
def regionAt (n : Nat) : Code → Option Code
  | .region k xs b => bif Nat.beq k n then some (.region k xs b) else none
  | .seq a b => match regionAt n a with
    | some c => some c
    | none => regionAt n b
  | .loop c => regionAt n c
  | .block _ c => regionAt n c
  | .scope c => regionAt n c
  | .cond _ a b => match regionAt n a with
    | some c => some c
    | none => regionAt n b
  | _ => none
theorem wp_noPanic {P : Program} {c : Code} {Q : Exit → Act → World → Prop} {a : Act} {w : World} (h : c.wp P (NoPanic Q) a w) : c.wp P Q a w := Code.wp_mono NoPanic.imp h
theorem wp_then {P : Program} {c : Code} {Q : Exit → Act → World → Prop} {a : Act} {w : World} (h : c.wp P (Exit.then (fun a w => Q .normal a w) Q) a w) : c.wp P Q a w := Code.wp_mono (fun e a w h => by cases e <;> exact h) h
/-- The outermost loop of a text that has a region. -/
def loopAt (n : Nat) : Code → Option Code
  | .loop c => match regionAt n c with
    | some _ => some (.loop c)
    | none => none
  | .seq a b => match loopAt n a with
    | some c => some c
    | none => loopAt n b
  | .block _ c => loopAt n c
  | .scope c => loopAt n c
  | .cond _ a b => match loopAt n a with
    | some c => some c
    | none => loopAt n b
  | _ => none
noncomputable def ofLoop (n : Nat) : Code := ((Tryz.f31.body.bind (loopAt n)).getD .skip)
noncomputable def ofCode (n : Nat) : Code := ((Tryz.f31.body.bind (regionAt n)).getD .skip)
end Go.Proofs.YtfkmnneieglolaaGreatDoor
namespace Go.Proofs.YtfkmnneieglolaaGreatDoor
open Go.RowKit Go.Shelf
attribute [local go_sem] Oper.semAt_some
set_option maxRecDepth 100000 in
set_option maxHeartbeats 16000000 in
theorem of1 {b cap bl l bh br bg bi Bs : Nat} {r : SetR} {W0 w0 : World} {u0 u3 u4 u5 u6 u7 u8 u9 u11 u12 u13 u14 u15 u16 u17 u18 u19 u20 u21 u22 u23 u24 u25 u26 u27 u28 u29 u30 u31 u32 u33 u34 u35 u36 u37 u38 u39 u40 u41 u42 u43 u44 u45 u46 u47 u48 u49 u50 u51 u52 u53 u54 u55 u56 u57 u58 u59 u60 u64 u65 u66 u67 u68 u69 u70 u71 u72 u73 u74 u75 u76 u77 u78 u79 u80 u81 u82 u83 u84 u85 u86 u87 u88 u89 u90 u91 u92 u93 u94 u95 u96 u97 u98 u99 u100 u101 u102 u103 u104 u105 u106 u107 u108 u109 u110 u111 u112 u113 u114 u115 u116 u117 u118 u119 u120 u121 u122 u123 u124 u125 u126 u127 u128 u129 u130 u131 u132 u133 u134 u135 u136 u137 u138 u139 u140 u141 u142 u143 u144 u145 u146 u147 u148 u149 u150 u151 u152 u153 u154 u155 u156 u157 u158 u159 u160 u161 u162 u163 u164 u165 u166 u167 u168 u169 u170 u171 u172 u173 u174 u175 u176 u177 u178 u179 u180 u181 u182 u183 u184 u185 : Value} {Q : Exit → Act → World → Prop}
    (HS1 : Hid (LSt W0 w0 bl l bh br bg bi false false false false false false false false false false false false 6 0 0 0)) (HX13 : Hid (SetFix W0 Bs r)) (HJF : Hid (JobsFix W0 b)) (HS : Hid (SetIn W0 r)) (HCA : Hid (∀ W, SetIn W r → Calls Tryz.prog 58 #[SV r, .agg #[.string ⟨#[97]⟩, .bool false, .int .i64 16]] W fun e w' => e = .returned (.tuple #[.int .i64 (-16), .int .i64 0]) ∧ Below W.heap.size W w')) (HCB : Hid (∀ W, SetIn W r → Calls Tryz.prog 58 #[SV r, .agg #[.string ⟨#[98]⟩, .bool true, .int .i64 18]] W fun e w' => e = .returned (.tuple #[.int .i64 18, .int .i64 0]) ∧ Below W.heap.size W w'))
    (hK : ∀ (v11 v12 v13 v14 v15 v63 v64 v65 v66 v67 v68 v69 v70 v71 v72 v73 v74 v75 v76 v77 v78 v79 v80 v81 v82 v83 v84 v85 v86 v87 v88 v89 v90 v91 v92 v93 v94 v95 : Value) (wx : World), (Hid (LSt W0 wx bl l bh br bg bi false false false false false false false false false false false false 6 (-10) 24 8)) → Q (.exit 1) ⟨List.toArray (u0 :: .slice (some ⟨b, 0, none⟩) 2 cap :: .pointer (some ⟨Bs, 0, none⟩) :: u3 :: u4 :: u5 :: u6 :: u7 :: u8 :: u9 :: .slice (some ⟨bi, 0, none⟩) 4 4 :: v11 :: v12 :: v13 :: v14 :: v15 :: u16 :: u17 :: u18 :: u19 :: u20 :: u21 :: u22 :: u23 :: u24 :: u25 :: u26 :: u27 :: u28 :: u29 :: u30 :: u31 :: u32 :: u33 :: u34 :: u35 :: u36 :: u37 :: u38 :: u39 :: u40 :: u41 :: u42 :: u43 :: u44 :: u45 :: u46 :: u47 :: u48 :: u49 :: u50 :: u51 :: u52 :: u53 :: u54 :: u55 :: u56 :: u57 :: u58 :: u59 :: u60 :: .slice (some ⟨b, 0, none⟩) 2 cap :: .int .i64 2 :: v63 :: v64 :: v65 :: v66 :: v67 :: v68 :: v69 :: v70 :: v71 :: v72 :: v73 :: v74 :: v75 :: v76 :: v77 :: v78 :: v79 :: v80 :: v81 :: v82 :: v83 :: v84 :: v85 :: v86 :: v87 :: v88 :: v89 :: v90 :: v91 :: v92 :: v93 :: v94 :: v95 :: u96 :: u97 :: u98 :: u99 :: u100 :: u101 :: u102 :: u103 :: u104 :: u105 :: u106 :: u107 :: u108 :: u109 :: u110 :: u111 :: u112 :: u113 :: u114 :: u115 :: u116 :: u117 :: u118 :: u119 :: u120 :: u121 :: u122 :: u123 :: u124 :: u125 :: u126 :: u127 :: u128 :: u129 :: u130 :: u131 :: u132 :: u133 :: u134 :: u135 :: u136 :: u137 :: u138 :: u139 :: u140 :: u141 :: u142 :: u143 :: u144 :: u145 :: u146 :: u147 :: u148 :: u149 :: u150 :: u151 :: u152 :: u153 :: u154 :: u155 :: u156 :: u157 :: u158 :: u159 :: u160 :: u161 :: u162 :: u163 :: u164 :: u165 :: u166 :: u167 :: u168 :: u169 :: u170 :: u171 :: u172 :: u173 :: u174 :: u175 :: u176 :: u177 :: u178 :: u179 :: u180 :: u181 :: u182 :: u183 :: u184 :: u185 :: []), []⟩ wx) :
    Code.wp Tryz.prog (ofLoop 13) Q ⟨List.toArray (u0 :: .slice (some ⟨b, 0, none⟩) 2 cap :: .pointer (some ⟨Bs, 0, none⟩) :: u3 :: u4 :: u5 :: u6 :: u7 :: u8 :: u9 :: .slice (some ⟨bi, 0, none⟩) 4 4 :: u11 :: u12 :: u13 :: u14 :: u15 :: u16 :: u17 :: u18 :: u19 :: u20 :: u21 :: u22 :: u23 :: u24 :: u25 :: u26 :: u27 :: u28 :: u29 :: u30 :: u31 :: u32 :: u33 :: u34 :: u35 :: u36 :: u37 :: u38 :: u39 :: u40 :: u41 :: u42 :: u43 :: u44 :: u45 :: u46 :: u47 :: u48 :: u49 :: u50 :: u51 :: u52 :: u53 :: u54 :: u55 :: u56 :: u57 :: u58 :: u59 :: u60 :: .slice (some ⟨b, 0, none⟩) 2 cap :: .int .i64 2 :: .int .i64 0 :: u64 :: u65 :: u66 :: u67 :: u68 :: u69 :: u70 :: u71 :: u72 :: u73 :: u74 :: u75 :: u76 :: u77 :: u78 :: u79 :: u80 :: u81 :: u82 :: u83 :: u84 :: u85 :: u86 :: u87 :: u88 :: u89 :: u90 :: u91 :: u92 :: u93 :: u94 :: u95 :: u96 :: u97 :: u98 :: u99 :: u100 :: u101 :: u102 :: u103 :: u104 :: u105 :: u106 :: u107 :: u108 :: u109 :: u110 :: u111 :: u112 :: u113 :: u114 :: u115 :: u116 :: u117 :: u118 :: u119 :: u120 :: u121 :: u122 :: u123 :: u124 :: u125 :: u126 :: u127 :: u128 :: u129 :: u130 :: u131 :: u132 :: u133 :: u134 :: u135 :: u136 :: u137 :: u138 :: u139 :: u140 :: u141 :: u142 :: u143 :: u144 :: u145 :: u146 :: u147 :: u148 :: u149 :: u150 :: u151 :: u152 :: u153 :: u154 :: u155 :: u156 :: u157 :: u158 :: u159 :: u160 :: u161 :: u162 :: u163 :: u164 :: u165 :: u166 :: u167 :: u168 :: u169 :: u170 :: u171 :: u172 :: u173 :: u174 :: u175 :: u176 :: u177 :: u178 :: u179 :: u180 :: u181 :: u182 :: u183 :: u184 :: u185 :: []), []⟩ w0 := by
  conv => arg 2; whnf
  refine wp_noPanic ?_
  obtain ⟨⟨-, -, -, -, -, -, q1, q2, q3, -⟩, v1, v2, v4⟩ := bitsL
  obtain ⟨v5, v6, v7, v8⟩ : IntKind.i64.wrap (-10) = -10 ∧ IntKind.i64.wrap 24 = 24 ∧ IntKind.i64.wrap 8 = 8 ∧ IntKind.i64.wrap 3 = 3 := by decide +kernel
  obtain ⟨x0, x1, x2, x3, x4, x5, x6, x7, x8, x9, x10, x11, x12⟩ := HX13.out
  obtain ⟨y0, y1, y2, y3, y4, y5⟩ := HJF.out
  refine wp_loop_rounds 3 ?_
  rw [rounds_succ]
  obtain ⟨⟨p0, p1, p2, p3, p4, ⟨p5, p6⟩, p7, p8⟩, ⟨a0, a1, a2, a3, a4, a5⟩, ⟨b0, b1, b2, b3, b4, b5⟩, ⟨c0, c1, c2, c3, c4, c5⟩, ⟨d0, d1, d2, d3, d4, d5⟩, hB, -, -⟩ := HS1.out
  have hBa : ∀ o, Below W0.heap.size W0 (w0.alloc o) := fun o => belA o hB
  go_wp2_with (go_at_call 58; (with_reducible refine (HCA.out _ (HS.out.grow (hBa _))).mono ?_); rintro e w1 ⟨rfl, hb2⟩; have HS2 := Lib.hid ((HS1.out.alloc (.cells #[.string ⟨#[97]⟩, .bool false, .int .i64 16] 44)).below hb2); clear hb2)
  clear p0 p1 p2 p3 p4 p5 p6 p7 p8 a0 a1 a2 a3 a4 a5 b0 b1 b2 b3 b4 b5 c0 c1 c2 c3 c4 c5 d0 d1 d2 d3 d4 d5 hB hBa
  replace HS1 := HS2
  clear HS2
  refine wp_loop_rounds 2 ?_
  rw [rounds_succ]
  obtain ⟨⟨p0, p1, p2, p3, p4, ⟨p5, p6⟩, p7, p8⟩, ⟨a0, a1, a2, a3, a4, a5⟩, ⟨b0, b1, b2, b3, b4, b5⟩, ⟨c0, c1, c2, c3, c4, c5⟩, ⟨d0, d1, d2, d3, d4, d5⟩, hB, -, -⟩ := HS1.out
  have hBa : ∀ o, Below W0.heap.size W0 (w1.alloc o) := fun o => belA o hB
  go_wp2_with fail
  go_region
  replace HS1 := Lib.hid ((HS1.out.ui1 (-10)).below (Below.refl _ _).drew)
  clear p0 p1 p2 p3 p4 p5 p6 p7 p8 a0 a1 a2 a3 a4 a5 b0 b1 b2 b3 b4 b5 c0 c1 c2 c3 c4 c5 d0 d1 d2 d3 d4 d5 hB hBa
  generalize (w1.setCell ⟨bi, 1, none⟩ (.int .i64 (-10))).drew = w2 at *
  go_wp2_with fail
  rw [rounds_succ]
  go_wp2_with fail
  rw [rounds_succ]
  obtain ⟨⟨p0, p1, p2, p3, p4, ⟨p5, p6⟩, p7, p8⟩, ⟨a0, a1, a2, a3, a4, a5⟩, ⟨b0, b1, b2, b3, b4, b5⟩, ⟨c0, c1, c2, c3, c4, c5⟩, ⟨d0, d1, d2, d3, d4, d5⟩, hB, -, -⟩ := HS1.out
  have hBa : ∀ o, Below W0.heap.size W0 (w2.alloc o) := fun o => belA o hB
  go_wp2_with (go_at_call 58; (with_reducible refine (HCB.out _ (HS.out.grow (hBa _))).mono ?_); rintro e w3 ⟨rfl, hb2⟩; have HS2 := Lib.hid ((HS1.out.alloc (.cells #[.string ⟨#[98]⟩, .bool true, .int .i64 18] 44)).below hb2); clear hb2)
  clear p0 p1 p2 p3 p4 p5 p6 p7 p8 a0 a1 a2 a3 a4 a5 b0 b1 b2 b3 b4 b5 c0 c1 c2 c3 c4 c5 d0 d1 d2 d3 d4 d5 hB hBa
  replace HS1 := HS2
  clear HS2
  refine wp_loop_rounds 3 ?_
  rw [rounds_succ]
  obtain ⟨⟨p0, p1, p2, p3, p4, ⟨p5, p6⟩, p7, p8⟩, ⟨a0, a1, a2, a3, a4, a5⟩, ⟨b0, b1, b2, b3, b4, b5⟩, ⟨c0, c1, c2, c3, c4, c5⟩, ⟨d0, d1, d2, d3, d4, d5⟩, hB, -, -⟩ := HS1.out
  have hBa : ∀ o, Below W0.heap.size W0 (w3.alloc o) := fun o => belA o hB
  go_wp2_with fail
  go_region
  replace HS1 := Lib.hid ((HS1.out.ui2 (24)).below (Below.refl _ _).drew)
  clear p0 p1 p2 p3 p4 p5 p6 p7 p8 a0 a1 a2 a3 a4 a5 b0 b1 b2 b3 b4 b5 c0 c1 c2 c3 c4 c5 d0 d1 d2 d3 d4 d5 hB hBa
  generalize (w3.setCell ⟨bi, 2, none⟩ (.int .i64 24)).drew = w4 at *
  go_wp2_with fail
  rw [rounds_succ]
  obtain ⟨⟨p0, p1, p2, p3, p4, ⟨p5, p6⟩, p7, p8⟩, ⟨a0, a1, a2, a3, a4, a5⟩, ⟨b0, b1, b2, b3, b4, b5⟩, ⟨c0, c1, c2, c3, c4, c5⟩, ⟨d0, d1, d2, d3, d4, d5⟩, hB, -, -⟩ := HS1.out
  have hBa : ∀ o, Below W0.heap.size W0 (w4.alloc o) := fun o => belA o hB
  go_wp2_with fail
  go_region
  replace HS1 := Lib.hid ((HS1.out.ui3 (8)).below (Below.refl _ _).drew)
  clear p0 p1 p2 p3 p4 p5 p6 p7 p8 a0 a1 a2 a3 a4 a5 b0 b1 b2 b3 b4 b5 c0 c1 c2 c3 c4 c5 d0 d1 d2 d3 d4 d5 hB hBa
  generalize (w4.setCell ⟨bi, 3, none⟩ (.int .i64 8)).drew = w5 at *
  go_wp2_with fail
  rw [rounds_succ]
  go_wp2_with fail
  rw [rounds_succ]
  go_wp2_with fail
  exact hK _ _ _ _ _ _ _ _ _ _ _ _ _ _ _ _ _ _ _ _ _ _ _ _ _ _ _ _ _ _ _ _ _ _ _ _ _ _ _ HS1
end Go.Proofs.YtfkmnneieglolaaGreatDoor
namespace Go.Proofs.YtfkmnneieglolaaGreatDoor
open Go.RowKit Go.Shelf
attribute [local go_sem] Oper.semAt_some
set_option maxRecDepth 100000 in
set_option maxHeartbeats 16000000 in
theorem of3 {bl l bh br bg bi Bs : Nat} {W0 w0 : World} {u0 u1 u3 u4 u5 u6 u7 u8 u10 u11 u12 u13 u14 u15 u16 u17 u18 u19 u20 u21 u22 u23 u24 u25 u26 u27 u28 u29 u30 u31 u32 u33 u34 u35 u36 u37 u38 u39 u40 u41 u42 u43 u44 u45 u46 u47 u48 u49 u50 u51 u52 u53 u54 u55 u56 u57 u58 u59 u60 u61 u62 u63 u64 u65 u66 u67 u68 u69 u70 u71 u72 u73 u74 u75 u76 u77 u78 u79 u80 u81 u82 u83 u84 u85 u86 u87 u88 u89 u90 u91 u92 u93 u94 u95 u99 u100 u101 u102 u103 u104 u105 u106 u107 u108 u109 u110 u111 u112 u113 u114 u115 u116 u117 u118 u119 u120 u121 u122 u123 u124 u125 u126 u127 u128 u129 u130 u131 u132 u133 u134 u135 u136 u137 u138 u139 u140 u141 u142 u143 u144 u145 u146 u147 u148 u149 u150 u151 u152 u153 u154 u155 u156 u157 u158 u159 u160 u161 u162 u163 u164 u165 u166 u167 u168 u169 u170 u171 u172 u173 u174 u175 u176 u177 u178 u179 u180 u181 u182 u183 u184 u185 : Value} {Q : Exit → Act → World → Prop}
    (HS1 : Hid (LSt W0 w0 bl l bh br bg bi false false false false false false false false false false false false 6 (-10) 24 8)) (HX10 : Hid (∀ wx, Below W0.heap.size W0 wx → wx.cell? ⟨Bs, 10, none⟩ = some (.int .i64 10)))
    (hK : ∀ (v16 v17 v98 v99 v100 v101 v102 v103 v104 v105 v106 v107 v108 v109 v110 v111 v112 v113 v114 v115 v116 v117 v118 v119 v120 : Value) (wx : World), (Hid (LSt W0 wx bl l bh br bg bi true true false true false false false false false false false false 6 (-10) 24 8)) → Q (.exit 5) ⟨List.toArray (u0 :: u1 :: .pointer (some ⟨Bs, 0, none⟩) :: u3 :: u4 :: u5 :: u6 :: u7 :: u8 :: .pointer (some ⟨bl, 0, none⟩) :: u10 :: u11 :: u12 :: u13 :: u14 :: u15 :: v16 :: v17 :: u18 :: u19 :: u20 :: u21 :: u22 :: u23 :: u24 :: u25 :: u26 :: u27 :: u28 :: u29 :: u30 :: u31 :: u32 :: u33 :: u34 :: u35 :: u36 :: u37 :: u38 :: u39 :: u40 :: u41 :: u42 :: u43 :: u44 :: u45 :: u46 :: u47 :: u48 :: u49 :: u50 :: u51 :: u52 :: u53 :: u54 :: u55 :: u56 :: u57 :: u58 :: u59 :: u60 :: u61 :: u62 :: u63 :: u64 :: u65 :: u66 :: u67 :: u68 :: u69 :: u70 :: u71 :: u72 :: u73 :: u74 :: u75 :: u76 :: u77 :: u78 :: u79 :: u80 :: u81 :: u82 :: u83 :: u84 :: u85 :: u86 :: u87 :: u88 :: u89 :: u90 :: u91 :: u92 :: u93 :: u94 :: u95 :: .slice (some ⟨bi, 0, none⟩) 4 4 :: .int .i64 4 :: v98 :: v99 :: v100 :: v101 :: v102 :: v103 :: v104 :: v105 :: v106 :: v107 :: v108 :: v109 :: v110 :: v111 :: v112 :: v113 :: v114 :: v115 :: v116 :: v117 :: v118 :: v119 :: v120 :: u121 :: u122 :: u123 :: u124 :: u125 :: u126 :: u127 :: u128 :: u129 :: u130 :: u131 :: u132 :: u133 :: u134 :: u135 :: u136 :: u137 :: u138 :: u139 :: u140 :: u141 :: u142 :: u143 :: u144 :: u145 :: u146 :: u147 :: u148 :: u149 :: u150 :: u151 :: u152 :: u153 :: u154 :: u155 :: u156 :: u157 :: u158 :: u159 :: u160 :: u161 :: u162 :: u163 :: u164 :: u165 :: u166 :: u167 :: u168 :: u169 :: u170 :: u171 :: u172 :: u173 :: u174 :: u175 :: u176 :: u177 :: u178 :: u179 :: u180 :: u181 :: u182 :: u183 :: u184 :: u185 :: []), []⟩ wx) :
    Code.wp Tryz.prog (ofLoop 25) Q ⟨List.toArray (u0 :: u1 :: .pointer (some ⟨Bs, 0, none⟩) :: u3 :: u4 :: u5 :: u6 :: u7 :: u8 :: .pointer (some ⟨bl, 0, none⟩) :: u10 :: u11 :: u12 :: u13 :: u14 :: u15 :: u16 :: u17 :: u18 :: u19 :: u20 :: u21 :: u22 :: u23 :: u24 :: u25 :: u26 :: u27 :: u28 :: u29 :: u30 :: u31 :: u32 :: u33 :: u34 :: u35 :: u36 :: u37 :: u38 :: u39 :: u40 :: u41 :: u42 :: u43 :: u44 :: u45 :: u46 :: u47 :: u48 :: u49 :: u50 :: u51 :: u52 :: u53 :: u54 :: u55 :: u56 :: u57 :: u58 :: u59 :: u60 :: u61 :: u62 :: u63 :: u64 :: u65 :: u66 :: u67 :: u68 :: u69 :: u70 :: u71 :: u72 :: u73 :: u74 :: u75 :: u76 :: u77 :: u78 :: u79 :: u80 :: u81 :: u82 :: u83 :: u84 :: u85 :: u86 :: u87 :: u88 :: u89 :: u90 :: u91 :: u92 :: u93 :: u94 :: u95 :: .slice (some ⟨bi, 0, none⟩) 4 4 :: .int .i64 4 :: .int .i64 0 :: u99 :: u100 :: u101 :: u102 :: u103 :: u104 :: u105 :: u106 :: u107 :: u108 :: u109 :: u110 :: u111 :: u112 :: u113 :: u114 :: u115 :: u116 :: u117 :: u118 :: u119 :: u120 :: u121 :: u122 :: u123 :: u124 :: u125 :: u126 :: u127 :: u128 :: u129 :: u130 :: u131 :: u132 :: u133 :: u134 :: u135 :: u136 :: u137 :: u138 :: u139 :: u140 :: u141 :: u142 :: u143 :: u144 :: u145 :: u146 :: u147 :: u148 :: u149 :: u150 :: u151 :: u152 :: u153 :: u154 :: u155 :: u156 :: u157 :: u158 :: u159 :: u160 :: u161 :: u162 :: u163 :: u164 :: u165 :: u166 :: u167 :: u168 :: u169 :: u170 :: u171 :: u172 :: u173 :: u174 :: u175 :: u176 :: u177 :: u178 :: u179 :: u180 :: u181 :: u182 :: u183 :: u184 :: u185 :: []), []⟩ w0 := by
  conv => arg 2; whnf
  refine wp_noPanic ?_
  obtain ⟨v5, v6⟩ : IntKind.i64.wrap (-10) = -10 ∧ IntKind.i64.wrap 10 = 10 := by decide +kernel
  have x10 := HX10.out
  refine wp_loop_rounds 5 ?_
  rw [rounds_succ]
  obtain ⟨⟨p0, p1, p2, p3, p4, ⟨p5, p6⟩, p7, p8⟩, ⟨a0, a1, a2, a3, a4, a5⟩, ⟨b0, b1, b2, b3, b4, b5⟩, ⟨c0, c1, c2, c3, c4, c5⟩, ⟨d0, d1, d2, d3, d4, d5⟩, hB, -, -⟩ := HS1.out
  have hBa : ∀ o, Below W0.heap.size W0 (w0.alloc o) := fun o => belA o hB
  go_wp2_with fail
  go_region
  replace HS1 := Lib.hid ((HS1.out.uh0 (true)).below (Below.refl _ _).drew)
  clear p0 p1 p2 p3 p4 p5 p6 p7 p8 a0 a1 a2 a3 a4 a5 b0 b1 b2 b3 b4 b5 c0 c1 c2 c3 c4 c5 d0 d1 d2 d3 d4 d5 hB hBa
  generalize (w0.setCell ⟨bh, 0, none⟩ (.bool true)).drew = w1 at *
  go_wp2_with fail
  rw [rounds_succ]
  obtain ⟨⟨p0, p1, p2, p3, p4, ⟨p5, p6⟩, p7, p8⟩, ⟨a0, a1, a2, a3, a4, a5⟩, ⟨b0, b1, b2, b3, b4, b5⟩, ⟨c0, c1, c2, c3, c4, c5⟩, ⟨d0, d1, d2, d3, d4, d5⟩, hB, -, -⟩ := HS1.out
  have hBa : ∀ o, Below W0.heap.size W0 (w1.alloc o) := fun o => belA o hB
  go_wp2_with fail
  go_region
  replace HS1 := Lib.hid ((HS1.out.uh1 (true)).below (Below.refl _ _).drew)
  clear p0 p1 p2 p3 p4 p5 p6 p7 p8 a0 a1 a2 a3 a4 a5 b0 b1 b2 b3 b4 b5 c0 c1 c2 c3 c4 c5 d0 d1 d2 d3 d4 d5 hB hBa
  generalize (w1.setCell ⟨bh, 1, none⟩ (.bool true)).drew = w2 at *
  go_wp2_with fail
  rw [rounds_succ]
  obtain ⟨⟨p0, p1, p2, p3, p4, ⟨p5, p6⟩, p7, p8⟩, ⟨a0, a1, a2, a3, a4, a5⟩, ⟨b0, b1, b2, b3, b4, b5⟩, ⟨c0, c1, c2, c3, c4, c5⟩, ⟨d0, d1, d2, d3, d4, d5⟩, hB, -, -⟩ := HS1.out
  have hBa : ∀ o, Below W0.heap.size W0 (w2.alloc o) := fun o => belA o hB
  go_wp2_with fail
  go_region
  replace HS1 := Lib.hid ((HS1.out.uh2 (false)).below (Below.refl _ _).drew)
  clear p0 p1 p2 p3 p4 p5 p6 p7 p8 a0 a1 a2 a3 a4 a5 b0 b1 b2 b3 b4 b5 c0 c1 c2 c3 c4 c5 d0 d1 d2 d3 d4 d5 hB hBa
  generalize (w2.setCell ⟨bh, 2, none⟩ (.bool false)).drew = w3 at *
  go_wp2_with fail
  rw [rounds_succ]
  obtain ⟨⟨p0, p1, p2, p3, p4, ⟨p5, p6⟩, p7, p8⟩, ⟨a0, a1, a2, a3, a4, a5⟩, ⟨b0, b1, b2, b3, b4, b5⟩, ⟨c0, c1, c2, c3, c4, c5⟩, ⟨d0, d1, d2, d3, d4, d5⟩, hB, -, -⟩ := HS1.out
  have hBa : ∀ o, Below W0.heap.size W0 (w3.alloc o) := fun o => belA o hB
  go_wp2_with fail
  go_region
  replace HS1 := Lib.hid ((HS1.out.uh3 (true)).below (Below.refl _ _).drew)
  clear p0 p1 p2 p3 p4 p5 p6 p7 p8 a0 a1 a2 a3 a4 a5 b0 b1 b2 b3 b4 b5 c0 c1 c2 c3 c4 c5 d0 d1 d2 d3 d4 d5 hB hBa
  generalize (w3.setCell ⟨bh, 3, none⟩ (.bool true)).drew = w4 at *
  go_wp2_with fail
  rw [rounds_succ]
  go_wp2_with fail
  exact hK _ _ _ _ _ _ _ _ _ _ _ _ _ _ _ _ _ _ _ _ _ _ _ _ _ _ HS1
end Go.Proofs.YtfkmnneieglolaaGreatDoor
namespace Go.Proofs.YtfkmnneieglolaaGreatDoor
open Go.RowKit Go.Shelf
attribute [local go_sem] Oper.semAt_some
set_option maxRecDepth 100000 in
set_option maxHeartbeats 16000000 in
theorem ofr0 {bl l bh br bg bi sb : Nat} {W0 w : World} {u0 u1 u2 u3 u4 u5 u6 u7 u8 u10 u11 u12 u13 u14 u15 u16 u17 u19 u20 u21 u22 u23 u24 u25 u26 u27 u28 u29 u30 u31 u32 u33 u34 u35 u36 u37 u38 u39 u40 u41 u42 u43 u44 u45 u46 u47 u48 u49 u50 u51 u52 u53 u54 u55 u56 u57 u58 u59 u60 u61 u62 u63 u64 u65 u66 u67 u68 u69 u70 u71 u72 u73 u74 u75 u76 u77 u78 u79 u80 u81 u82 u83 u84 u85 u86 u87 u88 u89 u90 u91 u92 u93 u94 u95 u96 u97 u98 u99 u100 u101 u102 u103 u104 u105 u106 u107 u108 u109 u110 u111 u112 u113 u114 u115 u116 u117 u118 u119 u120 u121 u122 u123 u124 u125 u126 u127 u128 u129 u130 u131 u132 u133 u134 u135 u136 u137 u138 u139 u140 u141 u142 u143 u144 u145 u146 u147 u148 u149 u150 u151 : Value} {R : List Value} {K : Act → World → Prop} {Q0 : Exit → Act → World → Prop}
    (HS1 : Hid (LSt W0 w bl l bh br bg bi true true false true false false false false false false false false 6 (-10) 24 8)) (HSC : Hid (w.cell? ⟨sb, 0, none⟩ = some (.int .i64 0))) (HSL : Hid (sb < w.heap.size)) (HNE : Hid (br ≠ sb ∧ bg ≠ sb))
    (hK : ∀ (v129 v130 v131 v132 v133 v134 v135 v136 v137 v138 v139 v140 v141 v142 v143 v144 v145 v146 v147 v148 v149 v150 v151 : Value) (wx : World), (Hid (LSt W0 wx bl l bh br bg bi true true false true true false false false false false false false 6 (-10) 24 8) ∧ Hid (wx.cell? ⟨sb, 0, none⟩ = some (.int .i64 0)) ∧ Hid (sb < wx.heap.size)) → K ⟨List.toArray (u0 :: u1 :: u2 :: u3 :: u4 :: u5 :: u6 :: u7 :: u8 :: .pointer (some ⟨bl, 0, none⟩) :: u10 :: u11 :: u12 :: u13 :: u14 :: u15 :: u16 :: u17 :: .pointer (some ⟨sb, 0, none⟩) :: u19 :: u20 :: u21 :: u22 :: u23 :: u24 :: u25 :: u26 :: u27 :: u28 :: u29 :: u30 :: u31 :: u32 :: u33 :: u34 :: u35 :: u36 :: u37 :: u38 :: u39 :: u40 :: u41 :: u42 :: u43 :: u44 :: u45 :: u46 :: u47 :: u48 :: u49 :: u50 :: u51 :: u52 :: u53 :: u54 :: u55 :: u56 :: u57 :: u58 :: u59 :: u60 :: u61 :: u62 :: u63 :: u64 :: u65 :: u66 :: u67 :: u68 :: u69 :: u70 :: u71 :: u72 :: u73 :: u74 :: u75 :: u76 :: u77 :: u78 :: u79 :: u80 :: u81 :: u82 :: u83 :: u84 :: u85 :: u86 :: u87 :: u88 :: u89 :: u90 :: u91 :: u92 :: u93 :: u94 :: u95 :: u96 :: u97 :: u98 :: u99 :: u100 :: u101 :: u102 :: u103 :: u104 :: u105 :: u106 :: u107 :: u108 :: u109 :: u110 :: u111 :: u112 :: u113 :: u114 :: u115 :: u116 :: u117 :: u118 :: u119 :: u120 :: u121 :: u122 :: u123 :: u124 :: u125 :: u126 :: u127 :: u128 :: v129 :: v130 :: v131 :: v132 :: v133 :: v134 :: v135 :: v136 :: v137 :: v138 :: v139 :: v140 :: v141 :: v142 :: v143 :: v144 :: v145 :: v146 :: v147 :: v148 :: v149 :: v150 :: v151 :: R), []⟩ wx) :
    Code.wp Tryz.prog (ofCode 32) (Exit.then K Q0) ⟨List.toArray (u0 :: u1 :: u2 :: u3 :: u4 :: u5 :: u6 :: u7 :: u8 :: .pointer (some ⟨bl, 0, none⟩) :: u10 :: u11 :: u12 :: u13 :: u14 :: u15 :: u16 :: u17 :: .pointer (some ⟨sb, 0, none⟩) :: u19 :: u20 :: u21 :: u22 :: u23 :: u24 :: u25 :: u26 :: u27 :: u28 :: u29 :: u30 :: u31 :: u32 :: u33 :: u34 :: u35 :: u36 :: u37 :: u38 :: u39 :: u40 :: u41 :: u42 :: u43 :: u44 :: u45 :: u46 :: u47 :: u48 :: u49 :: u50 :: u51 :: u52 :: u53 :: u54 :: u55 :: u56 :: u57 :: u58 :: u59 :: u60 :: u61 :: u62 :: u63 :: u64 :: u65 :: u66 :: u67 :: u68 :: u69 :: u70 :: u71 :: u72 :: u73 :: u74 :: u75 :: u76 :: u77 :: u78 :: u79 :: u80 :: u81 :: u82 :: u83 :: u84 :: u85 :: u86 :: u87 :: u88 :: u89 :: u90 :: u91 :: u92 :: u93 :: u94 :: u95 :: u96 :: u97 :: u98 :: u99 :: u100 :: u101 :: u102 :: u103 :: u104 :: u105 :: u106 :: u107 :: u108 :: u109 :: u110 :: u111 :: u112 :: u113 :: u114 :: u115 :: u116 :: u117 :: u118 :: u119 :: u120 :: u121 :: u122 :: u123 :: u124 :: u125 :: u126 :: u127 :: u128 :: u129 :: u130 :: u131 :: u132 :: u133 :: u134 :: u135 :: u136 :: u137 :: u138 :: u139 :: u140 :: u141 :: u142 :: u143 :: u144 :: u145 :: u146 :: u147 :: u148 :: u149 :: u150 :: u151 :: R), []⟩ w := by
  conv => arg 2; whnf
  refine wp_region_noPanic ?_
  have HSS : Hid (∀ w', Below w.heap.size w w' → LSt W0 w' bl l bh br bg bi true true false true false false false false false false false false 6 (-10) 24 8 ∧ w'.cell? ⟨sb, 0, none⟩ = some (.int .i64 0) ∧ sb < w'.heap.size) := Lib.hid fun w' h => ⟨HS1.out.below h, (h.cell (p := ⟨sb, 0, none⟩) HSL.out).trans HSC.out, Nat.lt_of_lt_of_le HSL.out h.size⟩
  have HSO : Hid (∀ w', Below w.heap.size w w' → (fun w' => w'.cell? ⟨bl, 0, none⟩ = some (.pointer (some ⟨l, 0, none⟩)) ∧ w'.cell? ⟨l, 0, none⟩ = some (.int .i64 2) ∧ w'.cell? ⟨l, 1, none⟩ = some (.slice (some ⟨bh, 0, none⟩) 4 4) ∧ w'.cell? ⟨l, 2, none⟩ = some (.slice (some ⟨br, 0, none⟩) 4 4) ∧ w'.cell? ⟨bh, 0, none⟩ = some (.bool true) ∧ w'.cell? ⟨sb, 0, none⟩ = some (.int .i64 0)) w') := Lib.hid fun w' h => ⟨(HSS.out w' h).1.lat.p, (HSS.out w' h).1.lat.n, (HSS.out w' h).1.lat.h, (HSS.out w' h).1.lat.r, (HSS.out w' h).1.fh.c0, (HSS.out w' h).2.1⟩
  have HST : Hid (∀ w', Below w.heap.size w w' → (fun w' => w'.cell? ⟨bl, 0, none⟩ = some (.pointer (some ⟨l, 0, none⟩)) ∧ w'.cell? ⟨l, 0, none⟩ = some (.int .i64 2) ∧ w'.cell? ⟨l, 1, none⟩ = some (.slice (some ⟨bh, 0, none⟩) 4 4) ∧ w'.cell? ⟨l, 2, none⟩ = some (.slice (some ⟨br, 0, none⟩) 4 4) ∧ w'.cell? ⟨bh, 0, none⟩ = some (.bool true) ∧ w'.cell? ⟨sb, 0, none⟩ = some (.int .i64 0)) (w'.setCell ⟨br, 0, none⟩ (.bool true))) := Lib.hid fun w' h => by
    have s := (HSS.out w' h).1.ur0 true
    exact ⟨s.lat.p, s.lat.n, s.lat.h, s.lat.r, s.fh.c0, (World.cell?_setCell_far _ _ _ _ HNE.out.1).trans (HSS.out w' h).2.1⟩
  refine wp_region_held_drew (S := (fun w' => w'.cell? ⟨bl, 0, none⟩ = some (.pointer (some ⟨l, 0, none⟩)) ∧ w'.cell? ⟨l, 0, none⟩ = some (.int .i64 2) ∧ w'.cell? ⟨l, 1, none⟩ = some (.slice (some ⟨bh, 0, none⟩) 4 4) ∧ w'.cell? ⟨l, 2, none⟩ = some (.slice (some ⟨br, 0, none⟩) 4 4) ∧ w'.cell? ⟨bh, 0, none⟩ = some (.bool true) ∧ w'.cell? ⟨sb, 0, none⟩ = some (.int .i64 0))) (by kernel_rfl) (HSO.out _ (Below.refl _ _).drew) (fun hHeld => ?_)
  have hA := (Below.refl w.heap.size w).drew
  refine tk 0 ?_; refine tk 1 ?_; refine tk 2 ?_; refine tk 3 ?_; refine tk 4 ?_; refine tk 5 ?_; refine tk 6 ?_; refine tk 7 ?_; refine tk 8 ?_; refine tk 9 ?_; refine tk 10 ?_; refine tk 11 ?_; refine tk 12 ?_; refine tk 13 ?_; refine tk 14 ?_; refine tk 15 ?_; refine sk 16 ?_; refine sk 17 ?_; refine sk 18 ?_; refine sk 19 ?_; refine tk 20 ?_
  refine tk 21 ?_; refine tk 22 ?_
  have hc1 := (HSS.out _ hA).1.fr.c0
  have hc2 := (HSS.out _ hA).1.fr.fz 0
  refine wpAnyH_ready (rs := [23]) (by kernel_rfl) (by simp) ?_
  refine AllReadyH.cons (o := _) rfl (fun K1 hK1 => ?_) AllReadyH.nil
  try simp only [List.getElem_toArray, List.getElem_cons_succ, List.getElem_cons_zero]
  rw [if_pos (by rfl)]
  go_wp2_with fail
  refine hK1.out _ _ (HST.out _ (Below.refl _ _)) (fun hHeld => ?_)
  clear hK1 K1
  try simp only [Act.put, List.setIfInBounds_toArray, List.set_cons_zero, List.set_cons_succ, List.getElem_toArray, List.getElem_cons_succ, List.getElem_cons_zero]
  refine wpAnyH_done (by kernel_rfl) ?_ _
  exact hK _ _ _ _ _ _ _ _ _ _ _ _ _ _ _ _ _ _ _ _ _ _ _ _ ⟨Lib.hid (((HSS.out _ (Below.refl _ _)).1.ur0 true).below (Below.refl _ _).drew), Lib.hid ((World.cell?_setCell_far _ _ _ _ HNE.out.1).trans (HSS.out _ (Below.refl _ _)).2.1), Lib.hid (by simpa using (HSS.out _ (Below.refl _ _)).2.2)⟩
set_option maxRecDepth 100000 in
set_option maxHeartbeats 16000000 in
theorem ofr1 {bl l bh br bg bi sb : Nat} {W0 w : World} {u0 u1 u2 u3 u4 u5 u6 u7 u8 u10 u11 u12 u13 u14 u15 u16 u17 u19 u20 u21 u22 u23 u24 u25 u26 u27 u28 u29 u30 u31 u32 u33 u34 u35 u36 u37 u38 u39 u40 u41 u42 u43 u44 u45 u46 u47 u48 u49 u50 u51 u52 u53 u54 u55 u56 u57 u58 u59 u60 u61 u62 u63 u64 u65 u66 u67 u68 u69 u70 u71 u72 u73 u74 u75 u76 u77 u78 u79 u80 u81 u82 u83 u84 u85 u86 u87 u88 u89 u90 u91 u92 u93 u94 u95 u96 u97 u98 u99 u100 u101 u102 u103 u104 u105 u106 u107 u108 u109 u110 u111 u112 u113 u114 u115 u116 u117 u118 u119 u120 u121 u122 u123 u124 u125 u126 u127 u128 u129 u130 u131 u132 u133 u134 u135 u136 u137 u138 u139 u140 u141 u142 u143 u144 u145 u146 u147 u148 u149 u150 u151 : Value} {R : List Value} {K : Act → World → Prop} {Q0 : Exit → Act → World → Prop}
    (HS1 : Hid (LSt W0 w bl l bh br bg bi true true false true true false false false false false false false 6 (-10) 24 8)) (HSC : Hid (w.cell? ⟨sb, 0, none⟩ = some (.int .i64 1))) (HSL : Hid (sb < w.heap.size)) (HNE : Hid (br ≠ sb ∧ bg ≠ sb))
    (hK : ∀ (v129 v130 v131 v132 v133 v134 v135 v136 v137 v138 v139 v140 v141 v142 v143 v144 v145 v146 v147 v148 v149 v150 v151 : Value) (wx : World), (Hid (LSt W0 wx bl l bh br bg bi true true false true true true false false false false false false 6 (-10) 24 8) ∧ Hid (wx.cell? ⟨sb, 0, none⟩ = some (.int .i64 1)) ∧ Hid (sb < wx.heap.size)) → K ⟨List.toArray (u0 :: u1 :: u2 :: u3 :: u4 :: u5 :: u6 :: u7 :: u8 :: .pointer (some ⟨bl, 0, none⟩) :: u10 :: u11 :: u12 :: u13 :: u14 :: u15 :: u16 :: u17 :: .pointer (some ⟨sb, 0, none⟩) :: u19 :: u20 :: u21 :: u22 :: u23 :: u24 :: u25 :: u26 :: u27 :: u28 :: u29 :: u30 :: u31 :: u32 :: u33 :: u34 :: u35 :: u36 :: u37 :: u38 :: u39 :: u40 :: u41 :: u42 :: u43 :: u44 :: u45 :: u46 :: u47 :: u48 :: u49 :: u50 :: u51 :: u52 :: u53 :: u54 :: u55 :: u56 :: u57 :: u58 :: u59 :: u60 :: u61 :: u62 :: u63 :: u64 :: u65 :: u66 :: u67 :: u68 :: u69 :: u70 :: u71 :: u72 :: u73 :: u74 :: u75 :: u76 :: u77 :: u78 :: u79 :: u80 :: u81 :: u82 :: u83 :: u84 :: u85 :: u86 :: u87 :: u88 :: u89 :: u90 :: u91 :: u92 :: u93 :: u94 :: u95 :: u96 :: u97 :: u98 :: u99 :: u100 :: u101 :: u102 :: u103 :: u104 :: u105 :: u106 :: u107 :: u108 :: u109 :: u110 :: u111 :: u112 :: u113 :: u114 :: u115 :: u116 :: u117 :: u118 :: u119 :: u120 :: u121 :: u122 :: u123 :: u124 :: u125 :: u126 :: u127 :: u128 :: v129 :: v130 :: v131 :: v132 :: v133 :: v134 :: v135 :: v136 :: v137 :: v138 :: v139 :: v140 :: v141 :: v142 :: v143 :: v144 :: v145 :: v146 :: v147 :: v148 :: v149 :: v150 :: v151 :: R), []⟩ wx) :
    Code.wp Tryz.prog (ofCode 32) (Exit.then K Q0) ⟨List.toArray (u0 :: u1 :: u2 :: u3 :: u4 :: u5 :: u6 :: u7 :: u8 :: .pointer (some ⟨bl, 0, none⟩) :: u10 :: u11 :: u12 :: u13 :: u14 :: u15 :: u16 :: u17 :: .pointer (some ⟨sb, 0, none⟩) :: u19 :: u20 :: u21 :: u22 :: u23 :: u24 :: u25 :: u26 :: u27 :: u28 :: u29 :: u30 :: u31 :: u32 :: u33 :: u34 :: u35 :: u36 :: u37 :: u38 :: u39 :: u40 :: u41 :: u42 :: u43 :: u44 :: u45 :: u46 :: u47 :: u48 :: u49 :: u50 :: u51 :: u52 :: u53 :: u54 :: u55 :: u56 :: u57 :: u58 :: u59 :: u60 :: u61 :: u62 :: u63 :: u64 :: u65 :: u66 :: u67 :: u68 :: u69 :: u70 :: u71 :: u72 :: u73 :: u74 :: u75 :: u76 :: u77 :: u78 :: u79 :: u80 :: u81 :: u82 :: u83 :: u84 :: u85 :: u86 :: u87 :: u88 :: u89 :: u90 :: u91 :: u92 :: u93 :: u94 :: u95 :: u96 :: u97 :: u98 :: u99 :: u100 :: u101 :: u102 :: u103 :: u104 :: u105 :: u106 :: u107 :: u108 :: u109 :: u110 :: u111 :: u112 :: u113 :: u114 :: u115 :: u116 :: u117 :: u118 :: u119 :: u120 :: u121 :: u122 :: u123 :: u124 :: u125 :: u126 :: u127 :: u128 :: u129 :: u130 :: u131 :: u132 :: u133 :: u134 :: u135 :: u136 :: u137 :: u138 :: u139 :: u140 :: u141 :: u142 :: u143 :: u144 :: u145 :: u146 :: u147 :: u148 :: u149 :: u150 :: u151 :: R), []⟩ w := by
  conv => arg 2; whnf
  refine wp_region_noPanic ?_
  have HSS : Hid (∀ w', Below w.heap.size w w' → LSt W0 w' bl l bh br bg bi true true false true true false false false false false false false 6 (-10) 24 8 ∧ w'.cell? ⟨sb, 0, none⟩ = some (.int .i64 1) ∧ sb < w'.heap.size) := Lib.hid fun w' h => ⟨HS1.out.below h, (h.cell (p := ⟨sb, 0, none⟩) HSL.out).trans HSC.out, Nat.lt_of_lt_of_le HSL.out h.size⟩
  have HSO : Hid (∀ w', Below w.heap.size w w' → (fun w' => w'.cell? ⟨bl, 0, none⟩ = some (.pointer (some ⟨l, 0, none⟩)) ∧ w'.cell? ⟨l, 0, none⟩ = some (.int .i64 2) ∧ w'.cell? ⟨l, 1, none⟩ = some (.slice (some ⟨bh, 0, none⟩) 4 4) ∧ w'.cell? ⟨l, 2, none⟩ = some (.slice (some ⟨br, 0, none⟩) 4 4) ∧ w'.cell? ⟨bh, 1, none⟩ = some (.bool true) ∧ w'.cell? ⟨sb, 0, none⟩ = some (.int .i64 1)) w') := Lib.hid fun w' h => ⟨(HSS.out w' h).1.lat.p, (HSS.out w' h).1.lat.n, (HSS.out w' h).1.lat.h, (HSS.out w' h).1.lat.r, (HSS.out w' h).1.fh.c1, (HSS.out w' h).2.1⟩
  have HST : Hid (∀ w', Below w.heap.size w w' → (fun w' => w'.cell? ⟨bl, 0, none⟩ = some (.pointer (some ⟨l, 0, none⟩)) ∧ w'.cell? ⟨l, 0, none⟩ = some (.int .i64 2) ∧ w'.cell? ⟨l, 1, none⟩ = some (.slice (some ⟨bh, 0, none⟩) 4 4) ∧ w'.cell? ⟨l, 2, none⟩ = some (.slice (some ⟨br, 0, none⟩) 4 4) ∧ w'.cell? ⟨bh, 1, none⟩ = some (.bool true) ∧ w'.cell? ⟨sb, 0, none⟩ = some (.int .i64 1)) (w'.setCell ⟨br, 1, none⟩ (.bool true))) := Lib.hid fun w' h => by
    have s := (HSS.out w' h).1.ur1 true
    exact ⟨s.lat.p, s.lat.n, s.lat.h, s.lat.r, s.fh.c1, (World.cell?_setCell_far _ _ _ _ HNE.out.1).trans (HSS.out w' h).2.1⟩
  refine wp_region_held_drew (S := (fun w' => w'.cell? ⟨bl, 0, none⟩ = some (.pointer (some ⟨l, 0, none⟩)) ∧ w'.cell? ⟨l, 0, none⟩ = some (.int .i64 2) ∧ w'.cell? ⟨l, 1, none⟩ = some (.slice (some ⟨bh, 0, none⟩) 4 4) ∧ w'.cell? ⟨l, 2, none⟩ = some (.slice (some ⟨br, 0, none⟩) 4 4) ∧ w'.cell? ⟨bh, 1, none⟩ = some (.bool true) ∧ w'.cell? ⟨sb, 0, none⟩ = some (.int .i64 1))) (by kernel_rfl) (HSO.out _ (Below.refl _ _).drew) (fun hHeld => ?_)
  have hA := (Below.refl w.heap.size w).drew
  refine tk 0 ?_; refine tk 1 ?_; refine tk 2 ?_; refine tk 3 ?_; refine tk 4 ?_; refine tk 5 ?_; refine tk 6 ?_; refine tk 7 ?_; refine tk 8 ?_; refine tk 9 ?_; refine tk 10 ?_; refine tk 11 ?_; refine tk 12 ?_; refine tk 13 ?_; refine tk 14 ?_; refine tk 15 ?_; refine tk 16 ?_; refine tk 17 ?_; refine tk 18 ?_
  refine wpAnyH_ready (rs := [19]) (by kernel_rfl) (by simp) ?_
  refine AllReadyH.cons (o := _) rfl (fun K1 hK1 => ?_) AllReadyH.nil
  try simp only [List.getElem_toArray, List.getElem_cons_succ, List.getElem_cons_zero]
  go_simp
  have HCL := Lib.hid (any_re 1 true sb bl l br true false false false _ (HSS.out _ hA).2.2 (HSS.out _ hA).1.lat.tl.1 (HSS.out _ hA).1.lat.tl.2 (HSS.out _ hA).1.lat.n (HSS.out _ hA).2.1 (HSS.out _ hA).1.lat.p (HSS.out _ hA).1.lat.r (HSS.out _ hA).1.fr (.inl ⟨rfl, rfl⟩))
  (go_at_call 33; go_split_ands; (with_reducible refine HCL.out.mono ?_); rintro e wy ⟨rfl, hby⟩)
  go_wp2_with fail
  have hAy := hA.trans (hby.mono hA.size)
  clear hA HCL hby
  have hA := hAy
  clear hAy
  refine hK1.out _ _ (HSO.out _ hA) (fun hHeld => ?_)
  clear hK1 K1
  try simp only [Act.put, List.setIfInBounds_toArray, List.set_cons_zero, List.set_cons_succ, List.getElem_toArray, List.getElem_cons_succ, List.getElem_cons_zero]
  refine tk 20 ?_; refine tk 21 ?_; refine tk 22 ?_
  have hc1 := (HSS.out _ hA).1.fr.c1
  have hc2 := (HSS.out _ hA).1.fr.fz 1
  refine wpAnyH_ready (rs := [23]) (by kernel_rfl) (by simp) ?_
  refine AllReadyH.cons (o := _) rfl (fun K1 hK1 => ?_) AllReadyH.nil
  try simp only [List.getElem_toArray, List.getElem_cons_succ, List.getElem_cons_zero]
  rw [if_pos (by rfl)]
  go_wp2_with fail
  refine hK1.out _ _ (HST.out _ hA) (fun hHeld => ?_)
  clear hK1 K1
  try simp only [Act.put, List.setIfInBounds_toArray, List.set_cons_zero, List.set_cons_succ, List.getElem_toArray, List.getElem_cons_succ, List.getElem_cons_zero]
  refine wpAnyH_done (by kernel_rfl) ?_ _
  exact hK _ _ _ _ _ _ _ _ _ _ _ _ _ _ _ _ _ _ _ _ _ _ _ _ ⟨Lib.hid (((HSS.out _ hA).1.ur1 true)), Lib.hid ((World.cell?_setCell_far _ _ _ _ HNE.out.1).trans (HSS.out _ hA).2.1), Lib.hid (by simpa using (HSS.out _ hA).2.2)⟩
set_option maxRecDepth 100000 in
set_option maxHeartbeats 16000000 in
theorem ofr2 {bl l bh br bg bi sb : Nat} {W0 w : World} {u0 u1 u2 u3 u4 u5 u6 u7 u8 u10 u11 u12 u13 u14 u15 u16 u17 u19 u20 u21 u22 u23 u24 u25 u26 u27 u28 u29 u30 u31 u32 u33 u34 u35 u36 u37 u38 u39 u40 u41 u42 u43 u44 u45 u46 u47 u48 u49 u50 u51 u52 u53 u54 u55 u56 u57 u58 u59 u60 u61 u62 u63 u64 u65 u66 u67 u68 u69 u70 u71 u72 u73 u74 u75 u76 u77 u78 u79 u80 u81 u82 u83 u84 u85 u86 u87 u88 u89 u90 u91 u92 u93 u94 u95 u96 u97 u98 u99 u100 u101 u102 u103 u104 u105 u106 u107 u108 u109 u110 u111 u112 u113 u114 u115 u116 u117 u118 u119 u120 u121 u122 u123 u124 u125 u126 u127 u128 u129 u130 u131 u132 u133 u134 u135 u136 u137 u138 u139 u140 u141 u142 u143 u144 u145 u146 u147 u148 u149 u150 u151 : Value} {R : List Value} {K : Act → World → Prop} {Q0 : Exit → Act → World → Prop}
    (HS1 : Hid (LSt W0 w bl l bh br bg bi true true false true true true false false false false false false 6 (-10) 24 8)) (HSC : Hid (w.cell? ⟨sb, 0, none⟩ = some (.int .i64 2))) (HSL : Hid (sb < w.heap.size)) (HNE : Hid (br ≠ sb ∧ bg ≠ sb))
    (hK : ∀ (v129 v130 v131 v132 v133 v134 v135 v136 v137 v138 v139 v140 v141 v142 v143 v144 v145 v146 v147 v148 v149 v150 v151 : Value) (wx : World), (Hid (LSt W0 wx bl l bh br bg bi true true false true true true false false false false false false 6 (-10) 24 8) ∧ Hid (wx.cell? ⟨sb, 0, none⟩ = some (.int .i64 2)) ∧ Hid (sb < wx.heap.size)) → K ⟨List.toArray (u0 :: u1 :: u2 :: u3 :: u4 :: u5 :: u6 :: u7 :: u8 :: .pointer (some ⟨bl, 0, none⟩) :: u10 :: u11 :: u12 :: u13 :: u14 :: u15 :: u16 :: u17 :: .pointer (some ⟨sb, 0, none⟩) :: u19 :: u20 :: u21 :: u22 :: u23 :: u24 :: u25 :: u26 :: u27 :: u28 :: u29 :: u30 :: u31 :: u32 :: u33 :: u34 :: u35 :: u36 :: u37 :: u38 :: u39 :: u40 :: u41 :: u42 :: u43 :: u44 :: u45 :: u46 :: u47 :: u48 :: u49 :: u50 :: u51 :: u52 :: u53 :: u54 :: u55 :: u56 :: u57 :: u58 :: u59 :: u60 :: u61 :: u62 :: u63 :: u64 :: u65 :: u66 :: u67 :: u68 :: u69 :: u70 :: u71 :: u72 :: u73 :: u74 :: u75 :: u76 :: u77 :: u78 :: u79 :: u80 :: u81 :: u82 :: u83 :: u84 :: u85 :: u86 :: u87 :: u88 :: u89 :: u90 :: u91 :: u92 :: u93 :: u94 :: u95 :: u96 :: u97 :: u98 :: u99 :: u100 :: u101 :: u102 :: u103 :: u104 :: u105 :: u106 :: u107 :: u108 :: u109 :: u110 :: u111 :: u112 :: u113 :: u114 :: u115 :: u116 :: u117 :: u118 :: u119 :: u120 :: u121 :: u122 :: u123 :: u124 :: u125 :: u126 :: u127 :: u128 :: v129 :: v130 :: v131 :: v132 :: v133 :: v134 :: v135 :: v136 :: v137 :: v138 :: v139 :: v140 :: v141 :: v142 :: v143 :: v144 :: v145 :: v146 :: v147 :: v148 :: v149 :: v150 :: v151 :: R), []⟩ wx) :
    Code.wp Tryz.prog (ofCode 32) (Exit.then K Q0) ⟨List.toArray (u0 :: u1 :: u2 :: u3 :: u4 :: u5 :: u6 :: u7 :: u8 :: .pointer (some ⟨bl, 0, none⟩) :: u10 :: u11 :: u12 :: u13 :: u14 :: u15 :: u16 :: u17 :: .pointer (some ⟨sb, 0, none⟩) :: u19 :: u20 :: u21 :: u22 :: u23 :: u24 :: u25 :: u26 :: u27 :: u28 :: u29 :: u30 :: u31 :: u32 :: u33 :: u34 :: u35 :: u36 :: u37 :: u38 :: u39 :: u40 :: u41 :: u42 :: u43 :: u44 :: u45 :: u46 :: u47 :: u48 :: u49 :: u50 :: u51 :: u52 :: u53 :: u54 :: u55 :: u56 :: u57 :: u58 :: u59 :: u60 :: u61 :: u62 :: u63 :: u64 :: u65 :: u66 :: u67 :: u68 :: u69 :: u70 :: u71 :: u72 :: u73 :: u74 :: u75 :: u76 :: u77 :: u78 :: u79 :: u80 :: u81 :: u82 :: u83 :: u84 :: u85 :: u86 :: u87 :: u88 :: u89 :: u90 :: u91 :: u92 :: u93 :: u94 :: u95 :: u96 :: u97 :: u98 :: u99 :: u100 :: u101 :: u102 :: u103 :: u104 :: u105 :: u106 :: u107 :: u108 :: u109 :: u110 :: u111 :: u112 :: u113 :: u114 :: u115 :: u116 :: u117 :: u118 :: u119 :: u120 :: u121 :: u122 :: u123 :: u124 :: u125 :: u126 :: u127 :: u128 :: u129 :: u130 :: u131 :: u132 :: u133 :: u134 :: u135 :: u136 :: u137 :: u138 :: u139 :: u140 :: u141 :: u142 :: u143 :: u144 :: u145 :: u146 :: u147 :: u148 :: u149 :: u150 :: u151 :: R), []⟩ w := by
  conv => arg 2; whnf
  refine wp_region_noPanic ?_
  have HSS : Hid (∀ w', Below w.heap.size w w' → LSt W0 w' bl l bh br bg bi true true false true true true false false false false false false 6 (-10) 24 8 ∧ w'.cell? ⟨sb, 0, none⟩ = some (.int .i64 2) ∧ sb < w'.heap.size) := Lib.hid fun w' h => ⟨HS1.out.below h, (h.cell (p := ⟨sb, 0, none⟩) HSL.out).trans HSC.out, Nat.lt_of_lt_of_le HSL.out h.size⟩
  have HSO : Hid (∀ w', Below w.heap.size w w' → (fun w' => w'.cell? ⟨bl, 0, none⟩ = some (.pointer (some ⟨l, 0, none⟩)) ∧ w'.cell? ⟨l, 0, none⟩ = some (.int .i64 2) ∧ w'.cell? ⟨l, 1, none⟩ = some (.slice (some ⟨bh, 0, none⟩) 4 4) ∧ w'.cell? ⟨l, 2, none⟩ = some (.slice (some ⟨br, 0, none⟩) 4 4) ∧ w'.cell? ⟨bh, 2, none⟩ = some (.bool false) ∧ w'.cell? ⟨sb, 0, none⟩ = some (.int .i64 2)) w') := Lib.hid fun w' h => ⟨(HSS.out w' h).1.lat.p, (HSS.out w' h).1.lat.n, (HSS.out w' h).1.lat.h, (HSS.out w' h).1.lat.r, (HSS.out w' h).1.fh.c2, (HSS.out w' h).2.1⟩
  have HST : Hid (∀ w', Below w.heap.size w w' → (fun w' => w'.cell? ⟨bl, 0, none⟩ = some (.pointer (some ⟨l, 0, none⟩)) ∧ w'.cell? ⟨l, 0, none⟩ = some (.int .i64 2) ∧ w'.cell? ⟨l, 1, none⟩ = some (.slice (some ⟨bh, 0, none⟩) 4 4) ∧ w'.cell? ⟨l, 2, none⟩ = some (.slice (some ⟨br, 0, none⟩) 4 4) ∧ w'.cell? ⟨bh, 2, none⟩ = some (.bool false) ∧ w'.cell? ⟨sb, 0, none⟩ = some (.int .i64 2)) (w'.setCell ⟨br, 2, none⟩ (.bool false))) := Lib.hid fun w' h => by
    have s := (HSS.out w' h).1.ur2 false
    exact ⟨s.lat.p, s.lat.n, s.lat.h, s.lat.r, s.fh.c2, (World.cell?_setCell_far _ _ _ _ HNE.out.1).trans (HSS.out w' h).2.1⟩
  refine wp_region_held_drew (S := (fun w' => w'.cell? ⟨bl, 0, none⟩ = some (.pointer (some ⟨l, 0, none⟩)) ∧ w'.cell? ⟨l, 0, none⟩ = some (.int .i64 2) ∧ w'.cell? ⟨l, 1, none⟩ = some (.slice (some ⟨bh, 0, none⟩) 4 4) ∧ w'.cell? ⟨l, 2, none⟩ = some (.slice (some ⟨br, 0, none⟩) 4 4) ∧ w'.cell? ⟨bh, 2, none⟩ = some (.bool false) ∧ w'.cell? ⟨sb, 0, none⟩ = some (.int .i64 2))) (by kernel_rfl) (HSO.out _ (Below.refl _ _).drew) (fun hHeld => ?_)
  have hA := (Below.refl w.heap.size w).drew
  refine tk 0 ?_; refine tk 1 ?_; refine tk 2 ?_; refine tk 3 ?_; refine tk 4 ?_; refine tk 5 ?_; refine tk 6 ?_; refine tk 7 ?_; refine tk 8 ?_; refine tk 9 ?_; refine tk 10 ?_; refine tk 11 ?_; refine tk 12 ?_; refine sk 13 ?_; refine sk 14 ?_; refine sk 15 ?_; refine sk 16 ?_; refine sk 17 ?_; refine sk 18 ?_; refine sk 19 ?_; refine sk 20 ?_
  refine tk 21 ?_; refine tk 22 ?_
  have hc1 := (HSS.out _ hA).1.fr.c2
  have hc2 := (HSS.out _ hA).1.fr.fz 2
  refine wpAnyH_ready (rs := [23]) (by kernel_rfl) (by simp) ?_
  refine AllReadyH.cons (o := _) rfl (fun K1 hK1 => ?_) AllReadyH.nil
  try simp only [List.getElem_toArray, List.getElem_cons_succ, List.getElem_cons_zero]
  rw [if_pos (by rfl)]
  go_wp2_with fail
  refine hK1.out _ _ (HST.out _ (Below.refl _ _)) (fun hHeld => ?_)
  clear hK1 K1
  try simp only [Act.put, List.setIfInBounds_toArray, List.set_cons_zero, List.set_cons_succ, List.getElem_toArray, List.getElem_cons_succ, List.getElem_cons_zero]
  refine wpAnyH_done (by kernel_rfl) ?_ _
  exact hK _ _ _ _ _ _ _ _ _ _ _ _ _ _ _ _ _ _ _ _ _ _ _ _ ⟨Lib.hid (((HSS.out _ (Below.refl _ _)).1.ur2 false).below (Below.refl _ _).drew), Lib.hid ((World.cell?_setCell_far _ _ _ _ HNE.out.1).trans (HSS.out _ (Below.refl _ _)).2.1), Lib.hid (by simpa using (HSS.out _ (Below.refl _ _)).2.2)⟩
set_option maxRecDepth 100000 in
set_option maxHeartbeats 16000000 in
theorem ofr3 {bl l bh br bg bi sb : Nat} {W0 w : World} {u0 u1 u2 u3 u4 u5 u6 u7 u8 u10 u11 u12 u13 u14 u15 u16 u17 u19 u20 u21 u22 u23 u24 u25 u26 u27 u28 u29 u30 u31 u32 u33 u34 u35 u36 u37 u38 u39 u40 u41 u42 u43 u44 u45 u46 u47 u48 u49 u50 u51 u52 u53 u54 u55 u56 u57 u58 u59 u60 u61 u62 u63 u64 u65 u66 u67 u68 u69 u70 u71 u72 u73 u74 u75 u76 u77 u78 u79 u80 u81 u82 u83 u84 u85 u86 u87 u88 u89 u90 u91 u92 u93 u94 u95 u96 u97 u98 u99 u100 u101 u102 u103 u104 u105 u106 u107 u108 u109 u110 u111 u112 u113 u114 u115 u116 u117 u118 u119 u120 u121 u122 u123 u124 u125 u126 u127 u128 u129 u130 u131 u132 u133 u134 u135 u136 u137 u138 u139 u140 u141 u142 u143 u144 u145 u146 u147 u148 u149 u150 u151 : Value} {R : List Value} {K : Act → World → Prop} {Q0 : Exit → Act → World → Prop}
    (HS1 : Hid (LSt W0 w bl l bh br bg bi true true false true true true false false false false false false 6 (-10) 24 8)) (HSC : Hid (w.cell? ⟨sb, 0, none⟩ = some (.int .i64 3))) (HSL : Hid (sb < w.heap.size)) (HNE : Hid (br ≠ sb ∧ bg ≠ sb))
    (hK : ∀ (v129 v130 v131 v132 v133 v134 v135 v136 v137 v138 v139 v140 v141 v142 v143 v144 v145 v146 v147 v148 v149 v150 v151 : Value) (wx : World), (Hid (LSt W0 wx bl l bh br bg bi true true false true true true false true false false false false 6 (-10) 24 8) ∧ Hid (wx.cell? ⟨sb, 0, none⟩ = some (.int .i64 3)) ∧ Hid (sb < wx.heap.size)) → K ⟨List.toArray (u0 :: u1 :: u2 :: u3 :: u4 :: u5 :: u6 :: u7 :: u8 :: .pointer (some ⟨bl, 0, none⟩) :: u10 :: u11 :: u12 :: u13 :: u14 :: u15 :: u16 :: u17 :: .pointer (some ⟨sb, 0, none⟩) :: u19 :: u20 :: u21 :: u22 :: u23 :: u24 :: u25 :: u26 :: u27 :: u28 :: u29 :: u30 :: u31 :: u32 :: u33 :: u34 :: u35 :: u36 :: u37 :: u38 :: u39 :: u40 :: u41 :: u42 :: u43 :: u44 :: u45 :: u46 :: u47 :: u48 :: u49 :: u50 :: u51 :: u52 :: u53 :: u54 :: u55 :: u56 :: u57 :: u58 :: u59 :: u60 :: u61 :: u62 :: u63 :: u64 :: u65 :: u66 :: u67 :: u68 :: u69 :: u70 :: u71 :: u72 :: u73 :: u74 :: u75 :: u76 :: u77 :: u78 :: u79 :: u80 :: u81 :: u82 :: u83 :: u84 :: u85 :: u86 :: u87 :: u88 :: u89 :: u90 :: u91 :: u92 :: u93 :: u94 :: u95 :: u96 :: u97 :: u98 :: u99 :: u100 :: u101 :: u102 :: u103 :: u104 :: u105 :: u106 :: u107 :: u108 :: u109 :: u110 :: u111 :: u112 :: u113 :: u114 :: u115 :: u116 :: u117 :: u118 :: u119 :: u120 :: u121 :: u122 :: u123 :: u124 :: u125 :: u126 :: u127 :: u128 :: v129 :: v130 :: v131 :: v132 :: v133 :: v134 :: v135 :: v136 :: v137 :: v138 :: v139 :: v140 :: v141 :: v142 :: v143 :: v144 :: v145 :: v146 :: v147 :: v148 :: v149 :: v150 :: v151 :: R), []⟩ wx) :
    Code.wp Tryz.prog (ofCode 32) (Exit.then K Q0) ⟨List.toArray (u0 :: u1 :: u2 :: u3 :: u4 :: u5 :: u6 :: u7 :: u8 :: .pointer (some ⟨bl, 0, none⟩) :: u10 :: u11 :: u12 :: u13 :: u14 :: u15 :: u16 :: u17 :: .pointer (some ⟨sb, 0, none⟩) :: u19 :: u20 :: u21 :: u22 :: u23 :: u24 :: u25 :: u26 :: u27 :: u28 :: u29 :: u30 :: u31 :: u32 :: u33 :: u34 :: u35 :: u36 :: u37 :: u38 :: u39 :: u40 :: u41 :: u42 :: u43 :: u44 :: u45 :: u46 :: u47 :: u48 :: u49 :: u50 :: u51 :: u52 :: u53 :: u54 :: u55 :: u56 :: u57 :: u58 :: u59 :: u60 :: u61 :: u62 :: u63 :: u64 :: u65 :: u66 :: u67 :: u68 :: u69 :: u70 :: u71 :: u72 :: u73 :: u74 :: u75 :: u76 :: u77 :: u78 :: u79 :: u80 :: u81 :: u82 :: u83 :: u84 :: u85 :: u86 :: u87 :: u88 :: u89 :: u90 :: u91 :: u92 :: u93 :: u94 :: u95 :: u96 :: u97 :: u98 :: u99 :: u100 :: u101 :: u102 :: u103 :: u104 :: u105 :: u106 :: u107 :: u108 :: u109 :: u110 :: u111 :: u112 :: u113 :: u114 :: u115 :: u116 :: u117 :: u118 :: u119 :: u120 :: u121 :: u122 :: u123 :: u124 :: u125 :: u126 :: u127 :: u128 :: u129 :: u130 :: u131 :: u132 :: u133 :: u134 :: u135 :: u136 :: u137 :: u138 :: u139 :: u140 :: u141 :: u142 :: u143 :: u144 :: u145 :: u146 :: u147 :: u148 :: u149 :: u150 :: u151 :: R), []⟩ w := by
  conv => arg 2; whnf
  refine wp_region_noPanic ?_
  have HSS : Hid (∀ w', Below w.heap.size w w' → LSt W0 w' bl l bh br bg bi true true false true true true false false false false false false 6 (-10) 24 8 ∧ w'.cell? ⟨sb, 0, none⟩ = some (.int .i64 3) ∧ sb < w'.heap.size) := Lib.hid fun w' h => ⟨HS1.out.below h, (h.cell (p := ⟨sb, 0, none⟩) HSL.out).trans HSC.out, Nat.lt_of_lt_of_le HSL.out h.size⟩
  have HSO : Hid (∀ w', Below w.heap.size w w' → (fun w' => w'.cell? ⟨bl, 0, none⟩ = some (.pointer (some ⟨l, 0, none⟩)) ∧ w'.cell? ⟨l, 0, none⟩ = some (.int .i64 2) ∧ w'.cell? ⟨l, 1, none⟩ = some (.slice (some ⟨bh, 0, none⟩) 4 4) ∧ w'.cell? ⟨l, 2, none⟩ = some (.slice (some ⟨br, 0, none⟩) 4 4) ∧ w'.cell? ⟨bh, 3, none⟩ = some (.bool true) ∧ w'.cell? ⟨sb, 0, none⟩ = some (.int .i64 3)) w') := Lib.hid fun w' h => ⟨(HSS.out w' h).1.lat.p, (HSS.out w' h).1.lat.n, (HSS.out w' h).1.lat.h, (HSS.out w' h).1.lat.r, (HSS.out w' h).1.fh.c3, (HSS.out w' h).2.1⟩
  have HST : Hid (∀ w', Below w.heap.size w w' → (fun w' => w'.cell? ⟨bl, 0, none⟩ = some (.pointer (some ⟨l, 0, none⟩)) ∧ w'.cell? ⟨l, 0, none⟩ = some (.int .i64 2) ∧ w'.cell? ⟨l, 1, none⟩ = some (.slice (some ⟨bh, 0, none⟩) 4 4) ∧ w'.cell? ⟨l, 2, none⟩ = some (.slice (some ⟨br, 0, none⟩) 4 4) ∧ w'.cell? ⟨bh, 3, none⟩ = some (.bool true) ∧ w'.cell? ⟨sb, 0, none⟩ = some (.int .i64 3)) (w'.setCell ⟨br, 3, none⟩ (.bool true))) := Lib.hid fun w' h => by
    have s := (HSS.out w' h).1.ur3 true
    exact ⟨s.lat.p, s.lat.n, s.lat.h, s.lat.r, s.fh.c3, (World.cell?_setCell_far _ _ _ _ HNE.out.1).trans (HSS.out w' h).2.1⟩
  refine wp_region_held_drew (S := (fun w' => w'.cell? ⟨bl, 0, none⟩ = some (.pointer (some ⟨l, 0, none⟩)) ∧ w'.cell? ⟨l, 0, none⟩ = some (.int .i64 2) ∧ w'.cell? ⟨l, 1, none⟩ = some (.slice (some ⟨bh, 0, none⟩) 4 4) ∧ w'.cell? ⟨l, 2, none⟩ = some (.slice (some ⟨br, 0, none⟩) 4 4) ∧ w'.cell? ⟨bh, 3, none⟩ = some (.bool true) ∧ w'.cell? ⟨sb, 0, none⟩ = some (.int .i64 3))) (by kernel_rfl) (HSO.out _ (Below.refl _ _).drew) (fun hHeld => ?_)
  have hA := (Below.refl w.heap.size w).drew
  refine tk 0 ?_; refine tk 1 ?_; refine tk 2 ?_; refine tk 3 ?_; refine tk 4 ?_; refine tk 5 ?_; refine tk 6 ?_; refine tk 7 ?_; refine tk 8 ?_; refine tk 9 ?_; refine tk 10 ?_; refine tk 11 ?_; refine tk 12 ?_; refine tk 13 ?_; refine tk 14 ?_; refine tk 15 ?_; refine tk 16 ?_; refine tk 17 ?_; refine tk 18 ?_
  refine wpAnyH_ready (rs := [19]) (by kernel_rfl) (by simp) ?_
  refine AllReadyH.cons (o := _) rfl (fun K1 hK1 => ?_) AllReadyH.nil
  try simp only [List.getElem_toArray, List.getElem_cons_succ, List.getElem_cons_zero]
  go_simp
  have HCL := Lib.hid (any_re 3 true sb bl l br true true false false _ (HSS.out _ hA).2.2 (HSS.out _ hA).1.lat.tl.1 (HSS.out _ hA).1.lat.tl.2 (HSS.out _ hA).1.lat.n (HSS.out _ hA).2.1 (HSS.out _ hA).1.lat.p (HSS.out _ hA).1.lat.r (HSS.out _ hA).1.fr (.inr ⟨rfl, rfl⟩))
  (go_at_call 33; go_split_ands; (with_reducible refine HCL.out.mono ?_); rintro e wy ⟨rfl, hby⟩)
  go_wp2_with fail
  have hAy := hA.trans (hby.mono hA.size)
  clear hA HCL hby
  have hA := hAy
  clear hAy
  refine hK1.out _ _ (HSO.out _ hA) (fun hHeld => ?_)
  clear hK1 K1
  try simp only [Act.put, List.setIfInBounds_toArray, List.set_cons_zero, List.set_cons_succ, List.getElem_toArray, List.getElem_cons_succ, List.getElem_cons_zero]
  refine tk 20 ?_; refine tk 21 ?_; refine tk 22 ?_
  have hc1 := (HSS.out _ hA).1.fr.c3
  have hc2 := (HSS.out _ hA).1.fr.fz 3
  refine wpAnyH_ready (rs := [23]) (by kernel_rfl) (by simp) ?_
  refine AllReadyH.cons (o := _) rfl (fun K1 hK1 => ?_) AllReadyH.nil
  try simp only [List.getElem_toArray, List.getElem_cons_succ, List.getElem_cons_zero]
  rw [if_pos (by rfl)]
  go_wp2_with fail
  refine hK1.out _ _ (HST.out _ hA) (fun hHeld => ?_)
  clear hK1 K1
  try simp only [Act.put, List.setIfInBounds_toArray, List.set_cons_zero, List.set_cons_succ, List.getElem_toArray, List.getElem_cons_succ, List.getElem_cons_zero]
  refine wpAnyH_done (by kernel_rfl) ?_ _
  exact hK _ _ _ _ _ _ _ _ _ _ _ _ _ _ _ _ _ _ _ _ _ _ _ _ ⟨Lib.hid (((HSS.out _ hA).1.ur3 true)), Lib.hid ((World.cell?_setCell_far _ _ _ _ HNE.out.1).trans (HSS.out _ hA).2.1), Lib.hid (by simpa using (HSS.out _ hA).2.2)⟩
end Go.Proofs.YtfkmnneieglolaaGreatDoor
namespace Go.Proofs.YtfkmnneieglolaaGreatDoor
open Go.RowKit Go.Shelf
attribute [local go_sem] Oper.semAt_some
set_option maxRecDepth 100000 in
set_option maxHeartbeats 16000000 in
theorem of4 {bl l bh br bg bi : Nat} {W0 w0 : World} {u0 u1 u2 u3 u4 u5 u6 u7 u8 u10 u11 u12 u13 u14 u15 u16 u17 u18 u19 u20 u21 u22 u23 u24 u25 u26 u27 u28 u29 u30 u31 u32 u33 u34 u35 u36 u37 u38 u39 u40 u41 u42 u43 u44 u45 u46 u47 u48 u49 u50 u51 u52 u53 u54 u55 u56 u57 u58 u59 u60 u61 u62 u63 u64 u65 u66 u67 u68 u69 u70 u71 u72 u73 u74 u75 u76 u77 u78 u79 u80 u81 u82 u83 u84 u85 u86 u87 u88 u89 u90 u91 u92 u93 u94 u95 u96 u97 u98 u99 u100 u101 u102 u103 u104 u105 u106 u107 u108 u109 u110 u111 u112 u113 u114 u115 u116 u117 u118 u119 u120 u121 u122 u123 u124 u127 u128 u129 u130 u131 u132 u133 u134 u135 u136 u137 u138 u139 u140 u141 u142 u143 u144 u145 u146 u147 u148 u149 u150 u151 u152 u153 u154 u155 u156 u157 u158 u159 u160 u161 u162 u163 u164 u165 u166 u167 u168 u169 u170 u171 u172 u173 u174 u175 u176 u177 u178 u179 u180 u181 u182 u183 u184 u185 : Value} {Q : Exit → Act → World → Prop}
    (HS1 : Hid (LSt W0 w0 bl l bh br bg bi true true false true false false false false false false false false 6 (-10) 24 8))
    (hK : ∀ (v18 v126 v127 v128 v129 v130 v131 v132 v133 v134 v135 v136 v137 v138 v139 v140 v141 v142 v143 v144 v145 v146 v147 v148 v149 v150 v151 v152 : Value) (wx : World), (Hid (LSt W0 wx bl l bh br bg bi true true false true true true false true false false false false 6 (-10) 24 8)) → Q (.exit 7) ⟨List.toArray (u0 :: u1 :: u2 :: u3 :: u4 :: u5 :: u6 :: u7 :: u8 :: .pointer (some ⟨bl, 0, none⟩) :: u10 :: u11 :: u12 :: u13 :: u14 :: u15 :: u16 :: u17 :: v18 :: u19 :: u20 :: u21 :: u22 :: u23 :: u24 :: u25 :: u26 :: u27 :: u28 :: u29 :: u30 :: u31 :: u32 :: u33 :: u34 :: u35 :: u36 :: u37 :: u38 :: u39 :: u40 :: u41 :: u42 :: u43 :: u44 :: u45 :: u46 :: u47 :: u48 :: u49 :: u50 :: u51 :: u52 :: u53 :: u54 :: u55 :: u56 :: u57 :: u58 :: u59 :: u60 :: u61 :: u62 :: u63 :: u64 :: u65 :: u66 :: u67 :: u68 :: u69 :: u70 :: u71 :: u72 :: u73 :: u74 :: u75 :: u76 :: u77 :: u78 :: u79 :: u80 :: u81 :: u82 :: u83 :: u84 :: u85 :: u86 :: u87 :: u88 :: u89 :: u90 :: u91 :: u92 :: u93 :: u94 :: u95 :: u96 :: u97 :: u98 :: u99 :: u100 :: u101 :: u102 :: u103 :: u104 :: u105 :: u106 :: u107 :: u108 :: u109 :: u110 :: u111 :: u112 :: u113 :: u114 :: u115 :: u116 :: u117 :: u118 :: u119 :: u120 :: u121 :: u122 :: u123 :: u124 :: .int .i64 4 :: v126 :: v127 :: v128 :: v129 :: v130 :: v131 :: v132 :: v133 :: v134 :: v135 :: v136 :: v137 :: v138 :: v139 :: v140 :: v141 :: v142 :: v143 :: v144 :: v145 :: v146 :: v147 :: v148 :: v149 :: v150 :: v151 :: v152 :: u153 :: u154 :: u155 :: u156 :: u157 :: u158 :: u159 :: u160 :: u161 :: u162 :: u163 :: u164 :: u165 :: u166 :: u167 :: u168 :: u169 :: u170 :: u171 :: u172 :: u173 :: u174 :: u175 :: u176 :: u177 :: u178 :: u179 :: u180 :: u181 :: u182 :: u183 :: u184 :: u185 :: []), []⟩ wx) :
    Code.wp Tryz.prog (ofLoop 30) Q ⟨List.toArray (u0 :: u1 :: u2 :: u3 :: u4 :: u5 :: u6 :: u7 :: u8 :: .pointer (some ⟨bl, 0, none⟩) :: u10 :: u11 :: u12 :: u13 :: u14 :: u15 :: u16 :: u17 :: u18 :: u19 :: u20 :: u21 :: u22 :: u23 :: u24 :: u25 :: u26 :: u27 :: u28 :: u29 :: u30 :: u31 :: u32 :: u33 :: u34 :: u35 :: u36 :: u37 :: u38 :: u39 :: u40 :: u41 :: u42 :: u43 :: u44 :: u45 :: u46 :: u47 :: u48 :: u49 :: u50 :: u51 :: u52 :: u53 :: u54 :: u55 :: u56 :: u57 :: u58 :: u59 :: u60 :: u61 :: u62 :: u63 :: u64 :: u65 :: u66 :: u67 :: u68 :: u69 :: u70 :: u71 :: u72 :: u73 :: u74 :: u75 :: u76 :: u77 :: u78 :: u79 :: u80 :: u81 :: u82 :: u83 :: u84 :: u85 :: u86 :: u87 :: u88 :: u89 :: u90 :: u91 :: u92 :: u93 :: u94 :: u95 :: u96 :: u97 :: u98 :: u99 :: u100 :: u101 :: u102 :: u103 :: u104 :: u105 :: u106 :: u107 :: u108 :: u109 :: u110 :: u111 :: u112 :: u113 :: u114 :: u115 :: u116 :: u117 :: u118 :: u119 :: u120 :: u121 :: u122 :: u123 :: u124 :: .int .i64 4 :: .int .i64 0 :: u127 :: u128 :: u129 :: u130 :: u131 :: u132 :: u133 :: u134 :: u135 :: u136 :: u137 :: u138 :: u139 :: u140 :: u141 :: u142 :: u143 :: u144 :: u145 :: u146 :: u147 :: u148 :: u149 :: u150 :: u151 :: u152 :: u153 :: u154 :: u155 :: u156 :: u157 :: u158 :: u159 :: u160 :: u161 :: u162 :: u163 :: u164 :: u165 :: u166 :: u167 :: u168 :: u169 :: u170 :: u171 :: u172 :: u173 :: u174 :: u175 :: u176 :: u177 :: u178 :: u179 :: u180 :: u181 :: u182 :: u183 :: u184 :: u185 :: []), []⟩ w0 := by
  conv => arg 2; whnf
  refine wp_noPanic ?_
  refine wp_loop_rounds 5 ?_
  rw [rounds_succ]
  obtain ⟨⟨p0, p1, p2, p3, p4, ⟨p5, p6⟩, p7, p8⟩, ⟨a0, a1, a2, a3, a4, a5⟩, ⟨b0, b1, b2, b3, b4, b5⟩, ⟨c0, c1, c2, c3, c4, c5⟩, ⟨d0, d1, d2, d3, d4, d5⟩, hB, -, -⟩ := HS1.out
  have hBa : ∀ o, Below W0.heap.size W0 (w0.alloc o) := fun o => belA o hB
  go_upto_region 32 with (fail)
  replace HS1 := Lib.hid (HS1.out.alloc (.cells #[.int .i64 0] 3))
  have hsc : (w0.alloc (.cells #[.int .i64 0] 3)).cell? ⟨w0.heap.size, 0, none⟩ = some (.int .i64 0) := by simp
  have hsl : w0.heap.size < (w0.alloc (.cells #[.int .i64 0] 3)).heap.size := by simp
  have hne : ∀ q, q < w0.heap.size → q ≠ w0.heap.size := fun q h => by omega
  have hne := And.intro (hne br b5) (hne bg c5)
  clear p0 p1 p2 p3 p4 p5 p6 p7 p8 a0 a1 a2 a3 a4 a5 b0 b1 b2 b3 b4 b5 c0 c1 c2 c3 c4 c5 d0 d1 d2 d3 d4 d5 hB hBa
  obtain ⟨sb, hsb⟩ : ∃ b, w0.heap.size = b := ⟨_, rfl⟩
  rw [hsb] at hsc hsl hne ⊢
  generalize w0.alloc (.cells #[.int .i64 0] 3) = w1 at *
  clear hsb
  have HSC := Lib.hid hsc
  have HSL := Lib.hid hsl
  have HNE := Lib.hid hne
  clear hsc hsl hne
  refine wp_then ?_
  refine ofr0 HS1 HSC HSL HNE ?_
  intro v129 v130 v131 v132 v133 v134 v135 v136 v137 v138 v139 v140 v141 v142 v143 v144 v145 v146 v147 v148 v149 v150 v151 w2 hx
  obtain ⟨HSa, HSb, HSc⟩ := hx
  replace HS1 := HSa
  clear HSa HSC HSL
  clear HNE HSb HSc
  go_wp2_with fail
  rw [rounds_succ]
  obtain ⟨⟨p0, p1, p2, p3, p4, ⟨p5, p6⟩, p7, p8⟩, ⟨a0, a1, a2, a3, a4, a5⟩, ⟨b0, b1, b2, b3, b4, b5⟩, ⟨c0, c1, c2, c3, c4, c5⟩, ⟨d0, d1, d2, d3, d4, d5⟩, hB, -, -⟩ := HS1.out
  have hBa : ∀ o, Below W0.heap.size W0 (w2.alloc o) := fun o => belA o hB
  go_upto_region 32 with (fail)
  replace HS1 := Lib.hid (HS1.out.alloc (.cells #[.int .i64 1] 3))
  have hsc : (w2.alloc (.cells #[.int .i64 1] 3)).cell? ⟨w2.heap.size, 0, none⟩ = some (.int .i64 1) := by simp
  have hsl : w2.heap.size < (w2.alloc (.cells #[.int .i64 1] 3)).heap.size := by simp
  have hne : ∀ q, q < w2.heap.size → q ≠ w2.heap.size := fun q h => by omega
  have hne := And.intro (hne br b5) (hne bg c5)
  clear p0 p1 p2 p3 p4 p5 p6 p7 p8 a0 a1 a2 a3 a4 a5 b0 b1 b2 b3 b4 b5 c0 c1 c2 c3 c4 c5 d0 d1 d2 d3 d4 d5 hB hBa
  obtain ⟨sb, hsb⟩ : ∃ b, w2.heap.size = b := ⟨_, rfl⟩
  rw [hsb] at hsc hsl hne ⊢
  generalize w2.alloc (.cells #[.int .i64 1] 3) = w3 at *
  clear hsb
  have HSC := Lib.hid hsc
  have HSL := Lib.hid hsl
  have HNE := Lib.hid hne
  clear hsc hsl hne
  refine wp_then ?_
  refine ofr1 HS1 HSC HSL HNE ?_
  intro v129 v130 v131 v132 v133 v134 v135 v136 v137 v138 v139 v140 v141 v142 v143 v144 v145 v146 v147 v148 v149 v150 v151 w4 hx
  obtain ⟨HSa, HSb, HSc⟩ := hx
  replace HS1 := HSa
  clear HSa HSC HSL
  clear HNE HSb HSc
  go_wp2_with fail
  rw [rounds_succ]
  obtain ⟨⟨p0, p1, p2, p3, p4, ⟨p5, p6⟩, p7, p8⟩, ⟨a0, a1, a2, a3, a4, a5⟩, ⟨b0, b1, b2, b3, b4, b5⟩, ⟨c0, c1, c2, c3, c4, c5⟩, ⟨d0, d1, d2, d3, d4, d5⟩, hB, -, -⟩ := HS1.out
  have hBa : ∀ o, Below W0.heap.size W0 (w4.alloc o) := fun o => belA o hB
  go_upto_region 32 with (fail)
  replace HS1 := Lib.hid (HS1.out.alloc (.cells #[.int .i64 2] 3))
  have hsc : (w4.alloc (.cells #[.int .i64 2] 3)).cell? ⟨w4.heap.size, 0, none⟩ = some (.int .i64 2) := by simp
  have hsl : w4.heap.size < (w4.alloc (.cells #[.int .i64 2] 3)).heap.size := by simp
  have hne : ∀ q, q < w4.heap.size → q ≠ w4.heap.size := fun q h => by omega
  have hne := And.intro (hne br b5) (hne bg c5)
  clear p0 p1 p2 p3 p4 p5 p6 p7 p8 a0 a1 a2 a3 a4 a5 b0 b1 b2 b3 b4 b5 c0 c1 c2 c3 c4 c5 d0 d1 d2 d3 d4 d5 hB hBa
  obtain ⟨sb, hsb⟩ : ∃ b, w4.heap.size = b := ⟨_, rfl⟩
  rw [hsb] at hsc hsl hne ⊢
  generalize w4.alloc (.cells #[.int .i64 2] 3) = w5 at *
  clear hsb
  have HSC := Lib.hid hsc
  have HSL := Lib.hid hsl
  have HNE := Lib.hid hne
  clear hsc hsl hne
  refine wp_then ?_
  refine ofr2 HS1 HSC HSL HNE ?_
  intro v129 v130 v131 v132 v133 v134 v135 v136 v137 v138 v139 v140 v141 v142 v143 v144 v145 v146 v147 v148 v149 v150 v151 w6 hx
  obtain ⟨HSa, HSb, HSc⟩ := hx
  replace HS1 := HSa
  clear HSa HSC HSL
  clear HNE HSb HSc
  go_wp2_with fail
  rw [rounds_succ]
  obtain ⟨⟨p0, p1, p2, p3, p4, ⟨p5, p6⟩, p7, p8⟩, ⟨a0, a1, a2, a3, a4, a5⟩, ⟨b0, b1, b2, b3, b4, b5⟩, ⟨c0, c1, c2, c3, c4, c5⟩, ⟨d0, d1, d2, d3, d4, d5⟩, hB, -, -⟩ := HS1.out
  have hBa : ∀ o, Below W0.heap.size W0 (w6.alloc o) := fun o => belA o hB
  go_upto_region 32 with (fail)
  replace HS1 := Lib.hid (HS1.out.alloc (.cells #[.int .i64 3] 3))
  have hsc : (w6.alloc (.cells #[.int .i64 3] 3)).cell? ⟨w6.heap.size, 0, none⟩ = some (.int .i64 3) := by simp
  have hsl : w6.heap.size < (w6.alloc (.cells #[.int .i64 3] 3)).heap.size := by simp
  have hne : ∀ q, q < w6.heap.size → q ≠ w6.heap.size := fun q h => by omega
  have hne := And.intro (hne br b5) (hne bg c5)
  clear p0 p1 p2 p3 p4 p5 p6 p7 p8 a0 a1 a2 a3 a4 a5 b0 b1 b2 b3 b4 b5 c0 c1 c2 c3 c4 c5 d0 d1 d2 d3 d4 d5 hB hBa
  obtain ⟨sb, hsb⟩ : ∃ b, w6.heap.size = b := ⟨_, rfl⟩
  rw [hsb] at hsc hsl hne ⊢
  generalize w6.alloc (.cells #[.int .i64 3] 3) = w7 at *
  clear hsb
  have HSC := Lib.hid hsc
  have HSL := Lib.hid hsl
  have HNE := Lib.hid hne
  clear hsc hsl hne
  refine wp_then ?_
  refine ofr3 HS1 HSC HSL HNE ?_
  intro v129 v130 v131 v132 v133 v134 v135 v136 v137 v138 v139 v140 v141 v142 v143 v144 v145 v146 v147 v148 v149 v150 v151 w8 hx
  obtain ⟨HSa, HSb, HSc⟩ := hx
  replace HS1 := HSa
  clear HSa HSC HSL
  clear HNE HSb HSc
  go_wp2_with fail
  rw [rounds_succ]
  go_wp2_with fail
  exact hK _ _ _ _ _ _ _ _ _ _ _ _ _ _ _ _ _ _ _ _ _ _ _ _ _ _ _ _ _ HS1
end Go.Proofs.YtfkmnneieglolaaGreatDoor
namespace Go.Proofs.YtfkmnneieglolaaGreatDoor
open Go.RowKit Go.Shelf
attribute [local go_sem] Oper.semAt_some
set_option maxRecDepth 100000 in
set_option maxHeartbeats 16000000 in
theorem ofg3 {bl l bh br bg bi sb : Nat} {W0 w : World} {u0 u1 u2 u3 u4 u5 u6 u7 u8 u10 u11 u12 u13 u14 u15 u16 u17 u18 u20 u21 u22 u23 u24 u25 u26 u27 u28 u29 u30 u31 u32 u33 u34 u35 u36 u37 u38 u39 u40 u41 u42 u43 u44 u45 u46 u47 u48 u49 u50 u51 u52 u53 u54 u55 u56 u57 u58 u59 u60 u61 u62 u63 u64 u65 u66 u67 u68 u69 u70 u71 u72 u73 u74 u75 u76 u77 u78 u79 u80 u81 u82 u83 u84 u85 u86 u87 u88 u89 u90 u91 u92 u93 u94 u95 u96 u97 u98 u99 u100 u101 u102 u103 u104 u105 u106 u107 u108 u109 u110 u111 u112 u113 u114 u115 u116 u117 u118 u119 u120 u121 u122 u123 u124 u125 u126 u127 u128 u129 u130 u131 u132 u133 u134 u135 u136 u137 u138 u139 u140 u141 u142 u143 u144 u145 u146 u147 u148 u149 u150 u151 u152 u153 u154 u155 u156 u157 u158 u159 u160 u161 u162 u163 u164 u165 u166 u167 u168 u169 u170 u171 u172 u173 u174 u175 u176 u177 u178 u179 u180 u181 u182 u183 : Value} {R : List Value} {K : Act → World → Prop} {Q0 : Exit → Act → World → Prop}
    (HS1 : Hid (LSt W0 w bl l bh br bg bi true true false true true true false true false false false false 6 (-10) 24 8)) (HSC : Hid (w.cell? ⟨sb, 0, none⟩ = some (.int .i64 3))) (HSL : Hid (sb < w.heap.size)) (HNE : Hid (br ≠ sb ∧ bg ≠ sb))
    (hK : ∀ (v159 v160 v161 v162 v163 v164 v165 v166 v167 v168 v169 v170 v171 v172 v173 v174 v175 v176 v177 v178 v179 v180 v181 v182 v183 : Value) (wx : World), (Hid (LSt W0 wx bl l bh br bg bi true true false true true true false true false false false true 6 (-10) 24 8) ∧ Hid (wx.cell? ⟨sb, 0, none⟩ = some (.int .i64 3)) ∧ Hid (sb < wx.heap.size)) → K ⟨List.toArray (u0 :: u1 :: u2 :: u3 :: u4 :: u5 :: u6 :: u7 :: u8 :: .pointer (some ⟨bl, 0, none⟩) :: u10 :: u11 :: u12 :: u13 :: u14 :: u15 :: u16 :: u17 :: u18 :: .pointer (some ⟨sb, 0, none⟩) :: u20 :: u21 :: u22 :: u23 :: u24 :: u25 :: u26 :: u27 :: u28 :: u29 :: u30 :: u31 :: u32 :: u33 :: u34 :: u35 :: u36 :: u37 :: u38 :: u39 :: u40 :: u41 :: u42 :: u43 :: u44 :: u45 :: u46 :: u47 :: u48 :: u49 :: u50 :: u51 :: u52 :: u53 :: u54 :: u55 :: u56 :: u57 :: u58 :: u59 :: u60 :: u61 :: u62 :: u63 :: u64 :: u65 :: u66 :: u67 :: u68 :: u69 :: u70 :: u71 :: u72 :: u73 :: u74 :: u75 :: u76 :: u77 :: u78 :: u79 :: u80 :: u81 :: u82 :: u83 :: u84 :: u85 :: u86 :: u87 :: u88 :: u89 :: u90 :: u91 :: u92 :: u93 :: u94 :: u95 :: u96 :: u97 :: u98 :: u99 :: u100 :: u101 :: u102 :: u103 :: u104 :: u105 :: u106 :: u107 :: u108 :: u109 :: u110 :: u111 :: u112 :: u113 :: u114 :: u115 :: u116 :: u117 :: u118 :: u119 :: u120 :: u121 :: u122 :: u123 :: u124 :: u125 :: u126 :: u127 :: u128 :: u129 :: u130 :: u131 :: u132 :: u133 :: u134 :: u135 :: u136 :: u137 :: u138 :: u139 :: u140 :: u141 :: u142 :: u143 :: u144 :: u145 :: u146 :: u147 :: u148 :: u149 :: u150 :: u151 :: u152 :: u153 :: u154 :: u155 :: u156 :: u157 :: u158 :: v159 :: v160 :: v161 :: v162 :: v163 :: v164 :: v165 :: v166 :: v167 :: v168 :: v169 :: v170 :: v171 :: v172 :: v173 :: v174 :: v175 :: v176 :: v177 :: v178 :: v179 :: v180 :: v181 :: v182 :: v183 :: R), []⟩ wx) :
    Code.wp Tryz.prog (ofCode 37) (Exit.then K Q0) ⟨List.toArray (u0 :: u1 :: u2 :: u3 :: u4 :: u5 :: u6 :: u7 :: u8 :: .pointer (some ⟨bl, 0, none⟩) :: u10 :: u11 :: u12 :: u13 :: u14 :: u15 :: u16 :: u17 :: u18 :: .pointer (some ⟨sb, 0, none⟩) :: u20 :: u21 :: u22 :: u23 :: u24 :: u25 :: u26 :: u27 :: u28 :: u29 :: u30 :: u31 :: u32 :: u33 :: u34 :: u35 :: u36 :: u37 :: u38 :: u39 :: u40 :: u41 :: u42 :: u43 :: u44 :: u45 :: u46 :: u47 :: u48 :: u49 :: u50 :: u51 :: u52 :: u53 :: u54 :: u55 :: u56 :: u57 :: u58 :: u59 :: u60 :: u61 :: u62 :: u63 :: u64 :: u65 :: u66 :: u67 :: u68 :: u69 :: u70 :: u71 :: u72 :: u73 :: u74 :: u75 :: u76 :: u77 :: u78 :: u79 :: u80 :: u81 :: u82 :: u83 :: u84 :: u85 :: u86 :: u87 :: u88 :: u89 :: u90 :: u91 :: u92 :: u93 :: u94 :: u95 :: u96 :: u97 :: u98 :: u99 :: u100 :: u101 :: u102 :: u103 :: u104 :: u105 :: u106 :: u107 :: u108 :: u109 :: u110 :: u111 :: u112 :: u113 :: u114 :: u115 :: u116 :: u117 :: u118 :: u119 :: u120 :: u121 :: u122 :: u123 :: u124 :: u125 :: u126 :: u127 :: u128 :: u129 :: u130 :: u131 :: u132 :: u133 :: u134 :: u135 :: u136 :: u137 :: u138 :: u139 :: u140 :: u141 :: u142 :: u143 :: u144 :: u145 :: u146 :: u147 :: u148 :: u149 :: u150 :: u151 :: u152 :: u153 :: u154 :: u155 :: u156 :: u157 :: u158 :: u159 :: u160 :: u161 :: u162 :: u163 :: u164 :: u165 :: u166 :: u167 :: u168 :: u169 :: u170 :: u171 :: u172 :: u173 :: u174 :: u175 :: u176 :: u177 :: u178 :: u179 :: u180 :: u181 :: u182 :: u183 :: R), []⟩ w := by
  conv => arg 2; whnf
  refine wp_region_noPanic ?_
  have HSS : Hid (∀ w', Below w.heap.size w w' → LSt W0 w' bl l bh br bg bi true true false true true true false true false false false false 6 (-10) 24 8 ∧ w'.cell? ⟨sb, 0, none⟩ = some (.int .i64 3) ∧ sb < w'.heap.size) := Lib.hid fun w' h => ⟨HS1.out.below h, (h.cell (p := ⟨sb, 0, none⟩) HSL.out).trans HSC.out, Nat.lt_of_lt_of_le HSL.out h.size⟩
  have HSO : Hid (∀ w', Below w.heap.size w w' → (fun w' => w'.cell? ⟨bl, 0, none⟩ = some (.pointer (some ⟨l, 0, none⟩)) ∧ w'.cell? ⟨l, 0, none⟩ = some (.int .i64 2) ∧ w'.cell? ⟨l, 1, none⟩ = some (.slice (some ⟨bh, 0, none⟩) 4 4) ∧ w'.cell? ⟨l, 3, none⟩ = some (.slice (some ⟨bg, 0, none⟩) 4 4) ∧ w'.cell? ⟨bh, 3, none⟩ = some (.bool true) ∧ w'.cell? ⟨sb, 0, none⟩ = some (.int .i64 3)) w') := Lib.hid fun w' h => ⟨(HSS.out w' h).1.lat.p, (HSS.out w' h).1.lat.n, (HSS.out w' h).1.lat.h, (HSS.out w' h).1.lat.g, (HSS.out w' h).1.fh.c3, (HSS.out w' h).2.1⟩
  have HST : Hid (∀ w', Below w.heap.size w w' → (fun w' => w'.cell? ⟨bl, 0, none⟩ = some (.pointer (some ⟨l, 0, none⟩)) ∧ w'.cell? ⟨l, 0, none⟩ = some (.int .i64 2) ∧ w'.cell? ⟨l, 1, none⟩ = some (.slice (some ⟨bh, 0, none⟩) 4 4) ∧ w'.cell? ⟨l, 3, none⟩ = some (.slice (some ⟨bg, 0, none⟩) 4 4) ∧ w'.cell? ⟨bh, 3, none⟩ = some (.bool true) ∧ w'.cell? ⟨sb, 0, none⟩ = some (.int .i64 3)) (w'.setCell ⟨bg, 3, none⟩ (.bool true))) := Lib.hid fun w' h => by
    have s := (HSS.out w' h).1.ug3 true
    exact ⟨s.lat.p, s.lat.n, s.lat.h, s.lat.g, s.fh.c3, (World.cell?_setCell_far _ _ _ _ HNE.out.2).trans (HSS.out w' h).2.1⟩
  refine wp_region_held_drew (S := (fun w' => w'.cell? ⟨bl, 0, none⟩ = some (.pointer (some ⟨l, 0, none⟩)) ∧ w'.cell? ⟨l, 0, none⟩ = some (.int .i64 2) ∧ w'.cell? ⟨l, 1, none⟩ = some (.slice (some ⟨bh, 0, none⟩) 4 4) ∧ w'.cell? ⟨l, 3, none⟩ = some (.slice (some ⟨bg, 0, none⟩) 4 4) ∧ w'.cell? ⟨bh, 3, none⟩ = some (.bool true) ∧ w'.cell? ⟨sb, 0, none⟩ = some (.int .i64 3))) (by kernel_rfl) (HSO.out _ (Below.refl _ _).drew) (fun hHeld => ?_)
  have hA := (Below.refl w.heap.size w).drew
  refine tk 0 ?_; refine tk 1 ?_; refine tk 2 ?_; refine tk 3 ?_; refine tk 4 ?_; refine tk 5 ?_; refine tk 6 ?_; refine tk 7 ?_; refine tk 8 ?_; refine tk 9 ?_; refine tk 10 ?_; refine tk 11 ?_; refine tk 12 ?_; refine tk 13 ?_; refine tk 14 ?_
  refine wpAnyH_ready (rs := [15]) (by kernel_rfl) (by simp) ?_
  refine AllReadyH.cons (o := _) rfl (fun K1 hK1 => ?_) AllReadyH.nil
  try simp only [List.getElem_toArray, List.getElem_cons_succ, List.getElem_cons_zero]
  go_simp
  (go_at_call 32; go_split_ands; (with_reducible refine (whole_any l _ (HSS.out _ hA).1.lat.n).mono ?_); rintro e wq ⟨rfl, hq⟩; subst hq)
  go_wp2_with fail
  refine hK1.out _ _ (HSO.out _ hA) (fun hHeld => ?_)
  clear hK1 K1
  try simp only [Act.put, List.setIfInBounds_toArray, List.set_cons_zero, List.set_cons_succ, List.getElem_toArray, List.getElem_cons_succ, List.getElem_cons_zero]
  refine tk 16 ?_; refine tk 17 ?_; refine sk 18 ?_; refine sk 19 ?_; refine sk 20 ?_; refine sk 21 ?_; refine tk 22 ?_
  refine tk 23 ?_; refine tk 24 ?_
  have hc1 := (HSS.out _ hA).1.fg.c3
  have hc2 := (HSS.out _ hA).1.fg.fz 3
  refine wpAnyH_ready (rs := [25]) (by kernel_rfl) (by simp) ?_
  refine AllReadyH.cons (o := _) rfl (fun K1 hK1 => ?_) AllReadyH.nil
  try simp only [List.getElem_toArray, List.getElem_cons_succ, List.getElem_cons_zero]
  rw [if_pos (by rfl)]
  go_wp2_with fail
  refine hK1.out _ _ (HST.out _ (Below.refl _ _)) (fun hHeld => ?_)
  clear hK1 K1
  try simp only [Act.put, List.setIfInBounds_toArray, List.set_cons_zero, List.set_cons_succ, List.getElem_toArray, List.getElem_cons_succ, List.getElem_cons_zero]
  refine wpAnyH_done (by kernel_rfl) ?_ _
  exact hK _ _ _ _ _ _ _ _ _ _ _ _ _ _ _ _ _ _ _ _ _ _ _ _ _ _ ⟨Lib.hid (((HSS.out _ (Below.refl _ _)).1.ug3 true).below (Below.refl _ _).drew), Lib.hid ((World.cell?_setCell_far _ _ _ _ HNE.out.2).trans (HSS.out _ (Below.refl _ _)).2.1), Lib.hid (by simpa using (HSS.out _ (Below.refl _ _)).2.2)⟩
set_option maxRecDepth 100000 in
set_option maxHeartbeats 16000000 in
theorem ofg2 {bl l bh br bg bi sb : Nat} {W0 w : World} {u0 u1 u2 u3 u4 u5 u6 u7 u8 u10 u11 u12 u13 u14 u15 u16 u17 u18 u20 u21 u22 u23 u24 u25 u26 u27 u28 u29 u30 u31 u32 u33 u34 u35 u36 u37 u38 u39 u40 u41 u42 u43 u44 u45 u46 u47 u48 u49 u50 u51 u52 u53 u54 u55 u56 u57 u58 u59 u60 u61 u62 u63 u64 u65 u66 u67 u68 u69 u70 u71 u72 u73 u74 u75 u76 u77 u78 u79 u80 u81 u82 u83 u84 u85 u86 u87 u88 u89 u90 u91 u92 u93 u94 u95 u96 u97 u98 u99 u100 u101 u102 u103 u104 u105 u106 u107 u108 u109 u110 u111 u112 u113 u114 u115 u116 u117 u118 u119 u120 u121 u122 u123 u124 u125 u126 u127 u128 u129 u130 u131 u132 u133 u134 u135 u136 u137 u138 u139 u140 u141 u142 u143 u144 u145 u146 u147 u148 u149 u150 u151 u152 u153 u154 u155 u156 u157 u158 u159 u160 u161 u162 u163 u164 u165 u166 u167 u168 u169 u170 u171 u172 u173 u174 u175 u176 u177 u178 u179 u180 u181 u182 u183 : Value} {R : List Value} {K : Act → World → Prop} {Q0 : Exit → Act → World → Prop}
    (HS1 : Hid (LSt W0 w bl l bh br bg bi true true false true true true false true false false false true 6 (-10) 24 8)) (HSC : Hid (w.cell? ⟨sb, 0, none⟩ = some (.int .i64 2))) (HSL : Hid (sb < w.heap.size)) (HNE : Hid (br ≠ sb ∧ bg ≠ sb))
    (hK : ∀ (v159 v160 v161 v162 v163 v164 v165 v166 v167 v168 v169 v170 v171 v172 v173 v174 v175 v176 v177 v178 v179 v180 v181 v182 v183 : Value) (wx : World), (Hid (LSt W0 wx bl l bh br bg bi true true false true true true false true false false false true 6 (-10) 24 8) ∧ Hid (wx.cell? ⟨sb, 0, none⟩ = some (.int .i64 2)) ∧ Hid (sb < wx.heap.size)) → K ⟨List.toArray (u0 :: u1 :: u2 :: u3 :: u4 :: u5 :: u6 :: u7 :: u8 :: .pointer (some ⟨bl, 0, none⟩) :: u10 :: u11 :: u12 :: u13 :: u14 :: u15 :: u16 :: u17 :: u18 :: .pointer (some ⟨sb, 0, none⟩) :: u20 :: u21 :: u22 :: u23 :: u24 :: u25 :: u26 :: u27 :: u28 :: u29 :: u30 :: u31 :: u32 :: u33 :: u34 :: u35 :: u36 :: u37 :: u38 :: u39 :: u40 :: u41 :: u42 :: u43 :: u44 :: u45 :: u46 :: u47 :: u48 :: u49 :: u50 :: u51 :: u52 :: u53 :: u54 :: u55 :: u56 :: u57 :: u58 :: u59 :: u60 :: u61 :: u62 :: u63 :: u64 :: u65 :: u66 :: u67 :: u68 :: u69 :: u70 :: u71 :: u72 :: u73 :: u74 :: u75 :: u76 :: u77 :: u78 :: u79 :: u80 :: u81 :: u82 :: u83 :: u84 :: u85 :: u86 :: u87 :: u88 :: u89 :: u90 :: u91 :: u92 :: u93 :: u94 :: u95 :: u96 :: u97 :: u98 :: u99 :: u100 :: u101 :: u102 :: u103 :: u104 :: u105 :: u106 :: u107 :: u108 :: u109 :: u110 :: u111 :: u112 :: u113 :: u114 :: u115 :: u116 :: u117 :: u118 :: u119 :: u120 :: u121 :: u122 :: u123 :: u124 :: u125 :: u126 :: u127 :: u128 :: u129 :: u130 :: u131 :: u132 :: u133 :: u134 :: u135 :: u136 :: u137 :: u138 :: u139 :: u140 :: u141 :: u142 :: u143 :: u144 :: u145 :: u146 :: u147 :: u148 :: u149 :: u150 :: u151 :: u152 :: u153 :: u154 :: u155 :: u156 :: u157 :: u158 :: v159 :: v160 :: v161 :: v162 :: v163 :: v164 :: v165 :: v166 :: v167 :: v168 :: v169 :: v170 :: v171 :: v172 :: v173 :: v174 :: v175 :: v176 :: v177 :: v178 :: v179 :: v180 :: v181 :: v182 :: v183 :: R), []⟩ wx) :
    Code.wp Tryz.prog (ofCode 37) (Exit.then K Q0) ⟨List.toArray (u0 :: u1 :: u2 :: u3 :: u4 :: u5 :: u6 :: u7 :: u8 :: .pointer (some ⟨bl, 0, none⟩) :: u10 :: u11 :: u12 :: u13 :: u14 :: u15 :: u16 :: u17 :: u18 :: .pointer (some ⟨sb, 0, none⟩) :: u20 :: u21 :: u22 :: u23 :: u24 :: u25 :: u26 :: u27 :: u28 :: u29 :: u30 :: u31 :: u32 :: u33 :: u34 :: u35 :: u36 :: u37 :: u38 :: u39 :: u40 :: u41 :: u42 :: u43 :: u44 :: u45 :: u46 :: u47 :: u48 :: u49 :: u50 :: u51 :: u52 :: u53 :: u54 :: u55 :: u56 :: u57 :: u58 :: u59 :: u60 :: u61 :: u62 :: u63 :: u64 :: u65 :: u66 :: u67 :: u68 :: u69 :: u70 :: u71 :: u72 :: u73 :: u74 :: u75 :: u76 :: u77 :: u78 :: u79 :: u80 :: u81 :: u82 :: u83 :: u84 :: u85 :: u86 :: u87 :: u88 :: u89 :: u90 :: u91 :: u92 :: u93 :: u94 :: u95 :: u96 :: u97 :: u98 :: u99 :: u100 :: u101 :: u102 :: u103 :: u104 :: u105 :: u106 :: u107 :: u108 :: u109 :: u110 :: u111 :: u112 :: u113 :: u114 :: u115 :: u116 :: u117 :: u118 :: u119 :: u120 :: u121 :: u122 :: u123 :: u124 :: u125 :: u126 :: u127 :: u128 :: u129 :: u130 :: u131 :: u132 :: u133 :: u134 :: u135 :: u136 :: u137 :: u138 :: u139 :: u140 :: u141 :: u142 :: u143 :: u144 :: u145 :: u146 :: u147 :: u148 :: u149 :: u150 :: u151 :: u152 :: u153 :: u154 :: u155 :: u156 :: u157 :: u158 :: u159 :: u160 :: u161 :: u162 :: u163 :: u164 :: u165 :: u166 :: u167 :: u168 :: u169 :: u170 :: u171 :: u172 :: u173 :: u174 :: u175 :: u176 :: u177 :: u178 :: u179 :: u180 :: u181 :: u182 :: u183 :: R), []⟩ w := by
  conv => arg 2; whnf
  refine wp_region_noPanic ?_
  have HSS : Hid (∀ w', Below w.heap.size w w' → LSt W0 w' bl l bh br bg bi true true false true true true false true false false false true 6 (-10) 24 8 ∧ w'.cell? ⟨sb, 0, none⟩ = some (.int .i64 2) ∧ sb < w'.heap.size) := Lib.hid fun w' h => ⟨HS1.out.below h, (h.cell (p := ⟨sb, 0, none⟩) HSL.out).trans HSC.out, Nat.lt_of_lt_of_le HSL.out h.size⟩
  have HSO : Hid (∀ w', Below w.heap.size w w' → (fun w' => w'.cell? ⟨bl, 0, none⟩ = some (.pointer (some ⟨l, 0, none⟩)) ∧ w'.cell? ⟨l, 0, none⟩ = some (.int .i64 2) ∧ w'.cell? ⟨l, 1, none⟩ = some (.slice (some ⟨bh, 0, none⟩) 4 4) ∧ w'.cell? ⟨l, 3, none⟩ = some (.slice (some ⟨bg, 0, none⟩) 4 4) ∧ w'.cell? ⟨bh, 2, none⟩ = some (.bool false) ∧ w'.cell? ⟨sb, 0, none⟩ = some (.int .i64 2)) w') := Lib.hid fun w' h => ⟨(HSS.out w' h).1.lat.p, (HSS.out w' h).1.lat.n, (HSS.out w' h).1.lat.h, (HSS.out w' h).1.lat.g, (HSS.out w' h).1.fh.c2, (HSS.out w' h).2.1⟩
  have HST : Hid (∀ w', Below w.heap.size w w' → (fun w' => w'.cell? ⟨bl, 0, none⟩ = some (.pointer (some ⟨l, 0, none⟩)) ∧ w'.cell? ⟨l, 0, none⟩ = some (.int .i64 2) ∧ w'.cell? ⟨l, 1, none⟩ = some (.slice (some ⟨bh, 0, none⟩) 4 4) ∧ w'.cell? ⟨l, 3, none⟩ = some (.slice (some ⟨bg, 0, none⟩) 4 4) ∧ w'.cell? ⟨bh, 2, none⟩ = some (.bool false) ∧ w'.cell? ⟨sb, 0, none⟩ = some (.int .i64 2)) (w'.setCell ⟨bg, 2, none⟩ (.bool false))) := Lib.hid fun w' h => by
    have s := (HSS.out w' h).1.ug2 false
    exact ⟨s.lat.p, s.lat.n, s.lat.h, s.lat.g, s.fh.c2, (World.cell?_setCell_far _ _ _ _ HNE.out.2).trans (HSS.out w' h).2.1⟩
  refine wp_region_held_drew (S := (fun w' => w'.cell? ⟨bl, 0, none⟩ = some (.pointer (some ⟨l, 0, none⟩)) ∧ w'.cell? ⟨l, 0, none⟩ = some (.int .i64 2) ∧ w'.cell? ⟨l, 1, none⟩ = some (.slice (some ⟨bh, 0, none⟩) 4 4) ∧ w'.cell? ⟨l, 3, none⟩ = some (.slice (some ⟨bg, 0, none⟩) 4 4) ∧ w'.cell? ⟨bh, 2, none⟩ = some (.bool false) ∧ w'.cell? ⟨sb, 0, none⟩ = some (.int .i64 2))) (by kernel_rfl) (HSO.out _ (Below.refl _ _).drew) (fun hHeld => ?_)
  have hA := (Below.refl w.heap.size w).drew
  refine tk 0 ?_; refine tk 1 ?_; refine tk 2 ?_; refine tk 3 ?_; refine tk 4 ?_; refine tk 5 ?_; refine tk 6 ?_; refine tk 7 ?_; refine tk 8 ?_; refine tk 9 ?_; refine tk 10 ?_; refine tk 11 ?_; refine tk 12 ?_; refine sk 13 ?_; refine sk 14 ?_; refine sk 15 ?_; refine sk 16 ?_; refine sk 17 ?_; refine sk 18 ?_; refine sk 19 ?_; refine sk 20 ?_; refine sk 21 ?_; refine sk 22 ?_
  refine tk 23 ?_; refine tk 24 ?_
  have hc1 := (HSS.out _ hA).1.fg.c2
  have hc2 := (HSS.out _ hA).1.fg.fz 2
  refine wpAnyH_ready (rs := [25]) (by kernel_rfl) (by simp) ?_
  refine AllReadyH.cons (o := _) rfl (fun K1 hK1 => ?_) AllReadyH.nil
  try simp only [List.getElem_toArray, List.getElem_cons_succ, List.getElem_cons_zero]
  rw [if_pos (by rfl)]
  go_wp2_with fail
  refine hK1.out _ _ (HST.out _ (Below.refl _ _)) (fun hHeld => ?_)
  clear hK1 K1
  try simp only [Act.put, List.setIfInBounds_toArray, List.set_cons_zero, List.set_cons_succ, List.getElem_toArray, List.getElem_cons_succ, List.getElem_cons_zero]
  refine wpAnyH_done (by kernel_rfl) ?_ _
  exact hK _ _ _ _ _ _ _ _ _ _ _ _ _ _ _ _ _ _ _ _ _ _ _ _ _ _ ⟨Lib.hid (((HSS.out _ (Below.refl _ _)).1.ug2 false).below (Below.refl _ _).drew), Lib.hid ((World.cell?_setCell_far _ _ _ _ HNE.out.2).trans (HSS.out _ (Below.refl _ _)).2.1), Lib.hid (by simpa using (HSS.out _ (Below.refl _ _)).2.2)⟩
set_option maxRecDepth 100000 in
set_option maxHeartbeats 16000000 in
theorem ofg1 {bl l bh br bg bi sb : Nat} {W0 w : World} {u0 u1 u2 u3 u4 u5 u6 u7 u8 u10 u11 u12 u13 u14 u15 u16 u17 u18 u20 u21 u22 u23 u24 u25 u26 u27 u28 u29 u30 u31 u32 u33 u34 u35 u36 u37 u38 u39 u40 u41 u42 u43 u44 u45 u46 u47 u48 u49 u50 u51 u52 u53 u54 u55 u56 u57 u58 u59 u60 u61 u62 u63 u64 u65 u66 u67 u68 u69 u70 u71 u72 u73 u74 u75 u76 u77 u78 u79 u80 u81 u82 u83 u84 u85 u86 u87 u88 u89 u90 u91 u92 u93 u94 u95 u96 u97 u98 u99 u100 u101 u102 u103 u104 u105 u106 u107 u108 u109 u110 u111 u112 u113 u114 u115 u116 u117 u118 u119 u120 u121 u122 u123 u124 u125 u126 u127 u128 u129 u130 u131 u132 u133 u134 u135 u136 u137 u138 u139 u140 u141 u142 u143 u144 u145 u146 u147 u148 u149 u150 u151 u152 u153 u154 u155 u156 u157 u158 u159 u160 u161 u162 u163 u164 u165 u166 u167 u168 u169 u170 u171 u172 u173 u174 u175 u176 u177 u178 u179 u180 u181 u182 u183 : Value} {R : List Value} {K : Act → World → Prop} {Q0 : Exit → Act → World → Prop}
    (HS1 : Hid (LSt W0 w bl l bh br bg bi true true false true true true false true false false false true 6 (-10) 24 8)) (HSC : Hid (w.cell? ⟨sb, 0, none⟩ = some (.int .i64 1))) (HSL : Hid (sb < w.heap.size)) (HNE : Hid (br ≠ sb ∧ bg ≠ sb))
    (hK : ∀ (v159 v160 v161 v162 v163 v164 v165 v166 v167 v168 v169 v170 v171 v172 v173 v174 v175 v176 v177 v178 v179 v180 v181 v182 v183 : Value) (wx : World), (Hid (LSt W0 wx bl l bh br bg bi true true false true true true false true false true false true 6 (-10) 24 8) ∧ Hid (wx.cell? ⟨sb, 0, none⟩ = some (.int .i64 1)) ∧ Hid (sb < wx.heap.size)) → K ⟨List.toArray (u0 :: u1 :: u2 :: u3 :: u4 :: u5 :: u6 :: u7 :: u8 :: .pointer (some ⟨bl, 0, none⟩) :: u10 :: u11 :: u12 :: u13 :: u14 :: u15 :: u16 :: u17 :: u18 :: .pointer (some ⟨sb, 0, none⟩) :: u20 :: u21 :: u22 :: u23 :: u24 :: u25 :: u26 :: u27 :: u28 :: u29 :: u30 :: u31 :: u32 :: u33 :: u34 :: u35 :: u36 :: u37 :: u38 :: u39 :: u40 :: u41 :: u42 :: u43 :: u44 :: u45 :: u46 :: u47 :: u48 :: u49 :: u50 :: u51 :: u52 :: u53 :: u54 :: u55 :: u56 :: u57 :: u58 :: u59 :: u60 :: u61 :: u62 :: u63 :: u64 :: u65 :: u66 :: u67 :: u68 :: u69 :: u70 :: u71 :: u72 :: u73 :: u74 :: u75 :: u76 :: u77 :: u78 :: u79 :: u80 :: u81 :: u82 :: u83 :: u84 :: u85 :: u86 :: u87 :: u88 :: u89 :: u90 :: u91 :: u92 :: u93 :: u94 :: u95 :: u96 :: u97 :: u98 :: u99 :: u100 :: u101 :: u102 :: u103 :: u104 :: u105 :: u106 :: u107 :: u108 :: u109 :: u110 :: u111 :: u112 :: u113 :: u114 :: u115 :: u116 :: u117 :: u118 :: u119 :: u120 :: u121 :: u122 :: u123 :: u124 :: u125 :: u126 :: u127 :: u128 :: u129 :: u130 :: u131 :: u132 :: u133 :: u134 :: u135 :: u136 :: u137 :: u138 :: u139 :: u140 :: u141 :: u142 :: u143 :: u144 :: u145 :: u146 :: u147 :: u148 :: u149 :: u150 :: u151 :: u152 :: u153 :: u154 :: u155 :: u156 :: u157 :: u158 :: v159 :: v160 :: v161 :: v162 :: v163 :: v164 :: v165 :: v166 :: v167 :: v168 :: v169 :: v170 :: v171 :: v172 :: v173 :: v174 :: v175 :: v176 :: v177 :: v178 :: v179 :: v180 :: v181 :: v182 :: v183 :: R), []⟩ wx) :
    Code.wp Tryz.prog (ofCode 37) (Exit.then K Q0) ⟨List.toArray (u0 :: u1 :: u2 :: u3 :: u4 :: u5 :: u6 :: u7 :: u8 :: .pointer (some ⟨bl, 0, none⟩) :: u10 :: u11 :: u12 :: u13 :: u14 :: u15 :: u16 :: u17 :: u18 :: .pointer (some ⟨sb, 0, none⟩) :: u20 :: u21 :: u22 :: u23 :: u24 :: u25 :: u26 :: u27 :: u28 :: u29 :: u30 :: u31 :: u32 :: u33 :: u34 :: u35 :: u36 :: u37 :: u38 :: u39 :: u40 :: u41 :: u42 :: u43 :: u44 :: u45 :: u46 :: u47 :: u48 :: u49 :: u50 :: u51 :: u52 :: u53 :: u54 :: u55 :: u56 :: u57 :: u58 :: u59 :: u60 :: u61 :: u62 :: u63 :: u64 :: u65 :: u66 :: u67 :: u68 :: u69 :: u70 :: u71 :: u72 :: u73 :: u74 :: u75 :: u76 :: u77 :: u78 :: u79 :: u80 :: u81 :: u82 :: u83 :: u84 :: u85 :: u86 :: u87 :: u88 :: u89 :: u90 :: u91 :: u92 :: u93 :: u94 :: u95 :: u96 :: u97 :: u98 :: u99 :: u100 :: u101 :: u102 :: u103 :: u104 :: u105 :: u106 :: u107 :: u108 :: u109 :: u110 :: u111 :: u112 :: u113 :: u114 :: u115 :: u116 :: u117 :: u118 :: u119 :: u120 :: u121 :: u122 :: u123 :: u124 :: u125 :: u126 :: u127 :: u128 :: u129 :: u130 :: u131 :: u132 :: u133 :: u134 :: u135 :: u136 :: u137 :: u138 :: u139 :: u140 :: u141 :: u142 :: u143 :: u144 :: u145 :: u146 :: u147 :: u148 :: u149 :: u150 :: u151 :: u152 :: u153 :: u154 :: u155 :: u156 :: u157 :: u158 :: u159 :: u160 :: u161 :: u162 :: u163 :: u164 :: u165 :: u166 :: u167 :: u168 :: u169 :: u170 :: u171 :: u172 :: u173 :: u174 :: u175 :: u176 :: u177 :: u178 :: u179 :: u180 :: u181 :: u182 :: u183 :: R), []⟩ w := by
  conv => arg 2; whnf
  refine wp_region_noPanic ?_
  have HSS : Hid (∀ w', Below w.heap.size w w' → LSt W0 w' bl l bh br bg bi true true false true true true false true false false false true 6 (-10) 24 8 ∧ w'.cell? ⟨sb, 0, none⟩ = some (.int .i64 1) ∧ sb < w'.heap.size) := Lib.hid fun w' h => ⟨HS1.out.below h, (h.cell (p := ⟨sb, 0, none⟩) HSL.out).trans HSC.out, Nat.lt_of_lt_of_le HSL.out h.size⟩
  have HSO : Hid (∀ w', Below w.heap.size w w' → (fun w' => w'.cell? ⟨bl, 0, none⟩ = some (.pointer (some ⟨l, 0, none⟩)) ∧ w'.cell? ⟨l, 0, none⟩ = some (.int .i64 2) ∧ w'.cell? ⟨l, 1, none⟩ = some (.slice (some ⟨bh, 0, none⟩) 4 4) ∧ w'.cell? ⟨l, 3, none⟩ = some (.slice (some ⟨bg, 0, none⟩) 4 4) ∧ w'.cell? ⟨bh, 1, none⟩ = some (.bool true) ∧ w'.cell? ⟨sb, 0, none⟩ = some (.int .i64 1)) w') := Lib.hid fun w' h => ⟨(HSS.out w' h).1.lat.p, (HSS.out w' h).1.lat.n, (HSS.out w' h).1.lat.h, (HSS.out w' h).1.lat.g, (HSS.out w' h).1.fh.c1, (HSS.out w' h).2.1⟩
  have HST : Hid (∀ w', Below w.heap.size w w' → (fun w' => w'.cell? ⟨bl, 0, none⟩ = some (.pointer (some ⟨l, 0, none⟩)) ∧ w'.cell? ⟨l, 0, none⟩ = some (.int .i64 2) ∧ w'.cell? ⟨l, 1, none⟩ = some (.slice (some ⟨bh, 0, none⟩) 4 4) ∧ w'.cell? ⟨l, 3, none⟩ = some (.slice (some ⟨bg, 0, none⟩) 4 4) ∧ w'.cell? ⟨bh, 1, none⟩ = some (.bool true) ∧ w'.cell? ⟨sb, 0, none⟩ = some (.int .i64 1)) (w'.setCell ⟨bg, 1, none⟩ (.bool true))) := Lib.hid fun w' h => by
    have s := (HSS.out w' h).1.ug1 true
    exact ⟨s.lat.p, s.lat.n, s.lat.h, s.lat.g, s.fh.c1, (World.cell?_setCell_far _ _ _ _ HNE.out.2).trans (HSS.out w' h).2.1⟩
  refine wp_region_held_drew (S := (fun w' => w'.cell? ⟨bl, 0, none⟩ = some (.pointer (some ⟨l, 0, none⟩)) ∧ w'.cell? ⟨l, 0, none⟩ = some (.int .i64 2) ∧ w'.cell? ⟨l, 1, none⟩ = some (.slice (some ⟨bh, 0, none⟩) 4 4) ∧ w'.cell? ⟨l, 3, none⟩ = some (.slice (some ⟨bg, 0, none⟩) 4 4) ∧ w'.cell? ⟨bh, 1, none⟩ = some (.bool true) ∧ w'.cell? ⟨sb, 0, none⟩ = some (.int .i64 1))) (by kernel_rfl) (HSO.out _ (Below.refl _ _).drew) (fun hHeld => ?_)
  have hA := (Below.refl w.heap.size w).drew
  refine tk 0 ?_; refine tk 1 ?_; refine tk 2 ?_; refine tk 3 ?_; refine tk 4 ?_; refine tk 5 ?_; refine tk 6 ?_; refine tk 7 ?_; refine tk 8 ?_; refine tk 9 ?_; refine tk 10 ?_; refine tk 11 ?_; refine tk 12 ?_; refine tk 13 ?_; refine tk 14 ?_
  refine wpAnyH_ready (rs := [15]) (by kernel_rfl) (by simp) ?_
  refine AllReadyH.cons (o := _) rfl (fun K1 hK1 => ?_) AllReadyH.nil
  try simp only [List.getElem_toArray, List.getElem_cons_succ, List.getElem_cons_zero]
  go_simp
  (go_at_call 32; go_split_ands; (with_reducible refine (whole_any l _ (HSS.out _ hA).1.lat.n).mono ?_); rintro e wq ⟨rfl, hq⟩; subst hq)
  go_wp2_with fail
  refine hK1.out _ _ (HSO.out _ hA) (fun hHeld => ?_)
  clear hK1 K1
  try simp only [Act.put, List.setIfInBounds_toArray, List.set_cons_zero, List.set_cons_succ, List.getElem_toArray, List.getElem_cons_succ, List.getElem_cons_zero]
  refine tk 16 ?_; refine tk 17 ?_; refine tk 18 ?_; refine tk 19 ?_; refine tk 20 ?_
  refine wpAnyH_ready (rs := [21]) (by kernel_rfl) (by simp) ?_
  refine AllReadyH.cons (o := _) rfl (fun K1 hK1 => ?_) AllReadyH.nil
  try simp only [List.getElem_toArray, List.getElem_cons_succ, List.getElem_cons_zero]
  go_simp
  have HCL := Lib.hid (any_go 1 true sb bl l bg false false false true _ (HSS.out _ hA).2.2 (HSS.out _ hA).1.lat.tl.1 (HSS.out _ hA).1.lat.tl.2 (HSS.out _ hA).1.lat.n (HSS.out _ hA).2.1 (HSS.out _ hA).1.lat.p (HSS.out _ hA).1.lat.g (HSS.out _ hA).1.fg (.inr ⟨rfl, rfl⟩))
  (go_at_call 33; go_split_ands; (with_reducible refine HCL.out.mono ?_); rintro e wy ⟨rfl, hby⟩)
  go_wp2_with fail
  have hAy := hA.trans (hby.mono hA.size)
  clear hA HCL hby
  have hA := hAy
  clear hAy
  refine hK1.out _ _ (HSO.out _ hA) (fun hHeld => ?_)
  clear hK1 K1
  try simp only [Act.put, List.setIfInBounds_toArray, List.set_cons_zero, List.set_cons_succ, List.getElem_toArray, List.getElem_cons_succ, List.getElem_cons_zero]
  refine tk 22 ?_; refine tk 23 ?_; refine tk 24 ?_
  have hc1 := (HSS.out _ hA).1.fg.c1
  have hc2 := (HSS.out _ hA).1.fg.fz 1
  refine wpAnyH_ready (rs := [25]) (by kernel_rfl) (by simp) ?_
  refine AllReadyH.cons (o := _) rfl (fun K1 hK1 => ?_) AllReadyH.nil
  try simp only [List.getElem_toArray, List.getElem_cons_succ, List.getElem_cons_zero]
  rw [if_pos (by rfl)]
  go_wp2_with fail
  refine hK1.out _ _ (HST.out _ hA) (fun hHeld => ?_)
  clear hK1 K1
  try simp only [Act.put, List.setIfInBounds_toArray, List.set_cons_zero, List.set_cons_succ, List.getElem_toArray, List.getElem_cons_succ, List.getElem_cons_zero]
  refine wpAnyH_done (by kernel_rfl) ?_ _
  exact hK _ _ _ _ _ _ _ _ _ _ _ _ _ _ _ _ _ _ _ _ _ _ _ _ _ _ ⟨Lib.hid (((HSS.out _ hA).1.ug1 true)), Lib.hid ((World.cell?_setCell_far _ _ _ _ HNE.out.2).trans (HSS.out _ hA).2.1), Lib.hid (by simpa using (HSS.out _ hA).2.2)⟩
set_option maxRecDepth 100000 in
set_option maxHeartbeats 16000000 in
theorem ofg0 {bl l bh br bg bi sb : Nat} {W0 w : World} {u0 u1 u2 u3 u4 u5 u6 u7 u8 u10 u11 u12 u13 u14 u15 u16 u17 u18 u20 u21 u22 u23 u24 u25 u26 u27 u28 u29 u30 u31 u32 u33 u34 u35 u36 u37 u38 u39 u40 u41 u42 u43 u44 u45 u46 u47 u48 u49 u50 u51 u52 u53 u54 u55 u56 u57 u58 u59 u60 u61 u62 u63 u64 u65 u66 u67 u68 u69 u70 u71 u72 u73 u74 u75 u76 u77 u78 u79 u80 u81 u82 u83 u84 u85 u86 u87 u88 u89 u90 u91 u92 u93 u94 u95 u96 u97 u98 u99 u100 u101 u102 u103 u104 u105 u106 u107 u108 u109 u110 u111 u112 u113 u114 u115 u116 u117 u118 u119 u120 u121 u122 u123 u124 u125 u126 u127 u128 u129 u130 u131 u132 u133 u134 u135 u136 u137 u138 u139 u140 u141 u142 u143 u144 u145 u146 u147 u148 u149 u150 u151 u152 u153 u154 u155 u156 u157 u158 u159 u160 u161 u162 u163 u164 u165 u166 u167 u168 u169 u170 u171 u172 u173 u174 u175 u176 u177 u178 u179 u180 u181 u182 u183 : Value} {R : List Value} {K : Act → World → Prop} {Q0 : Exit → Act → World → Prop}
    (HS1 : Hid (LSt W0 w bl l bh br bg bi true true false true true true false true false true false true 6 (-10) 24 8)) (HSC : Hid (w.cell? ⟨sb, 0, none⟩ = some (.int .i64 0))) (HSL : Hid (sb < w.heap.size)) (HNE : Hid (br ≠ sb ∧ bg ≠ sb))
    (hK : ∀ (v159 v160 v161 v162 v163 v164 v165 v166 v167 v168 v169 v170 v171 v172 v173 v174 v175 v176 v177 v178 v179 v180 v181 v182 v183 : Value) (wx : World), (Hid (LSt W0 wx bl l bh br bg bi true true false true true true false true true true false true 6 (-10) 24 8) ∧ Hid (wx.cell? ⟨sb, 0, none⟩ = some (.int .i64 0)) ∧ Hid (sb < wx.heap.size)) → K ⟨List.toArray (u0 :: u1 :: u2 :: u3 :: u4 :: u5 :: u6 :: u7 :: u8 :: .pointer (some ⟨bl, 0, none⟩) :: u10 :: u11 :: u12 :: u13 :: u14 :: u15 :: u16 :: u17 :: u18 :: .pointer (some ⟨sb, 0, none⟩) :: u20 :: u21 :: u22 :: u23 :: u24 :: u25 :: u26 :: u27 :: u28 :: u29 :: u30 :: u31 :: u32 :: u33 :: u34 :: u35 :: u36 :: u37 :: u38 :: u39 :: u40 :: u41 :: u42 :: u43 :: u44 :: u45 :: u46 :: u47 :: u48 :: u49 :: u50 :: u51 :: u52 :: u53 :: u54 :: u55 :: u56 :: u57 :: u58 :: u59 :: u60 :: u61 :: u62 :: u63 :: u64 :: u65 :: u66 :: u67 :: u68 :: u69 :: u70 :: u71 :: u72 :: u73 :: u74 :: u75 :: u76 :: u77 :: u78 :: u79 :: u80 :: u81 :: u82 :: u83 :: u84 :: u85 :: u86 :: u87 :: u88 :: u89 :: u90 :: u91 :: u92 :: u93 :: u94 :: u95 :: u96 :: u97 :: u98 :: u99 :: u100 :: u101 :: u102 :: u103 :: u104 :: u105 :: u106 :: u107 :: u108 :: u109 :: u110 :: u111 :: u112 :: u113 :: u114 :: u115 :: u116 :: u117 :: u118 :: u119 :: u120 :: u121 :: u122 :: u123 :: u124 :: u125 :: u126 :: u127 :: u128 :: u129 :: u130 :: u131 :: u132 :: u133 :: u134 :: u135 :: u136 :: u137 :: u138 :: u139 :: u140 :: u141 :: u142 :: u143 :: u144 :: u145 :: u146 :: u147 :: u148 :: u149 :: u150 :: u151 :: u152 :: u153 :: u154 :: u155 :: u156 :: u157 :: u158 :: v159 :: v160 :: v161 :: v162 :: v163 :: v164 :: v165 :: v166 :: v167 :: v168 :: v169 :: v170 :: v171 :: v172 :: v173 :: v174 :: v175 :: v176 :: v177 :: v178 :: v179 :: v180 :: v181 :: v182 :: v183 :: R), []⟩ wx) :
    Code.wp Tryz.prog (ofCode 37) (Exit.then K Q0) ⟨List.toArray (u0 :: u1 :: u2 :: u3 :: u4 :: u5 :: u6 :: u7 :: u8 :: .pointer (some ⟨bl, 0, none⟩) :: u10 :: u11 :: u12 :: u13 :: u14 :: u15 :: u16 :: u17 :: u18 :: .pointer (some ⟨sb, 0, none⟩) :: u20 :: u21 :: u22 :: u23 :: u24 :: u25 :: u26 :: u27 :: u28 :: u29 :: u30 :: u31 :: u32 :: u33 :: u34 :: u35 :: u36 :: u37 :: u38 :: u39 :: u40 :: u41 :: u42 :: u43 :: u44 :: u45 :: u46 :: u47 :: u48 :: u49 :: u50 :: u51 :: u52 :: u53 :: u54 :: u55 :: u56 :: u57 :: u58 :: u59 :: u60 :: u61 :: u62 :: u63 :: u64 :: u65 :: u66 :: u67 :: u68 :: u69 :: u70 :: u71 :: u72 :: u73 :: u74 :: u75 :: u76 :: u77 :: u78 :: u79 :: u80 :: u81 :: u82 :: u83 :: u84 :: u85 :: u86 :: u87 :: u88 :: u89 :: u90 :: u91 :: u92 :: u93 :: u94 :: u95 :: u96 :: u97 :: u98 :: u99 :: u100 :: u101 :: u102 :: u103 :: u104 :: u105 :: u106 :: u107 :: u108 :: u109 :: u110 :: u111 :: u112 :: u113 :: u114 :: u115 :: u116 :: u117 :: u118 :: u119 :: u120 :: u121 :: u122 :: u123 :: u124 :: u125 :: u126 :: u127 :: u128 :: u129 :: u130 :: u131 :: u132 :: u133 :: u134 :: u135 :: u136 :: u137 :: u138 :: u139 :: u140 :: u141 :: u142 :: u143 :: u144 :: u145 :: u146 :: u147 :: u148 :: u149 :: u150 :: u151 :: u152 :: u153 :: u154 :: u155 :: u156 :: u157 :: u158 :: u159 :: u160 :: u161 :: u162 :: u163 :: u164 :: u165 :: u166 :: u167 :: u168 :: u169 :: u170 :: u171 :: u172 :: u173 :: u174 :: u175 :: u176 :: u177 :: u178 :: u179 :: u180 :: u181 :: u182 :: u183 :: R), []⟩ w := by
  conv => arg 2; whnf
  refine wp_region_noPanic ?_
  have HSS : Hid (∀ w', Below w.heap.size w w' → LSt W0 w' bl l bh br bg bi true true false true true true false true false true false true 6 (-10) 24 8 ∧ w'.cell? ⟨sb, 0, none⟩ = some (.int .i64 0) ∧ sb < w'.heap.size) := Lib.hid fun w' h => ⟨HS1.out.below h, (h.cell (p := ⟨sb, 0, none⟩) HSL.out).trans HSC.out, Nat.lt_of_lt_of_le HSL.out h.size⟩
  have HSO : Hid (∀ w', Below w.heap.size w w' → (fun w' => w'.cell? ⟨bl, 0, none⟩ = some (.pointer (some ⟨l, 0, none⟩)) ∧ w'.cell? ⟨l, 0, none⟩ = some (.int .i64 2) ∧ w'.cell? ⟨l, 1, none⟩ = some (.slice (some ⟨bh, 0, none⟩) 4 4) ∧ w'.cell? ⟨l, 3, none⟩ = some (.slice (some ⟨bg, 0, none⟩) 4 4) ∧ w'.cell? ⟨bh, 0, none⟩ = some (.bool true) ∧ w'.cell? ⟨sb, 0, none⟩ = some (.int .i64 0)) w') := Lib.hid fun w' h => ⟨(HSS.out w' h).1.lat.p, (HSS.out w' h).1.lat.n, (HSS.out w' h).1.lat.h, (HSS.out w' h).1.lat.g, (HSS.out w' h).1.fh.c0, (HSS.out w' h).2.1⟩
  have HST : Hid (∀ w', Below w.heap.size w w' → (fun w' => w'.cell? ⟨bl, 0, none⟩ = some (.pointer (some ⟨l, 0, none⟩)) ∧ w'.cell? ⟨l, 0, none⟩ = some (.int .i64 2) ∧ w'.cell? ⟨l, 1, none⟩ = some (.slice (some ⟨bh, 0, none⟩) 4 4) ∧ w'.cell? ⟨l, 3, none⟩ = some (.slice (some ⟨bg, 0, none⟩) 4 4) ∧ w'.cell? ⟨bh, 0, none⟩ = some (.bool true) ∧ w'.cell? ⟨sb, 0, none⟩ = some (.int .i64 0)) (w'.setCell ⟨bg, 0, none⟩ (.bool true))) := Lib.hid fun w' h => by
    have s := (HSS.out w' h).1.ug0 true
    exact ⟨s.lat.p, s.lat.n, s.lat.h, s.lat.g, s.fh.c0, (World.cell?_setCell_far _ _ _ _ HNE.out.2).trans (HSS.out w' h).2.1⟩
  refine wp_region_held_drew (S := (fun w' => w'.cell? ⟨bl, 0, none⟩ = some (.pointer (some ⟨l, 0, none⟩)) ∧ w'.cell? ⟨l, 0, none⟩ = some (.int .i64 2) ∧ w'.cell? ⟨l, 1, none⟩ = some (.slice (some ⟨bh, 0, none⟩) 4 4) ∧ w'.cell? ⟨l, 3, none⟩ = some (.slice (some ⟨bg, 0, none⟩) 4 4) ∧ w'.cell? ⟨bh, 0, none⟩ = some (.bool true) ∧ w'.cell? ⟨sb, 0, none⟩ = some (.int .i64 0))) (by kernel_rfl) (HSO.out _ (Below.refl _ _).drew) (fun hHeld => ?_)
  have hA := (Below.refl w.heap.size w).drew
  refine tk 0 ?_; refine tk 1 ?_; refine tk 2 ?_; refine tk 3 ?_; refine tk 4 ?_; refine tk 5 ?_; refine tk 6 ?_; refine tk 7 ?_; refine tk 8 ?_; refine tk 9 ?_; refine tk 10 ?_; refine tk 11 ?_; refine tk 12 ?_; refine tk 13 ?_; refine tk 14 ?_
  refine wpAnyH_ready (rs := [15]) (by kernel_rfl) (by simp) ?_
  refine AllReadyH.cons (o := _) rfl (fun K1 hK1 => ?_) AllReadyH.nil
  try simp only [List.getElem_toArray, List.getElem_cons_succ, List.getElem_cons_zero]
  go_simp
  (go_at_call 32; go_split_ands; (with_reducible refine (whole_any l _ (HSS.out _ hA).1.lat.n).mono ?_); rintro e wq ⟨rfl, hq⟩; subst hq)
  go_wp2_with fail
  refine hK1.out _ _ (HSO.out _ hA) (fun hHeld => ?_)
  clear hK1 K1
  try simp only [Act.put, List.setIfInBounds_toArray, List.set_cons_zero, List.set_cons_succ, List.getElem_toArray, List.getElem_cons_succ, List.getElem_cons_zero]
  refine tk 16 ?_; refine tk 17 ?_; refine tk 18 ?_; refine tk 19 ?_; refine tk 20 ?_
  refine wpAnyH_ready (rs := [21]) (by kernel_rfl) (by simp) ?_
  refine AllReadyH.cons (o := _) rfl (fun K1 hK1 => ?_) AllReadyH.nil
  try simp only [List.getElem_toArray, List.getElem_cons_succ, List.getElem_cons_zero]
  go_simp
  have HCL := Lib.hid (any_go 0 true sb bl l bg false true false true _ (HSS.out _ hA).2.2 (HSS.out _ hA).1.lat.tl.1 (HSS.out _ hA).1.lat.tl.2 (HSS.out _ hA).1.lat.n (HSS.out _ hA).2.1 (HSS.out _ hA).1.lat.p (HSS.out _ hA).1.lat.g (HSS.out _ hA).1.fg (.inl ⟨rfl, rfl⟩))
  (go_at_call 33; go_split_ands; (with_reducible refine HCL.out.mono ?_); rintro e wy ⟨rfl, hby⟩)
  go_wp2_with fail
  have hAy := hA.trans (hby.mono hA.size)
  clear hA HCL hby
  have hA := hAy
  clear hAy
  refine hK1.out _ _ (HSO.out _ hA) (fun hHeld => ?_)
  clear hK1 K1
  try simp only [Act.put, List.setIfInBounds_toArray, List.set_cons_zero, List.set_cons_succ, List.getElem_toArray, List.getElem_cons_succ, List.getElem_cons_zero]
  refine tk 22 ?_; refine tk 23 ?_; refine tk 24 ?_
  have hc1 := (HSS.out _ hA).1.fg.c0
  have hc2 := (HSS.out _ hA).1.fg.fz 0
  refine wpAnyH_ready (rs := [25]) (by kernel_rfl) (by simp) ?_
  refine AllReadyH.cons (o := _) rfl (fun K1 hK1 => ?_) AllReadyH.nil
  try simp only [List.getElem_toArray, List.getElem_cons_succ, List.getElem_cons_zero]
  rw [if_pos (by rfl)]
  go_wp2_with fail
  refine hK1.out _ _ (HST.out _ hA) (fun hHeld => ?_)
  clear hK1 K1
  try simp only [Act.put, List.setIfInBounds_toArray, List.set_cons_zero, List.set_cons_succ, List.getElem_toArray, List.getElem_cons_succ, List.getElem_cons_zero]
  refine wpAnyH_done (by kernel_rfl) ?_ _
  exact hK _ _ _ _ _ _ _ _ _ _ _ _ _ _ _ _ _ _ _ _ _ _ _ _ _ _ ⟨Lib.hid (((HSS.out _ hA).1.ug0 true)), Lib.hid ((World.cell?_setCell_far _ _ _ _ HNE.out.2).trans (HSS.out _ hA).2.1), Lib.hid (by simpa using (HSS.out _ hA).2.2)⟩
end Go.Proofs.YtfkmnneieglolaaGreatDoor
namespace Go.Proofs.YtfkmnneieglolaaGreatDoor
open Go.RowKit Go.Shelf
attribute [local go_sem] Oper.semAt_some
set_option maxRecDepth 100000 in
set_option maxHeartbeats 16000000 in
theorem of5 {bl l bh br bg bi sb : Nat} {W0 w0 : World} {u0 u1 u2 u3 u4 u5 u6 u7 u8 u10 u11 u12 u13 u14 u15 u16 u17 u18 u20 u21 u22 u23 u24 u25 u26 u27 u28 u29 u30 u31 u32 u33 u34 u35 u36 u37 u38 u39 u40 u41 u42 u43 u44 u45 u46 u47 u48 u49 u50 u51 u52 u53 u54 u55 u56 u57 u58 u59 u60 u61 u62 u63 u64 u65 u66 u67 u68 u69 u70 u71 u72 u73 u74 u75 u76 u77 u78 u79 u80 u81 u82 u83 u84 u85 u86 u87 u88 u89 u90 u91 u92 u93 u94 u95 u96 u97 u98 u99 u100 u101 u102 u103 u104 u105 u106 u107 u108 u109 u110 u111 u112 u113 u114 u115 u116 u117 u118 u119 u120 u121 u122 u123 u124 u125 u126 u127 u128 u129 u130 u131 u132 u133 u134 u135 u136 u137 u138 u139 u140 u141 u142 u143 u144 u145 u146 u147 u148 u149 u150 u151 u152 u153 u154 u155 u156 u157 u158 u159 u160 u161 u162 u163 u164 u165 u166 u167 u168 u169 u170 u171 u172 u173 u174 u175 u176 u177 u178 u179 u180 u181 u182 u183 u184 u185 : Value} {Q : Exit → Act → World → Prop}
    (HS1 : Hid (LSt W0 w0 bl l bh br bg bi true true false true true true false true false false false false 6 (-10) 24 8)) (HSC0 : Hid (w0.cell? ⟨sb, 0, none⟩ = some (.int .i64 3))) (HSL0 : Hid (sb < w0.heap.size)) (HNE0 : Hid (br ≠ sb ∧ bg ≠ sb))
    (hK : ∀ (v19 v155 v156 v157 v158 v159 v160 v161 v162 v163 v164 v165 v166 v167 v168 v169 v170 v171 v172 v173 v174 v175 v176 v177 v178 v179 v180 v181 v182 v183 v184 : Value) (wx : World), (Hid (LSt W0 wx bl l bh br bg bi true true false true true true false true true true false true 6 (-10) 24 8)) → Q (.exit 9) ⟨List.toArray (u0 :: u1 :: u2 :: u3 :: u4 :: u5 :: u6 :: u7 :: u8 :: .pointer (some ⟨bl, 0, none⟩) :: u10 :: u11 :: u12 :: u13 :: u14 :: u15 :: u16 :: u17 :: u18 :: v19 :: u20 :: u21 :: u22 :: u23 :: u24 :: u25 :: u26 :: u27 :: u28 :: u29 :: u30 :: u31 :: u32 :: u33 :: u34 :: u35 :: u36 :: u37 :: u38 :: u39 :: u40 :: u41 :: u42 :: u43 :: u44 :: u45 :: u46 :: u47 :: u48 :: u49 :: u50 :: u51 :: u52 :: u53 :: u54 :: u55 :: u56 :: u57 :: u58 :: u59 :: u60 :: u61 :: u62 :: u63 :: u64 :: u65 :: u66 :: u67 :: u68 :: u69 :: u70 :: u71 :: u72 :: u73 :: u74 :: u75 :: u76 :: u77 :: u78 :: u79 :: u80 :: u81 :: u82 :: u83 :: u84 :: u85 :: u86 :: u87 :: u88 :: u89 :: u90 :: u91 :: u92 :: u93 :: u94 :: u95 :: u96 :: u97 :: u98 :: u99 :: u100 :: u101 :: u102 :: u103 :: u104 :: u105 :: u106 :: u107 :: u108 :: u109 :: u110 :: u111 :: u112 :: u113 :: u114 :: u115 :: u116 :: u117 :: u118 :: u119 :: u120 :: u121 :: u122 :: u123 :: u124 :: u125 :: u126 :: u127 :: u128 :: u129 :: u130 :: u131 :: u132 :: u133 :: u134 :: u135 :: u136 :: u137 :: u138 :: u139 :: u140 :: u141 :: u142 :: u143 :: u144 :: u145 :: u146 :: u147 :: u148 :: u149 :: u150 :: u151 :: u152 :: u153 :: u154 :: v155 :: v156 :: v157 :: v158 :: v159 :: v160 :: v161 :: v162 :: v163 :: v164 :: v165 :: v166 :: v167 :: v168 :: v169 :: v170 :: v171 :: v172 :: v173 :: v174 :: v175 :: v176 :: v177 :: v178 :: v179 :: v180 :: v181 :: v182 :: v183 :: v184 :: u185 :: []), []⟩ wx) :
    Code.wp Tryz.prog (ofLoop 35) Q ⟨List.toArray (u0 :: u1 :: u2 :: u3 :: u4 :: u5 :: u6 :: u7 :: u8 :: .pointer (some ⟨bl, 0, none⟩) :: u10 :: u11 :: u12 :: u13 :: u14 :: u15 :: u16 :: u17 :: u18 :: .pointer (some ⟨sb, 0, none⟩) :: u20 :: u21 :: u22 :: u23 :: u24 :: u25 :: u26 :: u27 :: u28 :: u29 :: u30 :: u31 :: u32 :: u33 :: u34 :: u35 :: u36 :: u37 :: u38 :: u39 :: u40 :: u41 :: u42 :: u43 :: u44 :: u45 :: u46 :: u47 :: u48 :: u49 :: u50 :: u51 :: u52 :: u53 :: u54 :: u55 :: u56 :: u57 :: u58 :: u59 :: u60 :: u61 :: u62 :: u63 :: u64 :: u65 :: u66 :: u67 :: u68 :: u69 :: u70 :: u71 :: u72 :: u73 :: u74 :: u75 :: u76 :: u77 :: u78 :: u79 :: u80 :: u81 :: u82 :: u83 :: u84 :: u85 :: u86 :: u87 :: u88 :: u89 :: u90 :: u91 :: u92 :: u93 :: u94 :: u95 :: u96 :: u97 :: u98 :: u99 :: u100 :: u101 :: u102 :: u103 :: u104 :: u105 :: u106 :: u107 :: u108 :: u109 :: u110 :: u111 :: u112 :: u113 :: u114 :: u115 :: u116 :: u117 :: u118 :: u119 :: u120 :: u121 :: u122 :: u123 :: u124 :: u125 :: u126 :: u127 :: u128 :: u129 :: u130 :: u131 :: u132 :: u133 :: u134 :: u135 :: u136 :: u137 :: u138 :: u139 :: u140 :: u141 :: u142 :: u143 :: u144 :: u145 :: u146 :: u147 :: u148 :: u149 :: u150 :: u151 :: u152 :: u153 :: u154 :: u155 :: u156 :: u157 :: u158 :: u159 :: u160 :: u161 :: u162 :: u163 :: u164 :: u165 :: u166 :: u167 :: u168 :: u169 :: u170 :: u171 :: u172 :: u173 :: u174 :: u175 :: u176 :: u177 :: u178 :: u179 :: u180 :: u181 :: u182 :: u183 :: u184 :: u185 :: []), []⟩ w0 := by
  conv => arg 2; whnf
  refine wp_noPanic ?_
  have hsc := HSC0.out
  have hsl := HSL0.out
  have hne := HNE0.out
  clear HSC0 HSL0 HNE0
  refine wp_loop_rounds 5 ?_
  rw [rounds_succ]
  obtain ⟨⟨p0, p1, p2, p3, p4, ⟨p5, p6⟩, p7, p8⟩, ⟨a0, a1, a2, a3, a4, a5⟩, ⟨b0, b1, b2, b3, b4, b5⟩, ⟨c0, c1, c2, c3, c4, c5⟩, ⟨d0, d1, d2, d3, d4, d5⟩, hB, -, -⟩ := HS1.out
  have hBa : ∀ o, Below W0.heap.size W0 (w0.alloc o) := fun o => belA o hB
  go_upto_region 37 with (fail)
  clear p0 p1 p2 p3 p4 p5 p6 p7 p8 a0 a1 a2 a3 a4 a5 b0 b1 b2 b3 b4 b5 c0 c1 c2 c3 c4 c5 d0 d1 d2 d3 d4 d5 hB hBa
  have HSC := Lib.hid hsc
  have HSL := Lib.hid hsl
  have HNE := Lib.hid hne
  clear hsc hsl hne
  refine wp_then ?_
  refine ofg3 HS1 HSC HSL HNE ?_
  intro v159 v160 v161 v162 v163 v164 v165 v166 v167 v168 v169 v170 v171 v172 v173 v174 v175 v176 v177 v178 v179 v180 v181 v182 v183 w1 hx
  obtain ⟨HSa, HSb, HSc⟩ := hx
  replace HS1 := HSa
  clear HSa HSC HSL
  have hsc := HSb.out
  have hsl := HSc.out
  clear HSb HSc HNE
  go_wp2_with fail
  clear hsc hsl
  have hne := And.intro (show br ≠ w1.heap.size by have := HS1.out.fr.lt; omega) (show bg ≠ w1.heap.size by have := HS1.out.fg.lt; omega)
  replace HS1 := Lib.hid (HS1.out.alloc (.cells #[.int .i64 2] 3))
  have hsc : (w1.alloc (.cells #[.int .i64 2] 3)).cell? ⟨w1.heap.size, 0, none⟩ = some (.int .i64 2) := by simp
  have hsl : w1.heap.size < (w1.alloc (.cells #[.int .i64 2] 3)).heap.size := by simp
  obtain ⟨sb, hsb⟩ : ∃ b, w1.heap.size = b := ⟨_, rfl⟩
  rw [hsb] at hsc hsl hne ⊢
  generalize w1.alloc (.cells #[.int .i64 2] 3) = w2 at *
  clear hsb
  rw [rounds_succ]
  obtain ⟨⟨p0, p1, p2, p3, p4, ⟨p5, p6⟩, p7, p8⟩, ⟨a0, a1, a2, a3, a4, a5⟩, ⟨b0, b1, b2, b3, b4, b5⟩, ⟨c0, c1, c2, c3, c4, c5⟩, ⟨d0, d1, d2, d3, d4, d5⟩, hB, -, -⟩ := HS1.out
  have hBa : ∀ o, Below W0.heap.size W0 (w2.alloc o) := fun o => belA o hB
  go_upto_region 37 with (fail)
  clear p0 p1 p2 p3 p4 p5 p6 p7 p8 a0 a1 a2 a3 a4 a5 b0 b1 b2 b3 b4 b5 c0 c1 c2 c3 c4 c5 d0 d1 d2 d3 d4 d5 hB hBa
  have HSC := Lib.hid hsc
  have HSL := Lib.hid hsl
  have HNE := Lib.hid hne
  clear hsc hsl hne
  refine wp_then ?_
  refine ofg2 HS1 HSC HSL HNE ?_
  intro v159 v160 v161 v162 v163 v164 v165 v166 v167 v168 v169 v170 v171 v172 v173 v174 v175 v176 v177 v178 v179 v180 v181 v182 v183 w3 hx
  obtain ⟨HSa, HSb, HSc⟩ := hx
  replace HS1 := HSa
  clear HSa HSC HSL
  have hsc := HSb.out
  have hsl := HSc.out
  clear HSb HSc HNE
  go_wp2_with fail
  clear hsc hsl
  have hne := And.intro (show br ≠ w3.heap.size by have := HS1.out.fr.lt; omega) (show bg ≠ w3.heap.size by have := HS1.out.fg.lt; omega)
  replace HS1 := Lib.hid (HS1.out.alloc (.cells #[.int .i64 1] 3))
  have hsc : (w3.alloc (.cells #[.int .i64 1] 3)).cell? ⟨w3.heap.size, 0, none⟩ = some (.int .i64 1) := by simp
  have hsl : w3.heap.size < (w3.alloc (.cells #[.int .i64 1] 3)).heap.size := by simp
  obtain ⟨sb, hsb⟩ : ∃ b, w3.heap.size = b := ⟨_, rfl⟩
  rw [hsb] at hsc hsl hne ⊢
  generalize w3.alloc (.cells #[.int .i64 1] 3) = w4 at *
  clear hsb
  rw [rounds_succ]
  obtain ⟨⟨p0, p1, p2, p3, p4, ⟨p5, p6⟩, p7, p8⟩, ⟨a0, a1, a2, a3, a4, a5⟩, ⟨b0, b1, b2, b3, b4, b5⟩, ⟨c0, c1, c2, c3, c4, c5⟩, ⟨d0, d1, d2, d3, d4, d5⟩, hB, -, -⟩ := HS1.out
  have hBa : ∀ o, Below W0.heap.size W0 (w4.alloc o) := fun o => belA o hB
  go_upto_region 37 with (fail)
  clear p0 p1 p2 p3 p4 p5 p6 p7 p8 a0 a1 a2 a3 a4 a5 b0 b1 b2 b3 b4 b5 c0 c1 c2 c3 c4 c5 d0 d1 d2 d3 d4 d5 hB hBa
  have HSC := Lib.hid hsc
  have HSL := Lib.hid hsl
  have HNE := Lib.hid hne
  clear hsc hsl hne
  refine wp_then ?_
  refine ofg1 HS1 HSC HSL HNE ?_
  intro v159 v160 v161 v162 v163 v164 v165 v166 v167 v168 v169 v170 v171 v172 v173 v174 v175 v176 v177 v178 v179 v180 v181 v182 v183 w5 hx
  obtain ⟨HSa, HSb, HSc⟩ := hx
  replace HS1 := HSa
  clear HSa HSC HSL
  have hsc := HSb.out
  have hsl := HSc.out
  clear HSb HSc HNE
  go_wp2_with fail
  clear hsc hsl
  have hne := And.intro (show br ≠ w5.heap.size by have := HS1.out.fr.lt; omega) (show bg ≠ w5.heap.size by have := HS1.out.fg.lt; omega)
  replace HS1 := Lib.hid (HS1.out.alloc (.cells #[.int .i64 0] 3))
  have hsc : (w5.alloc (.cells #[.int .i64 0] 3)).cell? ⟨w5.heap.size, 0, none⟩ = some (.int .i64 0) := by simp
  have hsl : w5.heap.size < (w5.alloc (.cells #[.int .i64 0] 3)).heap.size := by simp
  obtain ⟨sb, hsb⟩ : ∃ b, w5.heap.size = b := ⟨_, rfl⟩
  rw [hsb] at hsc hsl hne ⊢
  generalize w5.alloc (.cells #[.int .i64 0] 3) = w6 at *
  clear hsb
  rw [rounds_succ]
  obtain ⟨⟨p0, p1, p2, p3, p4, ⟨p5, p6⟩, p7, p8⟩, ⟨a0, a1, a2, a3, a4, a5⟩, ⟨b0, b1, b2, b3, b4, b5⟩, ⟨c0, c1, c2, c3, c4, c5⟩, ⟨d0, d1, d2, d3, d4, d5⟩, hB, -, -⟩ := HS1.out
  have hBa : ∀ o, Below W0.heap.size W0 (w6.alloc o) := fun o => belA o hB
  go_upto_region 37 with (fail)
  clear p0 p1 p2 p3 p4 p5 p6 p7 p8 a0 a1 a2 a3 a4 a5 b0 b1 b2 b3 b4 b5 c0 c1 c2 c3 c4 c5 d0 d1 d2 d3 d4 d5 hB hBa
  have HSC := Lib.hid hsc
  have HSL := Lib.hid hsl
  have HNE := Lib.hid hne
  clear hsc hsl hne
  refine wp_then ?_
  refine ofg0 HS1 HSC HSL HNE ?_
  intro v159 v160 v161 v162 v163 v164 v165 v166 v167 v168 v169 v170 v171 v172 v173 v174 v175 v176 v177 v178 v179 v180 v181 v182 v183 w7 hx
  obtain ⟨HSa, HSb, HSc⟩ := hx
  replace HS1 := HSa
  clear HSa HSC HSL
  have hsc := HSb.out
  have hsl := HSc.out
  clear HSb HSc HNE
  go_wp2_with fail
  clear hsc hsl
  have hne := And.intro (show br ≠ w7.heap.size by have := HS1.out.fr.lt; omega) (show bg ≠ w7.heap.size by have := HS1.out.fg.lt; omega)
  replace HS1 := Lib.hid (HS1.out.alloc (.cells #[.int .i64 (-1)] 3))
  have hsc : (w7.alloc (.cells #[.int .i64 (-1)] 3)).cell? ⟨w7.heap.size, 0, none⟩ = some (.int .i64 (-1)) := by simp
  have hsl : w7.heap.size < (w7.alloc (.cells #[.int .i64 (-1)] 3)).heap.size := by simp
  obtain ⟨sb, hsb⟩ : ∃ b, w7.heap.size = b := ⟨_, rfl⟩
  rw [hsb] at hsc hsl hne ⊢
  generalize w7.alloc (.cells #[.int .i64 (-1)] 3) = w8 at *
  clear hsb
  rw [rounds_succ]
  go_wp2_with fail
  exact hK _ _ _ _ _ _ _ _ _ _ _ _ _ _ _ _ _ _ _ _ _ _ _ _ _ _ _ _ _ _ _ _ HS1
end Go.Proofs.YtfkmnneieglolaaGreatDoor
