/-
  THE WALKS of isRetired and due, and of the reference's last, First, Retired, Due.
-/
import Derived.Test.YtfojipgbenbigaaDoorRope
namespace Go.Proofs.YtfojipgbenbigaaDoor
open Go.RowKit Go.Shelf

theorem bcell {W w1 : World} (hb : Below W.heap.size W w1) : (∀ b o, b < W.heap.size → w1.cell? ⟨b, o, none⟩ = W.cell? ⟨b, o, none⟩) ∧ (∀ b o, b < W.heap.size → w1.frozen? ⟨b, o, none⟩ = W.frozen? ⟨b, o, none⟩) :=
  ⟨fun b o h => hb.cell (p := ⟨b, o, none⟩) h, fun b o h => hb.frozen (p := ⟨b, o, none⟩) h⟩

theorem nums_new2 (w : World) (x y : Int) : Nums (w.alloc (.cells #[.int .i64 x, .int .i64 y] 3)).heap.size (w.alloc (.cells #[.int .i64 x, .int .i64 y] 3)) (some ⟨w.heap.size, 0, none⟩) [x, y] := fun _ =>
  ⟨_, 0, rfl, by simp, fun i hi => by
    match i, hi with
    | 0, _ => simp [go_sem, ig]
    | 1, _ => simp [go_sem, ig]⟩
theorem nums_new1 (w : World) (x : Int) : Nums (w.alloc (.cells #[.int .i64 x] 3)).heap.size (w.alloc (.cells #[.int .i64 x] 3)) (some ⟨w.heap.size, 0, none⟩) [x] := fun _ =>
  ⟨_, 0, rfl, by simp, fun i hi => by
    match i, hi with
    | 0, _ => simp [go_sem, ig]⟩

/-- last, called over two kinds just laid. -/
theorem last_two (a : Option Addr) (L : List LogR) (cap : Nat) (rope : ByteArray) (x y : Int) (w : World) (hlen : L.length ≤ 1100) (hI : Logs w.heap.size w a L) :
    Calls Tryd.prog 51 #[.slice a L.length cap, .string rope, .slice (some ⟨w.heap.size, 0, none⟩) 2 2] (w.alloc (.cells #[.int .i64 x, .int .i64 y] 3)) fun e w' => e = .returned (.int .i64 (lastI L rope [x, y])) ∧ Below w.heap.size w w' :=
  (last_any a _ L [x, y] cap 2 rope (w.alloc (.cells #[.int .i64 x, .int .i64 y] 3)) hlen (by simp) (hI.grow ((Below.refl _ w).alloc (Nat.le_refl _) _)) (nums_new2 w x y)).mono
    fun _ _ ⟨he, hb⟩ => ⟨he, ((Below.refl _ w).alloc (Nat.le_refl _) _).trans (hb.mono (by simp))⟩
theorem last_one (a : Option Addr) (L : List LogR) (cap : Nat) (rope : ByteArray) (x : Int) (w : World) (hlen : L.length ≤ 1100) (hI : Logs w.heap.size w a L) :
    Calls Tryd.prog 51 #[.slice a L.length cap, .string rope, .slice (some ⟨w.heap.size, 0, none⟩) 1 1] (w.alloc (.cells #[.int .i64 x] 3)) fun e w' => e = .returned (.int .i64 (lastI L rope [x])) ∧ Below w.heap.size w w' :=
  (last_any a _ L [x] cap 1 rope (w.alloc (.cells #[.int .i64 x] 3)) hlen (by simp) (hI.grow ((Below.refl _ w).alloc (Nat.le_refl _) _)) (nums_new1 w x)).mono
    fun _ _ ⟨he, hb⟩ => ⟨he, ((Below.refl _ w).alloc (Nat.le_refl _) _).trans (hb.mono (by simp))⟩

set_option maxHeartbeats 1000000 in
theorem isRetired_any (a : Option Addr) (L : List LogR) (cap : Nat) (rope : ByteArray) (w : World) (hlen : L.length ≤ 1100) (hI : Logs w.heap.size w a L) :
    Calls Tryd.prog 46 #[.slice a L.length cap, .string rope] w fun e w' => e = .returned (.bool (retB L rope)) ∧ Below w.heap.size w w' := by
  have HC := Lib.hid (last_two a L cap rope 2 4 w hlen hI)
  rcases last_cases L rope [2, 4] L.length with ⟨hz, _⟩ | ⟨k, hk, hz, _, _⟩
  · have H := Lib.hid (ret_no L rope _ hz)
    rw [show lastI L rope [2, 4] = -1 from hz] at HC
    clear hz
    go_enter Tryd.func46, Tryd.ntmps46
    go_wp2_with (go_at_call 51; (with_reducible refine HC.out.mono ?_); rintro e w1 ⟨rfl, hb1⟩)
    go_ret
    exact ⟨ret_bool H.out.symm, hb1⟩
  · obtain ⟨b, off, rfl, hb, hc⟩ := hI (by omega)
    have c2 := (hc k hk).2.2.1
    clear hc
    rw [show lastI L rope [2, 4] = k from hz] at HC
    have H := Lib.hid (ret_at L rope _ k hz)
    clear hz
    obtain ⟨bv, hbv⟩ : ∃ bv, ((lg L k).kind == 4) = bv := ⟨_, rfl⟩
    cases bv
    all_goals
      go_enter Tryd.func46, Tryd.ntmps46
      go_wp2_with (go_at_call 51; (with_reducible refine HC.out.mono ?_); rintro e w1 ⟨rfl, hb1⟩; have d2 := (hb1.cell (p := ⟨b, off + k * 4 + 2, none⟩) hb).trans c2)
      go_ret
      exact ⟨ret_bool (by unfold retB; rw [H.out, hbv]), hb1⟩

/-- The day on which a rope that has entries is due. -/
def dueI (L : List LogR) (rope : ByteArray) (every : Int) : Int :=
  if 0 ≤ lastI L rope [1, 2] then (lg L (lastI L rope [1, 2]).toNat).day + every else (lg L (firstI L rope).toNat).day
theorem due_no (L : List LogR) (rope : ByteArray) (every : Int) (k : Nat) (h : lastI L rope [1, 2] = -1) (hf : firstI L rope = k) : dueI L rope every = (lg L k).day := by simp [dueI, h, hf]
theorem due_at (L : List LogR) (rope : ByteArray) (every : Int) (k : Nat) (h : lastI L rope [1, 2] = k) : dueI L rope every = (lg L k).day + every := by simp [dueI, h]

/-- The days of a log are days, its runs are bounded. -/
def Tame (L : List LogR) : Prop := ∀ i, i < L.length → 0 ≤ (lg L i).day ∧ (lg L i).day ≤ 109572 ∧ 0 ≤ (lg L i).runs ∧ (lg L i).runs ≤ 1000000

set_option maxHeartbeats 1000000 in
theorem due_any (a : Option Addr) (L : List LogR) (cap : Nat) (rope : ByteArray) (every : Int) (w : World) (hlen : L.length ≤ 1100) (hI : Logs w.heap.size w a L) (ht : Tame L) (he0 : 1 ≤ every) (he1 : every ≤ 36600) (hf : firstI L rope ≠ -1) :
    Calls Tryd.prog 47 #[.slice a L.length cap, .string rope, .int .i64 every] w fun e w' => e = .returned (.int .i64 (dueI L rope every)) ∧ Below w.heap.size w w' := by
  have HI := Lib.hid hI
  have hB0 : Below w.heap.size w (w.alloc (.cells #[.string rope] 9)) := (Below.refl _ w).alloc (Nat.le_refl _) _
  have HC := Lib.hid (last_two a L cap rope 1 2 (w.alloc (.cells #[.string rope] 9)) hlen (hI.grow hB0))
  rw [World.size_alloc] at HC
  have cR : (w.alloc (.cells #[.string rope] 9)).cell? ⟨w.heap.size, 0, none⟩ = some (.string rope) := by simp
  have HcR := Lib.hid cR; clear cR
  have HB0 := Lib.hid hB0; clear hB0
  rcases last_cases L rope [1, 2] L.length with ⟨hz, _⟩ | ⟨k, hk, hz, _, _⟩
  · rcases first_cases L rope with ⟨h, _⟩ | ⟨k, hk, hfk, _, _⟩
    · exact absurd h hf
    · obtain ⟨b, off, rfl, hb, hc⟩ := hI (by omega)
      have c0 := (hc k hk).1
      clear hc hI hf
      have H := Lib.hid (due_no L rope every k hz hfk)
      rw [show lastI L rope [1, 2] = -1 from hz] at HC
      have Hfk := Lib.hid hfk
      clear hz hfk
      go_enter Tryd.func47, Tryd.ntmps47
      go_wp2_with (first
        | (go_at_call 51; (with_reducible refine HC.out.mono ?_); rintro e w1 ⟨rfl, hb1⟩; have hB1 := HB0.out.trans (hb1.mono (by simp)); have e1 := (hb1.cell (p := ⟨w.heap.size, 0, none⟩) (by simp)).trans HcR.out)
        | (go_at_call 53; (refine (indexFunc_any _ L _ w1.heap.size _ _ (fun r => decide (r.rope = rope)) _ (enters_of Tryd.func55 (by kernel_rfl) rfl) hlen (Nat.le_refl _) (HI.out.grow hB1) (asks_due _ rope _ _ (by have := hb1.size; simp at this; omega) e1)).mono ?_); rintro e w2 ⟨rfl, hb2⟩; have hB2 := hB1.trans (hb2.mono hB1.size); rw [firstP_rope, Hfk.out]; have d0 := (hB2.cell (p := ⟨b, off + k * 4, none⟩) hb).trans c0))
      go_ret
      exact ⟨ret_int H.out.symm, hB2⟩
  · obtain ⟨b, off, rfl, hb, hc⟩ := hI (by omega)
    have c0 := (hc k hk).1
    obtain ⟨t0, t1, _, _⟩ := ht k hk
    clear hc hI hf
    have H := Lib.hid (due_at L rope every k hz)
    rw [show lastI L rope [1, 2] = k from hz] at HC
    clear hz
    go_enter Tryd.func47, Tryd.ntmps47
    go_wp2_with (go_at_call 51; (with_reducible refine HC.out.mono ?_); rintro e w1 ⟨rfl, hb1⟩; have hB1 := HB0.out.trans (hb1.mono (by simp)); have d0 := (hB1.cell (p := ⟨b, off + k * 4, none⟩) hb).trans c0)
    go_ret
    exact ⟨ret_int H.out.symm, hB1⟩
end Go.Proofs.YtfojipgbenbigaaDoor
