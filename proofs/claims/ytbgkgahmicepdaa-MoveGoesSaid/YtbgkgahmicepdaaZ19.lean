/-
  THE WALK of grid.Valid.
  THE WALKS of house.find and house.Valid.
  PLAIN LAWS over any program: a row of stores into a block; the block of a set that a call returns.
  HOW a move lies in a block.
-/
import Derived.Outline
import Derived.Deep.DeepCutAuto
import Derived.Test.YtbgkgahmicepdaaZ17
import Derived.Test.YtbgkgahmicepdaaZ2
import Derived.Test.YtbgkgahmicepdaaZ4
import Derived.Test.YtbgkgahmicepdaaZ5
namespace Go.Proofs.Ytbgkgahmicepdaa
open Go.RowKit Go.Shelf
attribute [local go_sem] Oper.semAt_some
def RoofIn (w : World) (b : Nat) (x : RoofR) : Prop := w.cell? ⟨b, 0, none⟩ = some (.string x.name) ∧ w.cell? ⟨b, 1, none⟩ = some (.int .i64 x.lo) ∧ w.cell? ⟨b, 2, none⟩ = some (.int .i64 x.hi) ∧ w.cell? ⟨b, 3, none⟩ = some (.int .i64 x.most)
theorem RoofIn.carry {w w' : World} {b : Nat} {x : RoofR} (h : RoofIn w b x) (hb : Below w.heap.size w w') : RoofIn w' b x := by
 have hlt : b < w.heap.size := World.block_lt_of_cell? _ _ h.1
 obtain ⟨a0, a1, a2, a3⟩ := h
 exact ⟨(hb.cell (p := ⟨b, 0, none⟩) hlt).trans a0, (hb.cell (p := ⟨b, 1, none⟩) hlt).trans a1, (hb.cell (p := ⟨b, 2, none⟩) hlt).trans a2, (hb.cell (p := ⟨b, 3, none⟩) hlt).trans a3⟩
theorem RoofIn.new (w : World) (x : RoofR) (t : TypeId) : RoofIn (w.alloc (.cells #[.string x.name, .int .i64 x.lo, .int .i64 x.hi, .int .i64 x.most] t)) w.heap.size x := by
 unfold RoofIn
 simp
set_option maxHeartbeats 1000000 in
theorem gname_any (s : ByteArray) (w : World) : Calls Try.prog 77 #[.string s] w fun e w' => e = .returned (.bool (isNameB s)) ∧ w = w' := by
 go_enter Try.func77, Try.ntmps77
 go_wp2_with (go_at_call 67; (with_reducible refine (isName_any s _).mono ?_); rintro e w1 ⟨rfl, rfl⟩)
 go_ret
 exact ⟨rfl, rfl⟩
set_option maxHeartbeats 1000000 in
theorem gwithin_any (n : Int) (w : World) : Calls Try.prog 78 #[.int .i64 n] w fun e w' => e = .returned (.bool (betB n 0 1048576)) ∧ w = w' := by
 by_cases h : 0 ≤ n
 ·have g := decide_eq_true h
  have HR : Hid (betB n 0 1048576 = decide (n ≤ 1048576)) := Lib.hid (by unfold betB; rw [g]; rfl)
  rw [HR.out]
  clear h
  go_enter Try.func78, Try.ntmps78
  go_wp2_with fail
  go_ret
  exact ⟨rfl, rfl⟩
 ·have g := decide_eq_false h
  have HR : Hid (betB n 0 1048576 = false) := Lib.hid (by unfold betB; rw [g]; rfl)
  rw [HR.out]
  clear h
  go_enter Try.func78, Try.ntmps78
  go_wp2_with fail
  go_ret
  exact ⟨rfl, rfl⟩
theorem ent_gvalid (args : Array Value) (w : World) : (callFunc 80 args).run Try.prog w = .ok (.enter 80 args) w := enters_of Try.func80 (by kernel_rfl) rfl args w
set_option maxHeartbeats 2000000 in
theorem gsame_any (b : Nat) (x y : RoofR) (w : World) (h : RoofIn w b x) (hlt : b < w.heap.size) :
  Calls Try.prog 80 #[.agg #[.string y.name, .int .i64 y.lo, .int .i64 y.hi, .int .i64 y.most], .pointer (some ⟨b, 0, none⟩)] w fun e w' => e = .returned (.bool (decide (y.name = x.name))) ∧ Below w.heap.size w w' := by
 obtain ⟨a0, a1, a2, a3⟩ := h
 go_enter Try.func80, Try.ntmps80
 go_wp2_with fail
 go_ret
 exact ⟨ret_bool (str_eq _ _), below_new _ _⟩
theorem asks_roof {w : World} {b : Nat} {x : RoofR} (h : RoofIn w b x) (hlt : b < w.heap.size) : AsksRoof 80 #[.pointer (some ⟨b, 0, none⟩)] w.heap.size w (fun y => decide (y.name = x.name)) := by
 intro W r hb
 exact gsame_any b x r W (h.carry hb) (Nat.lt_of_lt_of_le hlt hb.size)
theorem roof_contains_n (a : Option Addr) (M : List RoofR) (n cap n₀ g : Nat) (cb : Array Value) (p : RoofR → Bool) (w : World) (hn : n = M.length) (eg : ∀ args w, (callFunc g args).run Try.prog w = .ok (.enter g args) w)
  (hl : n ≤ 1100) (hn₀ : n₀ ≤ w.heap.size) (hI : Roofs n₀ w a M) (hp : AsksRoof g cb n₀ w p) :
  Calls Try.prog 79 #[.slice a n cap, .func (.func g) #[] cb] w fun e w' => e = .returned (.bool (roof_any M p)) ∧ Below w.heap.size w w' := by
 subst hn
 exact roof_containsFunc a M cap n₀ g cb p w eg hl hn₀ hI hp
theorem rg_take {L : List RoofR} {k j : Nat} (h : j < k) : rg (L.take k) j = rg L j := by
 unfold rg
 rw [List.getElem?_take, if_pos h]
theorem roof_twice {L : List RoofR} {k : Nat} (hk : k ≤ L.length) (s : ByteArray) : roof_any (L.take k) (fun y => decide (y.name = s)) = false ↔ ∀ j, j < k → (rg L j).name ≠ s := by
 unfold roof_any
 rw [decide_eq_false_iff_not]
 have hl : (L.take k).length = k := by rw [List.length_take]; omega
 rcases roof_first_cases (L.take k) (fun y => decide (y.name = s)) with ⟨e, n⟩ | ⟨i, hi, e, hn, _⟩
 ·rw [hl] at n
  refine ⟨fun _ j hj => ?_, fun _ => by omega⟩
  have := n j hj
  rw [rg_take hj] at this
  simpa using this
 ·rw [hl] at hi
  refine ⟨fun h => absurd (by omega) h, fun h => absurd ?_ (h i hi)⟩
  rw [rg_take hi] at hn
  simpa using hn
set_option maxRecDepth 100000 in
set_option maxHeartbeats 16000000 in
theorem gridvalid_any (a : Option Addr) (L : List RoofR) (c : Nat) (w : World) (hl : L.length ≤ 1000) (hcap : L.length ≤ c) (h : Roofs w.heap.size w a L) :
  Calls Try.prog 68 #[.slice a L.length c] w fun e w' => e = .returned (.bool (roofsB L)) ∧ Below w.heap.size w w' := by
 have HU := Lib.hid h
 clear h
 by_cases q : 20 < L.length
 ·have HR : Hid (roofsB L = false) := Lib.hid (by
   cases e : roofsB L
   ·rfl
   ·have := (roofsB_iff.1 e).1; omega)
  rw [HR.out]
  have g : decide ((20 : Int) < L.length) = true := decide_eq_true (by omega)
  clear q
  go_enter Try.func68, Try.ntmps68
  go_wp2_with fail
  go_ret
  exact ⟨rfl, Below.refl _ _⟩
 have g : decide ((20 : Int) < L.length) = false := decide_eq_false (by omega)
 have hq : L.length ≤ 20 := by omega
 clear q
 go_enter Try.func68, Try.ntmps68
 go_wp2_with fail
 clear g
 go_loopw [10] (fun i wr => ∃ k : Nat, k ≤ L.length ∧ i = .int .i64 k ∧ Hid (∀ j, j < k → RoofAt L j) ∧ Below w.heap.size w wr) (fun i _ => L.length - (intOf i).toNat)
 case atStart => exact ⟨0, Nat.zero_le _, rfl, Lib.hid (fun _ h => absurd h (Nat.not_lt_zero _)), Below.refl _ _⟩
 case round =>
  obtain ⟨k, hk, rfl, HO, hB⟩ := hrel
  by_cases hlt : k < L.length
  ·obtain ⟨b, off, rfl, hb, hc⟩ := HU.out (by omega)
   obtain ⟨e0, e1, e2, e3⟩ := hc k hlt
   have c0 := (hB.cell (p := ⟨b, _, none⟩) hb).trans e0
   have c1 := (hB.cell (p := ⟨b, _, none⟩) hb).trans e1
   have c2 := (hB.cell (p := ⟨b, _, none⟩) hb).trans e2
   have c3 := (hB.cell (p := ⟨b, _, none⟩) hb).trans e3
   have i0 : 0 ≤ (k : Int) := by omega
   have i1 : (k : Int) < (L.length : Int) := by omega
   have s1 : IntKind.i64.wrap ((k : Int) + 1) = (k : Int) + 1 := IntWalk.i64_in _ (by omega)
   have hTl : k = (L.take k).length := by rw [List.length_take]; omega
   have HTL := Lib.hid hTl
   have k1 : k ≤ c := by omega
   have k2 : (k : Int) ≤ (c : Int) := by omega
   have HN : Hid (¬ RoofAt L k → roofsB L = false) := Lib.hid (roofs_no hlt)
   have HAT : Hid (RoofAt L k ↔ RoofOK (rg L k) ∧ ∀ j, j < k → (rg L j).name ≠ (rg L k).name) := Lib.hid Iff.rfl
   have HTW := Lib.hid (roof_twice (L := L) (k := k) hk (rg L k).name)
   have HTK : Hid (Roofs w.heap.size w (some ⟨b, off, none⟩) (L.take k)) := Lib.hid (HU.out.take k)
   have HB := Lib.hid hB
   have HO2 : Hid (RoofAt L k → ∀ j, j < k + 1 → RoofAt L j) := Lib.hid fun h j hj => by
    rcases Nat.lt_or_eq_of_le (Nat.le_of_lt_succ hj) with l | l
    ·exact HO.out j l
    ·subst l; exact h
   generalize rg L k = x at *
   have HNEW := Lib.hid (RoofIn.new wr x 87)
   have hB1 := hB.alloc hB.size (.cells #[.string x.name, .int .i64 x.lo, .int .i64 x.hi, .int .i64 x.most] 87)
   clear hc e0 e1 e2 e3 HO hTl hB
   go_upto_region 6 with (fail)
   have HS1 : Hid (Below wr.heap.size wr (wr.alloc (.cells #[.string x.name, .int .i64 x.lo, .int .i64 x.hi, .int .i64 x.most] 87))) := Lib.hid (below_new _ _)
   have hz : wr.heap.size < (wr.alloc (.cells #[.string x.name, .int .i64 x.lo, .int .i64 x.hi, .int .i64 x.most] 87)).heap.size := by simp
   clear c0 c1 c2 c3
   obtain ⟨B, hBe⟩ : ∃ b, wr.heap.size = b := ⟨_, rfl⟩
   simp only [hBe] at HNEW hz ⊢
   generalize wr.alloc (.cells #[.string x.name, .int .i64 x.lo, .int .i64 x.hi, .int .i64 x.most] 87) = W1 at *
   obtain ⟨d0, d1, d2, d3⟩ := HNEW.out
   cases h1 : isNameB x.name
   ·have H1 := Lib.hid h1
    have HZ := Lib.hid (HN.out (fun hh => absurd (HAT.out.1 hh) (fun h => by have := h.1.1; rw [H1.out] at this; cases this)))
    clear h1
    go_wp2_with (first
     | (go_at_call 77; (with_reducible refine (gname_any x.name _).mono ?_); rintro e w2 ⟨rfl, rfl⟩; rw [H1.out])
     | (go_at_call 78; (with_reducible refine (gwithin_any x.lo _).mono ?_); rintro e w3 ⟨rfl, rfl⟩; rw [H2.out])
     | (go_at_call 78; (with_reducible refine (gwithin_any x.hi _).mono ?_); rintro e w4 ⟨rfl, rfl⟩; rw [H3.out]))
    go_ret
    exact ⟨ret_bool HZ.out.symm, hB1⟩
   have H1 := Lib.hid h1
   clear h1
   cases h2 : betB x.lo 0 1048576
   ·have H2 := Lib.hid h2
    have HZ := Lib.hid (HN.out (fun hh => absurd (HAT.out.1 hh) (fun h => by have := h.1; unfold RoofOK at this; have e : betB x.lo 0 1048576 = true := betB_iff.2 (by omega); rw [H2.out] at e; cases e)))
    clear h2
    go_wp2_with (first
     | (go_at_call 77; (with_reducible refine (gname_any x.name _).mono ?_); rintro e w2 ⟨rfl, rfl⟩; rw [H1.out])
     | (go_at_call 78; (with_reducible refine (gwithin_any x.lo _).mono ?_); rintro e w3 ⟨rfl, rfl⟩; rw [H2.out])
     | (go_at_call 78; (with_reducible refine (gwithin_any x.hi _).mono ?_); rintro e w4 ⟨rfl, rfl⟩; rw [H3.out]))
    go_ret
    exact ⟨ret_bool HZ.out.symm, hB1⟩
   have H2 := Lib.hid h2
   clear h2
   cases h3 : betB x.hi 0 1048576
   ·have H3 := Lib.hid h3
    have HZ := Lib.hid (HN.out (fun hh => absurd (HAT.out.1 hh) (fun h => by have := h.1; unfold RoofOK at this; have e : betB x.hi 0 1048576 = true := betB_iff.2 (by omega); rw [H3.out] at e; cases e)))
    clear h3
    go_wp2_with (first
     | (go_at_call 77; (with_reducible refine (gname_any x.name _).mono ?_); rintro e w2 ⟨rfl, rfl⟩; rw [H1.out])
     | (go_at_call 78; (with_reducible refine (gwithin_any x.lo _).mono ?_); rintro e w3 ⟨rfl, rfl⟩; rw [H2.out])
     | (go_at_call 78; (with_reducible refine (gwithin_any x.hi _).mono ?_); rintro e w4 ⟨rfl, rfl⟩; rw [H3.out]))
    go_ret
    exact ⟨ret_bool HZ.out.symm, hB1⟩
   have H3 := Lib.hid h3
   clear h3
   cases h4 : decide (x.hi < x.lo)
   case true =>
    have H4 := Lib.hid h4
    have HZ := Lib.hid (HN.out (fun hh => absurd (HAT.out.1 hh) (fun h => by have := h.1; unfold RoofOK at this; have e := of_decide_eq_true H4.out; omega)))
    go_wp2_with (first
     | (go_at_call 77; (with_reducible refine (gname_any x.name _).mono ?_); rintro e w2 ⟨rfl, rfl⟩; rw [H1.out])
     | (go_at_call 78; (with_reducible refine (gwithin_any x.lo _).mono ?_); rintro e w3 ⟨rfl, rfl⟩; rw [H2.out])
     | (go_at_call 78; (with_reducible refine (gwithin_any x.hi _).mono ?_); rintro e w4 ⟨rfl, rfl⟩; rw [H3.out]))
    go_ret
    exact ⟨ret_bool HZ.out.symm, hB1⟩
   have H4 := Lib.hid h4
   cases h5 : decide (x.most < 0)
   case true =>
    have H5 := Lib.hid h5
    have HZ := Lib.hid (HN.out (fun hh => absurd (HAT.out.1 hh) (fun h => by have := h.1; unfold RoofOK at this; have e := of_decide_eq_true H5.out; omega)))
    go_wp2_with (first
     | (go_at_call 77; (with_reducible refine (gname_any x.name _).mono ?_); rintro e w2 ⟨rfl, rfl⟩; rw [H1.out])
     | (go_at_call 78; (with_reducible refine (gwithin_any x.lo _).mono ?_); rintro e w3 ⟨rfl, rfl⟩; rw [H2.out])
     | (go_at_call 78; (with_reducible refine (gwithin_any x.hi _).mono ?_); rintro e w4 ⟨rfl, rfl⟩; rw [H3.out]))
    go_ret
    exact ⟨ret_bool HZ.out.symm, hB1⟩
   have H5 := Lib.hid h5
   cases h6 : decide (67108864 < x.most)
   case true =>
    have H6 := Lib.hid h6
    have HZ := Lib.hid (HN.out (fun hh => absurd (HAT.out.1 hh) (fun h => by have := h.1; unfold RoofOK at this; have e := of_decide_eq_true H6.out; omega)))
    go_wp2_with (first
     | (go_at_call 77; (with_reducible refine (gname_any x.name _).mono ?_); rintro e w2 ⟨rfl, rfl⟩; rw [H1.out])
     | (go_at_call 78; (with_reducible refine (gwithin_any x.lo _).mono ?_); rintro e w3 ⟨rfl, rfl⟩; rw [H2.out])
     | (go_at_call 78; (with_reducible refine (gwithin_any x.hi _).mono ?_); rintro e w4 ⟨rfl, rfl⟩; rw [H3.out]))
    go_ret
    exact ⟨ret_bool HZ.out.symm, hB1⟩
   have H6 := Lib.hid h6
   have HOK : Hid (RoofOK x) := Lib.hid (by
    have a2 := betB_iff.1 H2.out
    have a3 := betB_iff.1 H3.out
    have a4 := of_decide_eq_false H4.out
    have a5 := of_decide_eq_false H5.out
    have a6 := of_decide_eq_false H6.out
    exact ⟨H1.out, by omega, by omega, by omega, by omega, by omega⟩)
   have HCON : Hid (Calls Try.prog 79 #[.slice (some ⟨b, off, none⟩) k c, .func (.func 80) #[] #[.pointer (some ⟨B, 0, none⟩)]] W1 fun e w' => e = .returned (.bool (roof_any (L.take k) (fun y => decide (y.name = x.name)))) ∧ Below W1.heap.size W1 w') := Lib.hid
    (roof_contains_n (some ⟨b, off, none⟩) (L.take k) k c _ _ _ (fun y => decide (y.name = x.name)) _ HTL.out ent_gvalid (by omega) (Nat.le_refl _) ((HTK.out.below hB1).mono hB1.size) (asks_roof HNEW.out hz))
   cases h7 : roof_any (L.take k) (fun y => decide (y.name = x.name))
   ·have H7 := Lib.hid h7
    have HY := Lib.hid (HO2.out (HAT.out.2 ⟨HOK.out, HTW.out.1 h7⟩))
    rw [h7] at HCON
    clear h7
    go_wp2_with (first
     | (go_at_call 77; (with_reducible refine (gname_any x.name _).mono ?_); rintro e w2 ⟨rfl, rfl⟩; rw [H1.out])
     | (go_at_call 78; (with_reducible refine (gwithin_any x.lo _).mono ?_); rintro e w3 ⟨rfl, rfl⟩; rw [H2.out])
     | (go_at_call 78; (with_reducible refine (gwithin_any x.hi _).mono ?_); rintro e w4 ⟨rfl, rfl⟩; rw [H3.out])
     | (go_at_call 79; (with_reducible refine HCON.out.mono ?_); rintro e w5 ⟨rfl, hb5⟩))
    go_roundw
    case rel => exact ⟨k + 1, by omega, by go_num, HY, hB1.trans (hb5.mono hB1.size)⟩
    case measure => simp [intOf]; omega
   ·have H7 := Lib.hid h7
    have HZ := Lib.hid (HN.out (fun hh => by
     have := HTW.out.2 (HAT.out.1 hh).2
     rw [H7.out] at this
     cases this))
    rw [h7] at HCON
    clear h7
    go_wp2_with (first
     | (go_at_call 77; (with_reducible refine (gname_any x.name _).mono ?_); rintro e w2 ⟨rfl, rfl⟩; rw [H1.out])
     | (go_at_call 78; (with_reducible refine (gwithin_any x.lo _).mono ?_); rintro e w3 ⟨rfl, rfl⟩; rw [H2.out])
     | (go_at_call 78; (with_reducible refine (gwithin_any x.hi _).mono ?_); rintro e w4 ⟨rfl, rfl⟩; rw [H3.out])
     | (go_at_call 79; (with_reducible refine HCON.out.mono ?_); rintro e w5 ⟨rfl, hb5⟩))
    go_ret
    exact ⟨ret_bool HZ.out.symm, hB1.trans (hb5.mono hB1.size)⟩
  ·obtain rfl : k = L.length := by omega
   have HR := Lib.hid (roofsB_iff.2 ⟨hq, HO.out⟩)
   go_wp2_with fail
   go_ret
   exact ⟨ret_bool HR.out.symm, hB⟩
end Go.Proofs.Ytbgkgahmicepdaa
namespace Go.Proofs.Ytbgkgahmicepdaa
open Go.RowKit Go.Shelf
attribute [local go_sem] Oper.semAt_some
theorem ent_find (args : Array Value) (w : World) : (callFunc 85 args).run Try.prog w = .ok (.enter 85 args) w := enters_of Try.func85 (by kernel_rfl) rfl args w
set_option maxHeartbeats 2000000 in
theorem hsame_any (b : Nat) (s : ByteArray) (y : SetR) (w : World) (h : w.cell? ⟨b, 0, none⟩ = some (.string s)) :
  Calls Try.prog 85 #[.agg #[.string y.name, .int .i64 y.depth, .int .i64 y.low, .int .i64 y.high, .int .i64 y.length, .slice y.la y.lines.length y.lc, .int .i64 y.pipe, .int .i64 y.arbor, .int .i64 y.purchase, .int .i64 y.most, .int .i64 y.brake, .slice y.ia y.items.length y.ic, .slice y.ba y.bricks.length y.bc], .pointer (some ⟨b, 0, none⟩)] w fun e w' => e = .returned (.bool (decide (y.name = s))) ∧ Below w.heap.size w w' := by
 have hlt : b < w.heap.size := World.block_lt_of_cell? _ _ h
 go_enter Try.func85, Try.ntmps85
 go_wp2_with fail
 go_ret
 exact ⟨ret_bool (str_eq _ _), below_new _ _⟩
theorem asks_find {w : World} {b : Nat} {s : ByteArray} (h : w.cell? ⟨b, 0, none⟩ = some (.string s)) : AsksSet 85 #[.pointer (some ⟨b, 0, none⟩)] w.heap.size w (fun y => decide (y.name = s)) := by
 intro W r hb
 exact hsame_any b s r W ((hb.cell (p := ⟨b, 0, none⟩) (World.block_lt_of_cell? _ _ h)).trans h)
set_option maxRecDepth 100000 in
set_option maxHeartbeats 4000000 in
theorem hfind_any (h : HouseR) (s : ByteArray) (w : World) (hh : HouseIn w h) :
  Calls Try.prog 70 #[.agg #[.string h.name, .int .i64 h.height, .slice h.sa h.sets.length h.sc, .slice h.ra h.roofs.length h.rc], .string s] w fun e w' => e = .returned (.int .i64 (findS h.sets s)) ∧ Below w.heap.size w w' := by
 have hB := (below_new w (.cells #[.string h.name, .int .i64 h.height, .slice h.sa h.sets.length h.sc, .slice h.ra h.roofs.length h.rc] 25)).alloc (by simp) (.cells #[.string s] 9)
 have hs0 : ((w.alloc (.cells #[.string h.name, .int .i64 h.height, .slice h.sa h.sets.length h.sc, .slice h.ra h.roofs.length h.rc] 25)).alloc (.cells #[.string s] 9)).cell? ⟨w.heap.size + 1, 0, none⟩ = some (.string s) := by simp
 have HA := Lib.hid (asks_find hs0)
 have HI : Hid (Calls Try.prog 65 #[.slice h.sa h.sets.length h.sc, .func (.func 85) #[] #[.pointer (some ⟨w.heap.size + 1, 0, none⟩)]] ((w.alloc (.cells #[.string h.name, .int .i64 h.height, .slice h.sa h.sets.length h.sc, .slice h.ra h.roofs.length h.rc] 25)).alloc (.cells #[.string s] 9)) fun e w' => e = .returned (.int .i64 (set_first h.sets (fun y => decide (y.name = s)))) ∧ Below ((w.alloc (.cells #[.string h.name, .int .i64 h.height, .slice h.sa h.sets.length h.sc, .slice h.ra h.roofs.length h.rc] 25)).alloc (.cells #[.string s] 9)).heap.size ((w.alloc (.cells #[.string h.name, .int .i64 h.height, .slice h.sa h.sets.length h.sc, .slice h.ra h.roofs.length h.rc] 25)).alloc (.cells #[.string s] 9)) w') := Lib.hid
  (set_indexFunc h.sa h.sets h.sc _ _ _ (fun y => decide (y.name = s)) _ ent_find (by have := hh.slen; omega) (Nat.le_refl _) (hh.sets.grow hB) HA.out)
 have HBB := Lib.hid hB
 clear hs0 HA hB hh
 go_enter Try.func70, Try.ntmps70
 go_wp2_with (go_at_call 65; (with_reducible refine HI.out.mono ?_); rintro e w1 ⟨rfl, hb1⟩)
 go_ret
 exact ⟨rfl, HBB.out.trans (hb1.mono HBB.out.size)⟩
set_option maxRecDepth 100000 in
set_option maxHeartbeats 32000000 in
theorem housevalid_any (h : HouseR) (w : World) (hh : HouseIn w h) :
  Calls Try.prog 48 #[.agg #[.string h.name, .int .i64 h.height, .slice h.sa h.sets.length h.sc, .slice h.ra h.roofs.length h.rc]] w fun e w' => e = .returned (.bool (houseB h)) ∧ Below w.heap.size w w' := by
 have HH := Lib.hid hh
 have hsl := hh.slen
 have hcap := hh.scap
 have HGV : Hid (∀ w' : World, Below w.heap.size w w' → Calls Try.prog 68 #[.slice h.ra h.roofs.length h.rc] w' fun e w2 => e = .returned (.bool (roofsB h.roofs)) ∧ Below w'.heap.size w' w2) := Lib.hid fun w' hb => gridvalid_any h.ra h.roofs h.rc w' hh.rlen hh.rcap (hh.roofs.grow hb)
 have HNO : Hid ((¬ (isNameB h.name = true ∧ 1 ≤ h.height ∧ h.height ≤ 1048576 ∧ h.sets.length ≤ 60 ∧ RoofsOK h.roofs)) → houseB h = false) := Lib.hid fun n => by
  cases e : houseB h
  ·rfl
  ·obtain ⟨a, b, c, d, e, _⟩ := houseB_iff.1 e
   exact absurd ⟨a, b, c, d, e⟩ n
 have hat := HouseAt.new w h 25
 obtain ⟨sa, hsa⟩ : ∃ a, h.sa = a := ⟨_, rfl⟩
 have HSA := Lib.hid hsa
 rw [hsa] at hat ⊢
 have HAT := Lib.hid hat
 have hW0 := below_new w (.cells #[.string h.name, .int .i64 h.height, .slice sa h.sets.length h.sc, .slice h.ra h.roofs.length h.rc] 25)
 clear hh hat hsa
 cases h1 : isNameB h.name
 case false =>
  have H1 := Lib.hid h1
  have HZ := Lib.hid (HNO.out (fun q => by rw [H1.out] at q; exact absurd q.1 (by decide)))
  clear h1
  go_enter Try.func48, Try.ntmps48
  go_upto_region 1 with (fail)
  generalize w.alloc (.cells #[.string h.name, .int .i64 h.height, .slice sa h.sets.length h.sc, .slice h.ra h.roofs.length h.rc] 25) = W0 at *
  obtain ⟨k0, k1, k2, k3⟩ := HAT.out
  rw [HSA.out] at k2
  go_wp2_with (first
   | (go_at_call 67; (with_reducible refine (isName_any h.name _).mono ?_); rintro e w1 ⟨rfl, rfl⟩; rw [H1.out])
   | (go_at_call 68; (with_reducible refine (HGV.out _ hW0).mono ?_); rintro e w2 ⟨rfl, hb2⟩; rw [H5.out]; clear k0 k1 k2 k3; obtain ⟨k0, k1, k2, k3⟩ := HAT.out.carry hb2; rw [HSA.out] at k2))
  go_ret
  exact ⟨ret_bool HZ.out.symm, hW0⟩
 have H1 := Lib.hid h1
 clear h1
 cases h2 : decide (h.height < 1)
 case true =>
  have H2 := Lib.hid h2
  have HZ := Lib.hid (HNO.out (fun q => by have := of_decide_eq_true H2.out; omega))
  go_enter Try.func48, Try.ntmps48
  go_upto_region 1 with (fail)
  generalize w.alloc (.cells #[.string h.name, .int .i64 h.height, .slice sa h.sets.length h.sc, .slice h.ra h.roofs.length h.rc] 25) = W0 at *
  obtain ⟨k0, k1, k2, k3⟩ := HAT.out
  rw [HSA.out] at k2
  go_wp2_with (first
   | (go_at_call 67; (with_reducible refine (isName_any h.name _).mono ?_); rintro e w1 ⟨rfl, rfl⟩; rw [H1.out])
   | (go_at_call 68; (with_reducible refine (HGV.out _ hW0).mono ?_); rintro e w2 ⟨rfl, hb2⟩; rw [H5.out]; clear k0 k1 k2 k3; obtain ⟨k0, k1, k2, k3⟩ := HAT.out.carry hb2; rw [HSA.out] at k2))
  go_ret
  exact ⟨ret_bool HZ.out.symm, hW0⟩
 have H2 := Lib.hid h2
 cases h3 : decide (1048576 < h.height)
 case true =>
  have H3 := Lib.hid h3
  have HZ := Lib.hid (HNO.out (fun q => by have := of_decide_eq_true H3.out; omega))
  go_enter Try.func48, Try.ntmps48
  go_upto_region 1 with (fail)
  generalize w.alloc (.cells #[.string h.name, .int .i64 h.height, .slice sa h.sets.length h.sc, .slice h.ra h.roofs.length h.rc] 25) = W0 at *
  obtain ⟨k0, k1, k2, k3⟩ := HAT.out
  rw [HSA.out] at k2
  go_wp2_with (first
   | (go_at_call 67; (with_reducible refine (isName_any h.name _).mono ?_); rintro e w1 ⟨rfl, rfl⟩; rw [H1.out])
   | (go_at_call 68; (with_reducible refine (HGV.out _ hW0).mono ?_); rintro e w2 ⟨rfl, hb2⟩; rw [H5.out]; clear k0 k1 k2 k3; obtain ⟨k0, k1, k2, k3⟩ := HAT.out.carry hb2; rw [HSA.out] at k2))
  go_ret
  exact ⟨ret_bool HZ.out.symm, hW0⟩
 have H3 := Lib.hid h3
 cases h4 : decide ((60 : Int) < (h.sets.length : Int))
 case true =>
  have H4 := Lib.hid h4
  have HZ := Lib.hid (HNO.out (fun q => by have := of_decide_eq_true H4.out; omega))
  go_enter Try.func48, Try.ntmps48
  go_upto_region 1 with (fail)
  generalize w.alloc (.cells #[.string h.name, .int .i64 h.height, .slice sa h.sets.length h.sc, .slice h.ra h.roofs.length h.rc] 25) = W0 at *
  obtain ⟨k0, k1, k2, k3⟩ := HAT.out
  rw [HSA.out] at k2
  go_wp2_with (first
   | (go_at_call 67; (with_reducible refine (isName_any h.name _).mono ?_); rintro e w1 ⟨rfl, rfl⟩; rw [H1.out])
   | (go_at_call 68; (with_reducible refine (HGV.out _ hW0).mono ?_); rintro e w2 ⟨rfl, hb2⟩; rw [H5.out]; clear k0 k1 k2 k3; obtain ⟨k0, k1, k2, k3⟩ := HAT.out.carry hb2; rw [HSA.out] at k2))
  go_ret
  exact ⟨ret_bool HZ.out.symm, hW0⟩
 have H4 := Lib.hid h4
 cases h5 : roofsB h.roofs
 case false =>
  have H5 := Lib.hid h5
  have HZ := Lib.hid (HNO.out (fun q => by rw [roofsB_iff.2 q.2.2.2.2] at H5; exact absurd H5.out (by decide)))
  clear h5
  go_enter Try.func48, Try.ntmps48
  go_upto_region 1 with (fail)
  generalize w.alloc (.cells #[.string h.name, .int .i64 h.height, .slice sa h.sets.length h.sc, .slice h.ra h.roofs.length h.rc] 25) = W0 at *
  obtain ⟨k0, k1, k2, k3⟩ := HAT.out
  rw [HSA.out] at k2
  go_wp2_with (first
   | (go_at_call 67; (with_reducible refine (isName_any h.name _).mono ?_); rintro e w1 ⟨rfl, rfl⟩; rw [H1.out])
   | (go_at_call 68; (with_reducible refine (HGV.out _ hW0).mono ?_); rintro e w2 ⟨rfl, hb2⟩; rw [H5.out]; clear k0 k1 k2 k3; obtain ⟨k0, k1, k2, k3⟩ := HAT.out.carry hb2; rw [HSA.out] at k2))
  go_ret
  exact ⟨ret_bool HZ.out.symm, hW0.trans (hb2.mono hW0.size)⟩
 have H5 := Lib.hid h5
 clear h5
 have HOK : Hid ((∀ k, k < h.sets.length → SetAtOK h k) → houseB h = true) := Lib.hid fun q => houseB_iff.2 ⟨H1.out, by have := of_decide_eq_false H2.out; omega, by have := of_decide_eq_false H3.out; omega, by have := of_decide_eq_false H4.out; omega, roofsB_iff.1 H5.out, q⟩
 go_enter Try.func48, Try.ntmps48
 go_upto_region 1 with (fail)
 generalize w.alloc (.cells #[.string h.name, .int .i64 h.height, .slice sa h.sets.length h.sc, .slice h.ra h.roofs.length h.rc] 25) = W0 at *
 obtain ⟨k0, k1, k2, k3⟩ := HAT.out
 rw [HSA.out] at k2
 go_wp2_with (first
   | (go_at_call 67; (with_reducible refine (isName_any h.name _).mono ?_); rintro e w1 ⟨rfl, rfl⟩; rw [H1.out])
   | (go_at_call 68; (with_reducible refine (HGV.out _ hW0).mono ?_); rintro e w2 ⟨rfl, hb2⟩; rw [H5.out]; clear k0 k1 k2 k3; obtain ⟨k0, k1, k2, k3⟩ := HAT.out.carry hb2; rw [HSA.out] at k2))
 have hB1 := hW0.trans (hb2.mono hW0.size)
 have HAT1 := Lib.hid (HAT.out.carry hb2)
 have hz : w.heap.size < w2.heap.size := World.block_lt_of_cell? _ _ HAT1.out.1
 clear k0 k1 k2 k3 hb2 hW0 h2 h3 h4 HNO HGV HAT
 go_loopw [34] (fun i wr => ∃ k : Nat, k ≤ h.sets.length ∧ i = .int .i64 k ∧ Hid (∀ j, j < k → SetAtOK h j) ∧ Below w2.heap.size w2 wr) (fun i _ => h.sets.length - (intOf i).toNat)
 case atStart => exact ⟨0, Nat.zero_le _, rfl, Lib.hid (fun _ h => absurd h (Nat.not_lt_zero _)), Below.refl _ _⟩
 case round =>
  obtain ⟨k, hk, rfl, HO, hB⟩ := hrel
  have HB := Lib.hid hB
  by_cases hlt : k < h.sets.length
  ·have HIN : Hid (∀ w' : World, Below w2.heap.size w2 w' → HouseIn w' h) := Lib.hid fun w' q => HH.out.grow (hB1.trans (q.mono hB1.size))
   obtain ⟨b, off, esa, hb, hc⟩ := (HIN.out wr hB).sets (by omega)
   obtain rfl : sa = some ⟨b, off, none⟩ := HSA.out.symm.trans esa
   have HSET := Lib.hid ((HIN.out wr hB).all k hlt)
   obtain ⟨c0, c1, c2, c3, c4, c5, c6, c7, c8, c9, c10, c11, c12⟩ := hc k hlt
   have i0 : 0 ≤ (k : Int) := by omega
   have i1 : (k : Int) < (h.sets.length : Int) := by omega
   have s1 : IntKind.i64.wrap ((k : Int) + 1) = (k : Int) + 1 := IntWalk.i64_in _ (by omega)
   have HN : Hid (¬ SetAtOK h k → houseB h = false) := Lib.hid (house_no hlt)
   have HDEF : Hid (SetAtOK h k ↔ setB (hg h.sets k) = true ∧ (hg h.sets k).high ≤ h.height ∧ ∀ j, j < k → (hg h.sets j).name ≠ (hg h.sets k).name) := Lib.hid Iff.rfl
   have HFX := Lib.hid (find_at hlt)
   have HO2 : Hid (SetAtOK h k → ∀ j, j < k + 1 → SetAtOK h j) := Lib.hid fun q j hj => by
    rcases Nat.lt_or_eq_of_le (Nat.le_of_lt_succ hj) with l | l
    ·exact HO.out j l
    ·subst l; exact q
   generalize hg h.sets k = x at *
   have HNEW := Lib.hid (SetAt.new wr x 84)
   have hBW := below_new wr (.cells #[.string x.name, .int .i64 x.depth, .int .i64 x.low, .int .i64 x.high, .int .i64 x.length, .slice x.la x.lines.length x.lc, .int .i64 x.pipe, .int .i64 x.arbor, .int .i64 x.purchase, .int .i64 x.most, .int .i64 x.brake, .slice x.ia x.items.length x.ic, .slice x.ba x.bricks.length x.bc] 84)
   have hz2 : wr.heap.size < (wr.alloc (.cells #[.string x.name, .int .i64 x.depth, .int .i64 x.low, .int .i64 x.high, .int .i64 x.length, .slice x.la x.lines.length x.lc, .int .i64 x.pipe, .int .i64 x.arbor, .int .i64 x.purchase, .int .i64 x.most, .int .i64 x.brake, .slice x.ia x.items.length x.ic, .slice x.ba x.bricks.length x.bc] 84)).heap.size := by simp
   clear hc HO esa
   go_upto_region 6 with (fail)
   clear c0 c1 c2 c3 c4 c5 c6 c7 c8 c9 c10 c11 c12
   obtain ⟨B, hBe⟩ : ∃ b, wr.heap.size = b := ⟨_, rfl⟩
   simp only [hBe] at HNEW hz2 ⊢
   generalize wr.alloc (.cells #[.string x.name, .int .i64 x.depth, .int .i64 x.low, .int .i64 x.high, .int .i64 x.length, .slice x.la x.lines.length x.lc, .int .i64 x.pipe, .int .i64 x.arbor, .int .i64 x.purchase, .int .i64 x.most, .int .i64 x.brake, .slice x.ia x.items.length x.ic, .slice x.ba x.bricks.length x.bc] 84) = W1 at *
   have hBX : Below w2.heap.size w2 W1 := HB.out.trans (hBW.mono HB.out.size)
   have HHW := Lib.hid (HIN.out W1 hBX)
   have HBV := Lib.hid (batvalid_any x W1 (HSET.out.grow hBW))
   have x0 : ∀ wx, Below W1.heap.size W1 wx → wx.cell? ⟨B, 0, none⟩ = some (.string x.name) := fun wx q => (HNEW.out.below q hz2).1
   have x3 : ∀ wx, Below W1.heap.size W1 wx → wx.cell? ⟨B, 3, none⟩ = some (.int .i64 x.high) := fun wx q => (HNEW.out.below q hz2).2.2.2.1
   obtain ⟨d0, d1, d2, d3, d4, d5, d6, d7, d8, d9, d10, d11, d12⟩ := HNEW.out
   have HY : Hid (∀ wx, Below W1.heap.size W1 wx → HouseAt wx w.heap.size h) := Lib.hid fun wx q => HAT1.out.carry (hBX.trans (q.mono hBX.size))
   have y0 : ∀ wx, Below W1.heap.size W1 wx → wx.cell? ⟨w.heap.size, 0, none⟩ = some (.string h.name) := fun wx q => (HY.out wx q).1
   have y1 : ∀ wx, Below W1.heap.size W1 wx → wx.cell? ⟨w.heap.size, 1, none⟩ = some (.int .i64 h.height) := fun wx q => (HY.out wx q).2.1
   have y2 : ∀ wx, Below W1.heap.size W1 wx → wx.cell? ⟨w.heap.size, 2, none⟩ = some (.slice (some ⟨b, off, none⟩) h.sets.length h.sc) := fun wx q => by have := (HY.out wx q).2.2.1; rwa [HSA.out] at this
   have y3 : ∀ wx, Below W1.heap.size W1 wx → wx.cell? ⟨w.heap.size, 3, none⟩ = some (.slice h.ra h.roofs.length h.rc) := fun wx q => (HY.out wx q).2.2.2
   clear hB hBW
   cases h6 : setB x
   ·have H6 := Lib.hid h6
    have HZ := Lib.hid (HN.out (fun q => by have := (HDEF.out.1 q).1; rw [H6.out] at this; cases this))
    rw [h6] at HBV
    clear h6
    go_wp2_with (first
     | (go_at_call 69; (with_reducible refine HBV.out.mono ?_); rintro e w3 ⟨rfl, hb3⟩))
    go_ret
    exact ⟨ret_bool HZ.out.symm, hB1.trans ((hBX.trans (hb3.mono hBX.size)).mono hB1.size)⟩
   have H6 := Lib.hid h6
   rw [h6] at HBV
   clear h6
   cases h7 : decide (h.height < x.high)
   case true =>
    have H7 := Lib.hid h7
    have HZ := Lib.hid (HN.out (fun q => by have := (HDEF.out.1 q).2.1; have e := of_decide_eq_true H7.out; omega))
    go_wp2_with (first
     | (go_at_call 69; (with_reducible refine HBV.out.mono ?_); rintro e w3 ⟨rfl, hb3⟩))
    go_ret
    exact ⟨ret_bool HZ.out.symm, hB1.trans ((hBX.trans (hb3.mono hBX.size)).mono hB1.size)⟩
   have H7 := Lib.hid h7
   have HFI : Hid (∀ wx, Below W1.heap.size W1 wx → Calls Try.prog 70 #[.agg #[.string h.name, .int .i64 h.height, .slice (some ⟨b, off, none⟩) h.sets.length h.sc, .slice h.ra h.roofs.length h.rc], .string x.name] wx fun e w' => e = .returned (.int .i64 (findS h.sets x.name)) ∧ Below wx.heap.size wx w') := Lib.hid fun wx q => by
    have := hfind_any h x.name wx (HIN.out wx (hBX.trans (q.mono hBX.size)))
    rwa [HSA.out] at this
   obtain ⟨F, hF⟩ : ∃ F, findS h.sets x.name = F := ⟨_, rfl⟩
   rw [hF] at HFI HFX
   by_cases h8 : F = (k : Int)
   ·have g8 : (F != (k : Int)) = false := by simpa using h8
    have HT := Lib.hid (HO2.out (HDEF.out.2 ⟨H6.out, by have := of_decide_eq_false H7.out; omega, HFX.out.1 h8⟩))
    clear h8 hF
    go_wp2_with (first
     | (go_at_call 69; (with_reducible refine HBV.out.mono ?_); rintro e w3 ⟨rfl, hb3⟩)
     | (go_at_call 70; (with_reducible refine (HFI.out _ hb3).mono ?_); rintro e w4 ⟨rfl, hb4⟩))
    go_roundw
    case rel => exact ⟨k + 1, by omega, by go_num, HT, hBX.trans ((hb3.trans (hb4.mono hb3.size)).mono hBX.size)⟩
    case measure => simp [intOf]; omega
   ·have g8 : (F != (k : Int)) = true := by simpa using h8
    have HZ := Lib.hid (HN.out (fun q => h8 (HFX.out.2 (HDEF.out.1 q).2.2)))
    clear h8 hF
    go_wp2_with (first
     | (go_at_call 69; (with_reducible refine HBV.out.mono ?_); rintro e w3 ⟨rfl, hb3⟩)
     | (go_at_call 70; (with_reducible refine (HFI.out _ hb3).mono ?_); rintro e w4 ⟨rfl, hb4⟩))
    go_ret
    exact ⟨ret_bool HZ.out.symm, hB1.trans ((hBX.trans ((hb3.trans (hb4.mono hb3.size)).mono hBX.size)).mono hB1.size)⟩
  ·obtain rfl : k = h.sets.length := by omega
   have HR := Lib.hid (HOK.out HO.out)
   go_wp2_with fail
   go_ret
   exact ⟨ret_bool HR.out.symm, hB1.trans (hB.mono hB1.size)⟩
end Go.Proofs.Ytbgkgahmicepdaa
namespace Go.Proofs.Ytbgkgahmicepdaa
open Go.RowKit Go.Shelf
def setFrom (w : World) (b : Nat) : Nat → List Value → World
 | _, [] => w
 | j, v :: vs => setFrom (w.setCell ⟨b, j, none⟩ v) b (j + 1) vs
theorem below_from {m b : Nat} {W : World} : ∀ (vs : List Value) (w : World) (j : Nat), Below m W w → m ≤ b → Below m W (setFrom w b j vs)
 | [], _, _, h, _ => h
 | v :: vs, _, j, h, hb => below_from vs _ (j + 1) (h.setCell (p := ⟨b, j, none⟩) hb v) hb
theorem far_from : ∀ (vs : List Value) (w : World) (b j i : Nat), i < j → (setFrom w b j vs).cell? ⟨b, i, none⟩ = w.cell? ⟨b, i, none⟩
 | [], _, _, _, _, _ => rfl
 | v :: vs, w, b, j, i, h => (far_from vs _ b (j + 1) i (by omega)).trans (World.cell?_setCell_other _ _ _ _ (by intro q; injection q with _ q; omega))
theorem read_from : ∀ (vs : List Value) (w : World) (b j : Nat), (∀ i, i < vs.length → (w.cell? ⟨b, j + i, none⟩).isSome = true) → ∀ i (h : i < vs.length), (setFrom w b j vs).cell? ⟨b, j + i, none⟩ = some vs[i]
 | [], _, _, _, _, i, h => absurd h (Nat.not_lt_zero _)
 | v :: vs, w, b, j, hs, i, h => by
  have h0 := hs 0 (by simp)
  obtain ⟨u, hu⟩ := Option.isSome_iff_exists.1 h0
  match i, h with
  | 0, _ => exact (far_from vs _ b (j + 1) (j + 0) (by omega)).trans (World.cell?_setCell_same _ _ _ hu)
  | i + 1, h =>
   have := read_from vs (w.setCell ⟨b, j, none⟩ v) b (j + 1) (fun k hk => by
    rw [World.cell?_setCell_other _ _ _ _ (by intro q; injection q with _ q; omega), show j + 1 + k = j + (k + 1) by omega]
    exact hs (k + 1) (by simpa using hk)) i (by simpa using h)
   rw [show j + (i + 1) = j + 1 + i by omega]
   exact this
end Go.Proofs.Ytbgkgahmicepdaa
namespace Go.Proofs.Ytbgkgahmicepdaa
open Go.RowKit Go.Shelf
def MvAt (w : World) (B : Nat) (m : Mv) : Prop := w.cell? ⟨B, 0, none⟩ = some (.string m.name) ∧ w.cell? ⟨B, 1, none⟩ = some (.int .i64 m.to) ∧ w.cell? ⟨B, 2, none⟩ = some (.int .i64 m.spd) ∧ w.cell? ⟨B, 3, none⟩ = some (.int .i64 m.rise) ∧ w.cell? ⟨B, 4, none⟩ = some (.int .i64 m.fall)
theorem MvAt.carry {W w : World} {B : Nat} {m : Mv} (c : MvAt W B m) (h : Below W.heap.size W w) : MvAt w B m := by
 have hz : B < W.heap.size := World.block_lt_of_cell? _ _ c.1
 exact ⟨(h.cell (p := ⟨B, 0, none⟩) hz).trans c.1, (h.cell (p := ⟨B, 1, none⟩) hz).trans c.2.1, (h.cell (p := ⟨B, 2, none⟩) hz).trans c.2.2.1, (h.cell (p := ⟨B, 3, none⟩) hz).trans c.2.2.2.1, (h.cell (p := ⟨B, 4, none⟩) hz).trans c.2.2.2.2⟩
theorem MvAt.new (W : World) (m : Mv) (t : TypeId) : MvAt (W.alloc (.cells #[.string m.name, .int .i64 m.to, .int .i64 m.spd, .int .i64 m.rise, .int .i64 m.fall] t)) W.heap.size m := ⟨by simp, by simp, by simp, by simp, by simp⟩
end Go.Proofs.Ytbgkgahmicepdaa
