/-
  HOW SLICES OF BEAMS AND OF SETS LIE IN MEMORY; slices.IndexFunc at sets, ContainsFunc at beams.
  PLAIN: houses: their beams and their sets; which houses are valid.
  HOW A HOUSE LIES IN MEMORY.
-/
import Derived.Test.YtbgkgahmicepdaaZ2
import Derived.Test.YtbgkgahmicepdaaZ3
namespace Go.Proofs.Ytbgkgahmicepdaa
open Go.RowKit Go.Shelf
attribute [local go_sem] Oper.semAt_some
structure RoofR where
 name : ByteArray
 lo : Int
 hi : Int
 most : Int

/-! ### Slices of api.Roof -/

def rg (L : List (RoofR)) (i : Nat) : RoofR := (L[i]?).getD ⟨⟨#[]⟩, 0, 0, 0⟩
def roofV (r : RoofR) : Value := .agg #[.string r.name, .int .i64 r.lo, .int .i64 r.hi, .int .i64 r.most]
def rflat (L : List (RoofR)) : List Value := L.flatMap fun r => [.string r.name, .int .i64 r.lo, .int .i64 r.hi, .int .i64 r.most]
theorem rflat_at (L : List (RoofR)) (i : Nat) (hi : i < L.length) : (rflat L)[i * 4]? = some (.string (rg L i).name) ∧ (rflat L)[i * 4 + 1]? = some (.int .i64 (rg L i).lo) ∧ (rflat L)[i * 4 + 2]? = some (.int .i64 (rg L i).hi) ∧ (rflat L)[i * 4 + 3]? = some (.int .i64 (rg L i).most) := by
 induction L generalizing i with
 | nil => simp at hi
 | cons x r ih =>
  match i with
  | 0 => exact ⟨rfl, rfl, rfl, rfl⟩
  | i + 1 =>
   have := ih i (by simpa using hi)
   have e : rflat (x :: r) = .string x.name :: .int .i64 x.lo :: .int .i64 x.hi :: .int .i64 x.most :: rflat r := rfl
   rw [e, show (i + 1) * 4 = i * 4 + 1 + 1 + 1 + 1 by omega]
   simpa [rg] using this
def Roofs (n₀ : Nat) (w : World) (a : Option Addr) (L : List (RoofR)) : Prop :=
 0 < L.length → ∃ b off, a = some ⟨b, off, none⟩ ∧ b < n₀ ∧ ∀ i, i < L.length → w.cell? ⟨b, off + i * 4, none⟩ = some (.string (rg L i).name) ∧ w.cell? ⟨b, off + i * 4 + 1, none⟩ = some (.int .i64 (rg L i).lo) ∧ w.cell? ⟨b, off + i * 4 + 2, none⟩ = some (.int .i64 (rg L i).hi) ∧ w.cell? ⟨b, off + i * 4 + 3, none⟩ = some (.int .i64 (rg L i).most)
theorem Roofs.below {n₀ : Nat} {w w' : World} {a : Option Addr} {L : List (RoofR)} (h : Roofs n₀ w a L) (hb : Below n₀ w w') : Roofs n₀ w' a L := fun hl => by
 obtain ⟨b, off, rfl, hlt, hc⟩ := h hl
 refine ⟨b, off, rfl, hlt, fun i hi => ?_⟩
 obtain ⟨c0, c1, c2, c3⟩ := hc i hi
 exact ⟨(hb.cell (p := ⟨b, _, none⟩) hlt).trans c0, (hb.cell (p := ⟨b, _, none⟩) hlt).trans c1, (hb.cell (p := ⟨b, _, none⟩) hlt).trans c2, (hb.cell (p := ⟨b, _, none⟩) hlt).trans c3⟩
theorem Roofs.mono {n₀ n₁ : Nat} {w : World} {a : Option Addr} {L : List (RoofR)} (h : Roofs n₀ w a L) (hn : n₀ ≤ n₁) : Roofs n₁ w a L := fun hl => by
 obtain ⟨b, off, rfl, hlt, hc⟩ := h hl
 exact ⟨b, off, rfl, by omega, hc⟩
theorem Roofs.grow {w w' : World} {a : Option Addr} {L : List (RoofR)} (h : Roofs w.heap.size w a L) (hb : Below w.heap.size w w') : Roofs w'.heap.size w' a L := (h.below hb).mono hb.size
theorem Roofs.nil {n₀ : Nat} {w : World} {a : Option Addr} : Roofs n₀ w a [] := fun h => absurd h (Nat.not_lt_zero _)
theorem Roofs.take {n₀ : Nat} {w : World} {a : Option Addr} {L : List (RoofR)} (h : Roofs n₀ w a L) (n : Nat) : Roofs n₀ w a (L.take n) := fun hl => by
 have hl' : 0 < L.length := by rw [List.length_take] at hl; omega
 obtain ⟨b, off, rfl, hlt, hc⟩ := h hl'
 refine ⟨b, off, rfl, hlt, fun i hi => ?_⟩
 rw [List.length_take] at hi
 have e : rg (L.take n) i = rg L i := by unfold rg; rw [List.getElem?_take, if_pos (by omega)]
 rw [e]
 exact hc i (by omega)
def AsksRoof (g : Nat) (cb : Array Value) (n₀ : Nat) (w : World) (p : RoofR → Bool) : Prop :=
 ∀ (W : World) (r : RoofR), Below n₀ w W → Calls Try.prog g (#[roofV r] ++ cb) W fun e w' => e = .returned (.bool (p r)) ∧ Below W.heap.size W w'
def roof_first (L : List (RoofR)) (p : RoofR → Bool) : Int := match (List.range L.length).find? (fun i => p (rg L i)) with
 | some i => i
 | none => -1
theorem roof_first_hit (L : List (RoofR)) (p : RoofR → Bool) (k : Nat) (hk : k < L.length) (h : p (rg L k) = true) (hn : ∀ j, j < k → p (rg L j) = false) : roof_first L p = k := by
 unfold roof_first
 have : (List.range L.length).find? (fun i => p (rg L i)) = some k := by
  rw [List.find?_eq_some_iff_getElem]
  refine ⟨by simpa using h, k, by simpa using hk, by simp, fun j hj => ?_⟩
  simpa using hn j hj
 rw [this]
theorem roof_first_miss (L : List (RoofR)) (p : RoofR → Bool) (hn : ∀ j, j < L.length → p (rg L j) = false) : roof_first L p = -1 := by
 unfold roof_first
 have : (List.range L.length).find? (fun i => p (rg L i)) = none := by
  rw [List.find?_eq_none]
  intro x hx
  simpa using hn x (by simpa using hx)
 rw [this]
theorem roof_first_cases (L : List (RoofR)) (p : RoofR → Bool) : (roof_first L p = -1 ∧ ∀ j, j < L.length → p (rg L j) = false) ∨ ∃ k : Nat, k < L.length ∧ roof_first L p = k ∧ p (rg L k) = true ∧ ∀ j, j < k → p (rg L j) = false := by
 have main : ∀ n, n ≤ L.length → (∀ j, j < n → p (rg L j) = false) ∨ ∃ k, k < n ∧ p (rg L k) = true ∧ ∀ j, j < k → p (rg L j) = false := by
  intro n
  induction n with
  | zero => exact fun _ => .inl fun j hj => absurd hj (Nat.not_lt_zero _)
  | succ n ih =>
   intro hn
   rcases ih (by omega) with h | ⟨k, hk, h1, h2⟩
   ·cases e : p (rg L n)
    ·refine .inl fun j hj => ?_
     rcases Nat.lt_or_ge j n with l | l
     ·exact h j l
     ·obtain rfl : j = n := by omega
      exact e
    ·exact .inr ⟨n, by omega, e, h⟩
   ·exact .inr ⟨k, by omega, h1, h2⟩
 rcases main L.length (Nat.le_refl _) with h | ⟨k, hk, h1, h2⟩
 ·exact .inl ⟨roof_first_miss L p h, h⟩
 ·exact .inr ⟨k, hk, roof_first_hit L p k hk h1 h2, h1, h2⟩
def roof_any (L : List (RoofR)) (p : RoofR → Bool) : Bool := decide (0 ≤ roof_first L p)
set_option maxHeartbeats 2000000 in
theorem roof_indexFunc (a : Option Addr) (L : List (RoofR)) (cap n₀ g : Nat) (cb : Array Value) (p : RoofR → Bool) (w : World) (eg : ∀ args w, (callFunc g args).run Try.prog w = .ok (.enter g args) w)
  (hl : L.length ≤ 1100) (hn₀ : n₀ ≤ w.heap.size) (hI : Roofs n₀ w a L) (hp : AsksRoof g cb n₀ w p) :
  Calls Try.prog 88 #[.slice a L.length cap, .func (.func g) #[] cb] w fun e w' => e = .returned (.int .i64 (roof_first L p)) ∧ Below w.heap.size w w' := by
 have HI := Lib.hid hI; clear hI
 have HP := Lib.hid hp; clear hp
 go_enter Try.func88, Try.ntmps88
 go_wp2
 go_loopw [8] (fun i wr => ∃ k : Nat, k ≤ L.length ∧ i = .int .i64 k ∧ Below w.heap.size w wr ∧ Hid (∀ j, j < k → p (rg L j) = false)) (fun i _ => L.length - (intOf i).toNat)
 case atStart => exact ⟨0, Nat.zero_le _, rfl, Below.refl _ _, Lib.hid (fun _ h => absurd h (Nat.not_lt_zero _))⟩
 case round =>
  obtain ⟨k, hk, rfl, hB, HA⟩ := hrel
  by_cases hlt : k < L.length
  ·obtain ⟨b, off, rfl, hb, hc⟩ := HI.out (by omega)
   obtain ⟨c0, c1, c2, c3⟩ := hc k hlt
   have d0 := (hB.cell (p := ⟨b, off + k * 4, none⟩) (show b < w.heap.size by omega)).trans c0
   have d1 := (hB.cell (p := ⟨b, off + k * 4 + 1, none⟩) (show b < w.heap.size by omega)).trans c1
   have d2 := (hB.cell (p := ⟨b, off + k * 4 + 2, none⟩) (show b < w.heap.size by omega)).trans c2
   have d3 := (hB.cell (p := ⟨b, off + k * 4 + 3, none⟩) (show b < w.heap.size by omega)).trans c3
   clear c0 c1 c2 c3 hc
   have HC := Lib.hid (show Calls Try.prog g (#[.agg #[.string (rg L k).name, .int .i64 (rg L k).lo, .int .i64 (rg L k).hi, .int .i64 (rg L k).most]] ++ cb) wr _ from HP.out wr (rg L k) (hB.mono hn₀))
   obtain ⟨bv, hbv⟩ : ∃ bv, p (rg L k) = bv := ⟨_, rfl⟩
   rw [hbv] at HC
   cases bv
   ·have HB : Hid (∀ j, j < k + 1 → p (rg L j) = false) := Lib.hid fun j hj => by
     rcases Nat.lt_or_ge j k with l | l
     ·exact HA.out j l
     ·obtain rfl : j = k := by omega
      exact hbv
    clear hbv
    go_wp2_with ((with_reducible refine HC.out.mono ?_); rintro e w1 ⟨rfl, hb1⟩)
    go_roundw
    case rel => exact ⟨k + 1, by omega, by go_num, hB.trans (hb1.mono hB.size), HB⟩
    case measure => simp [intOf]; omega
   ·have H := Lib.hid (roof_first_hit L p k hlt hbv HA.out)
    clear hbv
    go_wp2_with ((with_reducible refine HC.out.mono ?_); rintro e w1 ⟨rfl, hb1⟩)
    go_ret
    exact ⟨ret_int H.out.symm, hB.trans (hb1.mono hB.size)⟩
  ·obtain rfl : k = L.length := by omega
   have H := Lib.hid (roof_first_miss L p HA.out)
   go_wp2
   go_ret
   exact ⟨ret_int H.out.symm, hB⟩

set_option maxHeartbeats 1000000 in
theorem roof_containsFunc (a : Option Addr) (L : List (RoofR)) (cap n₀ g : Nat) (cb : Array Value) (p : RoofR → Bool) (w : World) (eg : ∀ args w, (callFunc g args).run Try.prog w = .ok (.enter g args) w)
  (hl : L.length ≤ 1100) (hn₀ : n₀ ≤ w.heap.size) (hI : Roofs n₀ w a L) (hp : AsksRoof g cb n₀ w p) :
  Calls Try.prog 79 #[.slice a L.length cap, .func (.func g) #[] cb] w fun e w' => e = .returned (.bool (roof_any L p)) ∧ Below w.heap.size w w' := by
 have HC := Lib.hid (roof_indexFunc a L cap n₀ g cb p w eg hl hn₀ hI hp)
 clear hI hp eg
 go_enter Try.func79, Try.ntmps79
 go_wp2_with (go_at_call 88; (with_reducible refine HC.out.mono ?_); rintro e w1 ⟨rfl, hb1⟩)
 go_ret
 exact ⟨rfl, hb1⟩

/-! ### Slices of api.Set -/

def hg (L : List (SetR)) (i : Nat) : SetR := (L[i]?).getD ⟨⟨#[]⟩, 0, 0, 0, 0, none, [], 0, 0, 0, 0, 0, 0, none, [], 0, none, [], 0⟩
theorem hg_eq (L : List (SetR)) (i : Nat) (h : i < L.length) : hg L i = L[i] := by unfold hg; rw [List.getElem?_eq_getElem h]; rfl
def setV (r : SetR) : Value := .agg #[.string r.name, .int .i64 r.depth, .int .i64 r.low, .int .i64 r.high, .int .i64 r.length, .slice r.la r.lines.length r.lc, .int .i64 r.pipe, .int .i64 r.arbor, .int .i64 r.purchase, .int .i64 r.most, .int .i64 r.brake, .slice r.ia r.items.length r.ic, .slice r.ba r.bricks.length r.bc]
def hflat (L : List (SetR)) : List Value := L.flatMap fun r => [.string r.name, .int .i64 r.depth, .int .i64 r.low, .int .i64 r.high, .int .i64 r.length, .slice r.la r.lines.length r.lc, .int .i64 r.pipe, .int .i64 r.arbor, .int .i64 r.purchase, .int .i64 r.most, .int .i64 r.brake, .slice r.ia r.items.length r.ic, .slice r.ba r.bricks.length r.bc]
theorem hflat_at (L : List (SetR)) (i : Nat) (hi : i < L.length) : (hflat L)[i * 13]? = some (.string (hg L i).name) ∧ (hflat L)[i * 13 + 1]? = some (.int .i64 (hg L i).depth) ∧ (hflat L)[i * 13 + 2]? = some (.int .i64 (hg L i).low) ∧ (hflat L)[i * 13 + 3]? = some (.int .i64 (hg L i).high) ∧ (hflat L)[i * 13 + 4]? = some (.int .i64 (hg L i).length) ∧ (hflat L)[i * 13 + 5]? = some (.slice (hg L i).la (hg L i).lines.length (hg L i).lc) ∧ (hflat L)[i * 13 + 6]? = some (.int .i64 (hg L i).pipe) ∧ (hflat L)[i * 13 + 7]? = some (.int .i64 (hg L i).arbor) ∧ (hflat L)[i * 13 + 8]? = some (.int .i64 (hg L i).purchase) ∧ (hflat L)[i * 13 + 9]? = some (.int .i64 (hg L i).most) ∧ (hflat L)[i * 13 + 10]? = some (.int .i64 (hg L i).brake) ∧ (hflat L)[i * 13 + 11]? = some (.slice (hg L i).ia (hg L i).items.length (hg L i).ic) ∧ (hflat L)[i * 13 + 12]? = some (.slice (hg L i).ba (hg L i).bricks.length (hg L i).bc) := by
 induction L generalizing i with
 | nil => simp at hi
 | cons x r ih =>
  match i with
  | 0 => exact ⟨rfl, rfl, rfl, rfl, rfl, rfl, rfl, rfl, rfl, rfl, rfl, rfl, rfl⟩
  | i + 1 =>
   have := ih i (by simpa using hi)
   have e : hflat (x :: r) = .string x.name :: .int .i64 x.depth :: .int .i64 x.low :: .int .i64 x.high :: .int .i64 x.length :: .slice x.la x.lines.length x.lc :: .int .i64 x.pipe :: .int .i64 x.arbor :: .int .i64 x.purchase :: .int .i64 x.most :: .int .i64 x.brake :: .slice x.ia x.items.length x.ic :: .slice x.ba x.bricks.length x.bc :: hflat r := rfl
   rw [e, show (i + 1) * 13 = i * 13 + 1 + 1 + 1 + 1 + 1 + 1 + 1 + 1 + 1 + 1 + 1 + 1 + 1 by omega]
   simpa [hg] using this
def SetRows (n₀ : Nat) (w : World) (a : Option Addr) (L : List (SetR)) : Prop :=
 0 < L.length → ∃ b off, a = some ⟨b, off, none⟩ ∧ b < n₀ ∧ ∀ i, i < L.length → w.cell? ⟨b, off + i * 13, none⟩ = some (.string (hg L i).name) ∧ w.cell? ⟨b, off + i * 13 + 1, none⟩ = some (.int .i64 (hg L i).depth) ∧ w.cell? ⟨b, off + i * 13 + 2, none⟩ = some (.int .i64 (hg L i).low) ∧ w.cell? ⟨b, off + i * 13 + 3, none⟩ = some (.int .i64 (hg L i).high) ∧ w.cell? ⟨b, off + i * 13 + 4, none⟩ = some (.int .i64 (hg L i).length) ∧ w.cell? ⟨b, off + i * 13 + 5, none⟩ = some (.slice (hg L i).la (hg L i).lines.length (hg L i).lc) ∧ w.cell? ⟨b, off + i * 13 + 6, none⟩ = some (.int .i64 (hg L i).pipe) ∧ w.cell? ⟨b, off + i * 13 + 7, none⟩ = some (.int .i64 (hg L i).arbor) ∧ w.cell? ⟨b, off + i * 13 + 8, none⟩ = some (.int .i64 (hg L i).purchase) ∧ w.cell? ⟨b, off + i * 13 + 9, none⟩ = some (.int .i64 (hg L i).most) ∧ w.cell? ⟨b, off + i * 13 + 10, none⟩ = some (.int .i64 (hg L i).brake) ∧ w.cell? ⟨b, off + i * 13 + 11, none⟩ = some (.slice (hg L i).ia (hg L i).items.length (hg L i).ic) ∧ w.cell? ⟨b, off + i * 13 + 12, none⟩ = some (.slice (hg L i).ba (hg L i).bricks.length (hg L i).bc)
theorem SetRows.below {n₀ : Nat} {w w' : World} {a : Option Addr} {L : List (SetR)} (h : SetRows n₀ w a L) (hb : Below n₀ w w') : SetRows n₀ w' a L := fun hl => by
 obtain ⟨b, off, rfl, hlt, hc⟩ := h hl
 refine ⟨b, off, rfl, hlt, fun i hi => ?_⟩
 obtain ⟨c0, c1, c2, c3, c4, c5, c6, c7, c8, c9, c10, c11, c12⟩ := hc i hi
 exact ⟨(hb.cell (p := ⟨b, _, none⟩) hlt).trans c0, (hb.cell (p := ⟨b, _, none⟩) hlt).trans c1, (hb.cell (p := ⟨b, _, none⟩) hlt).trans c2, (hb.cell (p := ⟨b, _, none⟩) hlt).trans c3, (hb.cell (p := ⟨b, _, none⟩) hlt).trans c4, (hb.cell (p := ⟨b, _, none⟩) hlt).trans c5, (hb.cell (p := ⟨b, _, none⟩) hlt).trans c6, (hb.cell (p := ⟨b, _, none⟩) hlt).trans c7, (hb.cell (p := ⟨b, _, none⟩) hlt).trans c8, (hb.cell (p := ⟨b, _, none⟩) hlt).trans c9, (hb.cell (p := ⟨b, _, none⟩) hlt).trans c10, (hb.cell (p := ⟨b, _, none⟩) hlt).trans c11, (hb.cell (p := ⟨b, _, none⟩) hlt).trans c12⟩
theorem SetRows.mono {n₀ n₁ : Nat} {w : World} {a : Option Addr} {L : List (SetR)} (h : SetRows n₀ w a L) (hn : n₀ ≤ n₁) : SetRows n₁ w a L := fun hl => by
 obtain ⟨b, off, rfl, hlt, hc⟩ := h hl
 exact ⟨b, off, rfl, by omega, hc⟩
theorem SetRows.grow {w w' : World} {a : Option Addr} {L : List (SetR)} (h : SetRows w.heap.size w a L) (hb : Below w.heap.size w w') : SetRows w'.heap.size w' a L := (h.below hb).mono hb.size
theorem SetRows.nil {n₀ : Nat} {w : World} {a : Option Addr} : SetRows n₀ w a [] := fun h => absurd h (Nat.not_lt_zero _)
theorem SetRows.take {n₀ : Nat} {w : World} {a : Option Addr} {L : List (SetR)} (h : SetRows n₀ w a L) (n : Nat) : SetRows n₀ w a (L.take n) := fun hl => by
 have hl' : 0 < L.length := by rw [List.length_take] at hl; omega
 obtain ⟨b, off, rfl, hlt, hc⟩ := h hl'
 refine ⟨b, off, rfl, hlt, fun i hi => ?_⟩
 rw [List.length_take] at hi
 have e : hg (L.take n) i = hg L i := by unfold hg; rw [List.getElem?_take, if_pos (by omega)]
 rw [e]
 exact hc i (by omega)
def AsksSet (g : Nat) (cb : Array Value) (n₀ : Nat) (w : World) (p : SetR → Bool) : Prop :=
 ∀ (W : World) (r : SetR), Below n₀ w W → Calls Try.prog g (#[setV r] ++ cb) W fun e w' => e = .returned (.bool (p r)) ∧ Below W.heap.size W w'
def set_first (L : List (SetR)) (p : SetR → Bool) : Int := match (List.range L.length).find? (fun i => p (hg L i)) with
 | some i => i
 | none => -1
theorem set_first_hit (L : List (SetR)) (p : SetR → Bool) (k : Nat) (hk : k < L.length) (h : p (hg L k) = true) (hn : ∀ j, j < k → p (hg L j) = false) : set_first L p = k := by
 unfold set_first
 have : (List.range L.length).find? (fun i => p (hg L i)) = some k := by
  rw [List.find?_eq_some_iff_getElem]
  refine ⟨by simpa using h, k, by simpa using hk, by simp, fun j hj => ?_⟩
  simpa using hn j hj
 rw [this]
theorem set_first_miss (L : List (SetR)) (p : SetR → Bool) (hn : ∀ j, j < L.length → p (hg L j) = false) : set_first L p = -1 := by
 unfold set_first
 have : (List.range L.length).find? (fun i => p (hg L i)) = none := by
  rw [List.find?_eq_none]
  intro x hx
  simpa using hn x (by simpa using hx)
 rw [this]
theorem set_first_cases (L : List (SetR)) (p : SetR → Bool) : (set_first L p = -1 ∧ ∀ j, j < L.length → p (hg L j) = false) ∨ ∃ k : Nat, k < L.length ∧ set_first L p = k ∧ p (hg L k) = true ∧ ∀ j, j < k → p (hg L j) = false := by
 have main : ∀ n, n ≤ L.length → (∀ j, j < n → p (hg L j) = false) ∨ ∃ k, k < n ∧ p (hg L k) = true ∧ ∀ j, j < k → p (hg L j) = false := by
  intro n
  induction n with
  | zero => exact fun _ => .inl fun j hj => absurd hj (Nat.not_lt_zero _)
  | succ n ih =>
   intro hn
   rcases ih (by omega) with h | ⟨k, hk, h1, h2⟩
   ·cases e : p (hg L n)
    ·refine .inl fun j hj => ?_
     rcases Nat.lt_or_ge j n with l | l
     ·exact h j l
     ·obtain rfl : j = n := by omega
      exact e
    ·exact .inr ⟨n, by omega, e, h⟩
   ·exact .inr ⟨k, by omega, h1, h2⟩
 rcases main L.length (Nat.le_refl _) with h | ⟨k, hk, h1, h2⟩
 ·exact .inl ⟨set_first_miss L p h, h⟩
 ·exact .inr ⟨k, hk, set_first_hit L p k hk h1 h2, h1, h2⟩
set_option maxHeartbeats 2000000 in
theorem set_indexFunc (a : Option Addr) (L : List (SetR)) (cap n₀ g : Nat) (cb : Array Value) (p : SetR → Bool) (w : World) (eg : ∀ args w, (callFunc g args).run Try.prog w = .ok (.enter g args) w)
  (hl : L.length ≤ 1100) (hn₀ : n₀ ≤ w.heap.size) (hI : SetRows n₀ w a L) (hp : AsksSet g cb n₀ w p) :
  Calls Try.prog 65 #[.slice a L.length cap, .func (.func g) #[] cb] w fun e w' => e = .returned (.int .i64 (set_first L p)) ∧ Below w.heap.size w w' := by
 have HI := Lib.hid hI; clear hI
 have HP := Lib.hid hp; clear hp
 go_enter Try.func65, Try.ntmps65
 go_wp2
 go_loopw [8] (fun i wr => ∃ k : Nat, k ≤ L.length ∧ i = .int .i64 k ∧ Below w.heap.size w wr ∧ Hid (∀ j, j < k → p (hg L j) = false)) (fun i _ => L.length - (intOf i).toNat)
 case atStart => exact ⟨0, Nat.zero_le _, rfl, Below.refl _ _, Lib.hid (fun _ h => absurd h (Nat.not_lt_zero _))⟩
 case round =>
  obtain ⟨k, hk, rfl, hB, HA⟩ := hrel
  by_cases hlt : k < L.length
  ·obtain ⟨b, off, rfl, hb, hc⟩ := HI.out (by omega)
   obtain ⟨c0, c1, c2, c3, c4, c5, c6, c7, c8, c9, c10, c11, c12⟩ := hc k hlt
   have d0 := (hB.cell (p := ⟨b, off + k * 13, none⟩) (show b < w.heap.size by omega)).trans c0
   have d1 := (hB.cell (p := ⟨b, off + k * 13 + 1, none⟩) (show b < w.heap.size by omega)).trans c1
   have d2 := (hB.cell (p := ⟨b, off + k * 13 + 2, none⟩) (show b < w.heap.size by omega)).trans c2
   have d3 := (hB.cell (p := ⟨b, off + k * 13 + 3, none⟩) (show b < w.heap.size by omega)).trans c3
   have d4 := (hB.cell (p := ⟨b, off + k * 13 + 4, none⟩) (show b < w.heap.size by omega)).trans c4
   have d5 := (hB.cell (p := ⟨b, off + k * 13 + 5, none⟩) (show b < w.heap.size by omega)).trans c5
   have d6 := (hB.cell (p := ⟨b, off + k * 13 + 6, none⟩) (show b < w.heap.size by omega)).trans c6
   have d7 := (hB.cell (p := ⟨b, off + k * 13 + 7, none⟩) (show b < w.heap.size by omega)).trans c7
   have d8 := (hB.cell (p := ⟨b, off + k * 13 + 8, none⟩) (show b < w.heap.size by omega)).trans c8
   have d9 := (hB.cell (p := ⟨b, off + k * 13 + 9, none⟩) (show b < w.heap.size by omega)).trans c9
   have d10 := (hB.cell (p := ⟨b, off + k * 13 + 10, none⟩) (show b < w.heap.size by omega)).trans c10
   have d11 := (hB.cell (p := ⟨b, off + k * 13 + 11, none⟩) (show b < w.heap.size by omega)).trans c11
   have d12 := (hB.cell (p := ⟨b, off + k * 13 + 12, none⟩) (show b < w.heap.size by omega)).trans c12
   clear c0 c1 c2 c3 c4 c5 c6 c7 c8 c9 c10 c11 c12 hc
   have HC := Lib.hid (show Calls Try.prog g (#[.agg #[.string (hg L k).name, .int .i64 (hg L k).depth, .int .i64 (hg L k).low, .int .i64 (hg L k).high, .int .i64 (hg L k).length, .slice (hg L k).la (hg L k).lines.length (hg L k).lc, .int .i64 (hg L k).pipe, .int .i64 (hg L k).arbor, .int .i64 (hg L k).purchase, .int .i64 (hg L k).most, .int .i64 (hg L k).brake, .slice (hg L k).ia (hg L k).items.length (hg L k).ic, .slice (hg L k).ba (hg L k).bricks.length (hg L k).bc]] ++ cb) wr _ from HP.out wr (hg L k) (hB.mono hn₀))
   obtain ⟨bv, hbv⟩ : ∃ bv, p (hg L k) = bv := ⟨_, rfl⟩
   rw [hbv] at HC
   cases bv
   ·have HB : Hid (∀ j, j < k + 1 → p (hg L j) = false) := Lib.hid fun j hj => by
     rcases Nat.lt_or_ge j k with l | l
     ·exact HA.out j l
     ·obtain rfl : j = k := by omega
      exact hbv
    clear hbv
    go_wp2_with ((with_reducible refine HC.out.mono ?_); rintro e w1 ⟨rfl, hb1⟩)
    go_roundw
    case rel => exact ⟨k + 1, by omega, by go_num, hB.trans (hb1.mono hB.size), HB⟩
    case measure => simp [intOf]; omega
   ·have H := Lib.hid (set_first_hit L p k hlt hbv HA.out)
    clear hbv
    go_wp2_with ((with_reducible refine HC.out.mono ?_); rintro e w1 ⟨rfl, hb1⟩)
    go_ret
    exact ⟨ret_int H.out.symm, hB.trans (hb1.mono hB.size)⟩
  ·obtain rfl : k = L.length := by omega
   have H := Lib.hid (set_first_miss L p HA.out)
   go_wp2
   go_ret
   exact ⟨ret_int H.out.symm, hB⟩
end Go.Proofs.Ytbgkgahmicepdaa
namespace Go.Proofs.Ytbgkgahmicepdaa
open Go.RowKit Go.Shelf
structure HouseR where
 name : ByteArray
 height : Int
 sa : Option Addr
 sets : List SetR
 sc : Nat
 ra : Option Addr
 roofs : List RoofR
 rc : Nat
def RoofOK (x : RoofR) : Prop := isNameB x.name = true ∧ 0 ≤ x.lo ∧ x.lo ≤ x.hi ∧ x.hi ≤ 1048576 ∧ 0 ≤ x.most ∧ x.most ≤ 67108864
instance (x : RoofR) : Decidable (RoofOK x) := by unfold RoofOK; infer_instance
def RoofAt (L : List RoofR) (k : Nat) : Prop := RoofOK (rg L k) ∧ ∀ j, j < k → (rg L j).name ≠ (rg L k).name
def RoofsOK (L : List RoofR) : Prop := L.length ≤ 20 ∧ ∀ k, k < L.length → RoofAt L k
def SetAtOK (h : HouseR) (k : Nat) : Prop := setB (hg h.sets k) = true ∧ (hg h.sets k).high ≤ h.height ∧ ∀ j, j < k → (hg h.sets j).name ≠ (hg h.sets k).name
def HouseOK (h : HouseR) : Prop := isNameB h.name = true ∧ 1 ≤ h.height ∧ h.height ≤ 1048576 ∧ h.sets.length ≤ 60 ∧ RoofsOK h.roofs ∧ ∀ k, k < h.sets.length → SetAtOK h k
noncomputable def roofsB (L : List RoofR) : Bool := @decide (RoofsOK L) (Classical.propDecidable _)
noncomputable def houseB (h : HouseR) : Bool := @decide (HouseOK h) (Classical.propDecidable _)
theorem roofsB_iff {L : List RoofR} : roofsB L = true ↔ RoofsOK L := by exact @decide_eq_true_iff (RoofsOK L) (Classical.propDecidable _)
theorem houseB_iff {h : HouseR} : houseB h = true ↔ HouseOK h := by exact @decide_eq_true_iff (HouseOK h) (Classical.propDecidable _)
theorem roofs_no {L : List RoofR} {k : Nat} (hk : k < L.length) (h : ¬ RoofAt L k) : roofsB L = false := by
 cases e : roofsB L
 ·rfl
 ·exact absurd ((roofsB_iff.1 e).2 k hk) h
theorem house_no {h : HouseR} {k : Nat} (hk : k < h.sets.length) (n : ¬ SetAtOK h k) : houseB h = false := by
 cases e : houseB h
 ·rfl
 ·exact absurd ((houseB_iff.1 e).2.2.2.2.2 k hk) n
def findS (L : List SetR) (s : ByteArray) : Int := set_first L (fun y => decide (y.name = s))
theorem find_at {L : List SetR} {k : Nat} (hk : k < L.length) : findS L (hg L k).name = (k : Int) ↔ ∀ j, j < k → (hg L j).name ≠ (hg L k).name := by
 unfold findS
 rcases set_first_cases L (fun y => decide (y.name = (hg L k).name)) with ⟨e, n⟩ | ⟨i, hi, e, hn, ha⟩
 ·exact absurd (n k hk) (by simp)
 ·have hn' : (hg L i).name = (hg L k).name := by simpa using hn
  have ha' : ∀ j, j < i → (hg L j).name ≠ (hg L k).name := fun j hj => by simpa using ha j hj
  constructor
  ·intro h
   obtain rfl : i = k := by omega
   exact ha'
  ·intro h
   rw [e]
   rcases Nat.lt_trichotomy i k with l | l | l
   ·exact absurd hn' (h i l)
   ·rw [l]
   ·exact absurd rfl (ha' k l)
end Go.Proofs.Ytbgkgahmicepdaa
namespace Go.Proofs.Ytbgkgahmicepdaa
open Go.RowKit Go.Shelf
structure HouseIn0 (w : World) (h : HouseR) : Prop where
 sets : SetRows w.heap.size w h.sa h.sets
 roofs : Roofs w.heap.size w h.ra h.roofs
 each : ∀ i, i < h.sets.length → SetIn0 w (hg h.sets i)
 scap : h.sets.length ≤ h.sc
 rcap : h.roofs.length ≤ h.rc
 snil : h.sa = none → h.sc = 0
 rnil : h.ra = none → h.rc = 0
theorem HouseIn0.grow {w w' : World} {h : HouseR} (x : HouseIn0 w h) (hb : Below w.heap.size w w') : HouseIn0 w' h :=
 ⟨x.sets.grow hb, x.roofs.grow hb, fun i hi => (x.each i hi).grow hb, x.scap, x.rcap, x.snil, x.rnil⟩
structure HouseIn (w : World) (h : HouseR) : Prop extends HouseIn0 w h where
 all : ∀ i, i < h.sets.length → SetIn w (hg h.sets i)
 slen : h.sets.length ≤ 1000
 rlen : h.roofs.length ≤ 1000
theorem HouseIn.grow {w w' : World} {h : HouseR} (x : HouseIn w h) (hb : Below w.heap.size w w') : HouseIn w' h :=
 ⟨x.toHouseIn0.grow hb, fun i hi => (x.all i hi).grow hb, x.slen, x.rlen⟩
def HouseAt (w : World) (b : Nat) (h : HouseR) : Prop := w.cell? ⟨b, 0, none⟩ = some (.string h.name) ∧ w.cell? ⟨b, 1, none⟩ = some (.int .i64 h.height) ∧ w.cell? ⟨b, 2, none⟩ = some (.slice h.sa h.sets.length h.sc) ∧ w.cell? ⟨b, 3, none⟩ = some (.slice h.ra h.roofs.length h.rc)
theorem HouseAt.carry {w w' : World} {b : Nat} {h : HouseR} (x : HouseAt w b h) (hb : Below w.heap.size w w') : HouseAt w' b h := by
 have hlt : b < w.heap.size := World.block_lt_of_cell? _ _ x.1
 obtain ⟨a0, a1, a2, a3⟩ := x
 exact ⟨(hb.cell (p := ⟨b, 0, none⟩) hlt).trans a0, (hb.cell (p := ⟨b, 1, none⟩) hlt).trans a1, (hb.cell (p := ⟨b, 2, none⟩) hlt).trans a2, (hb.cell (p := ⟨b, 3, none⟩) hlt).trans a3⟩
theorem HouseAt.new (w : World) (h : HouseR) (t : TypeId) : HouseAt (w.alloc (.cells #[.string h.name, .int .i64 h.height, .slice h.sa h.sets.length h.sc, .slice h.ra h.roofs.length h.rc] t)) w.heap.size h := by
 unfold HouseAt
 simp
end Go.Proofs.Ytbgkgahmicepdaa
