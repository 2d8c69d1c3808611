/-
  HOW SLICES OF BEAMS AND OF SETS LIE IN MEMORY; slices.IndexFunc at sets, ContainsFunc at beams.
-/
import Derived.Outline
import Derived.Deep.DeepCutAuto
import Derived.Test.YtbgkgahmicepdaaGreatP4
namespace Go.Proofs.YtbgkgahmicepdaaGreat
set_option maxRecDepth 100000
set_option maxHeartbeats 80000000
section
open Go.RowKit Go.Shelf
attribute [local go_sem] Oper.semAt_some
structure RoofR where
 name : ByteArray
 lo : Int
 hi : Int
 most : Int

/-! ### Slices of api.Roof -/

def rg (L : List (RoofR)) (i : Nat) : RoofR := (L[i]?).getD ⟨⟨#[]⟩, 0, 0, 0⟩
def roofV (r : RoofR) : Value := .agg #[.string r.name, .int .i64 r.lo, .int .i64 r.hi, .int .i64 r.most]
def rflat (L : List (RoofR)) : List Value := L.flatMap fun r => [.string r.name, .int .i64 r.lo, .int .i64 r.hi, .int .i64 r.most]
theorem rflat_at (L : List (RoofR)) (i : Nat) (hi : i < L.length) : (rflat L)[i * 4]? = some (.string (rg L i).name) ∧ (rflat L)[i * 4 + 1]? = some (.int .i64 (rg L i).lo) ∧ (rflat L)[i * 4 + 2]? = some (.int .i64 (rg L i).hi) ∧ (rflat L)[i * 4 + 3]? = some (.int .i64 (rg L i).most) := by
 induction L generalizing i with
 | nil => simp at hi
 | cons x r ih =>
  match i with
  | 0 => exact ⟨rfl, rfl, rfl, rfl⟩
  | i + 1 =>
   have := ih i (by simpa using hi);have e : rflat (x :: r) = .string x.name :: .int .i64 x.lo :: .int .i64 x.hi :: .int .i64 x.most :: rflat r := rfl;rw [e, show (i + 1) * 4 = i * 4 + 1 + 1 + 1 + 1 by omega]
   simpa [rg] using this
def Roofs (n₀ : Nat) (w : World) (a : Option Addr) (L : List (RoofR)) : Prop :=
 0 < L.length → ∃ b off, a = some ⟨b, off, none⟩ ∧ b < n₀ ∧ ∀ i, i < L.length → w.cell? ⟨b, off + i * 4, none⟩ = some (.string (rg L i).name) ∧ w.cell? ⟨b, off + i * 4 + 1, none⟩ = some (.int .i64 (rg L i).lo) ∧ w.cell? ⟨b, off + i * 4 + 2, none⟩ = some (.int .i64 (rg L i).hi) ∧ w.cell? ⟨b, off + i * 4 + 3, none⟩ = some (.int .i64 (rg L i).most)
theorem Roofs.below {n₀ : Nat} {w w' : World} {a : Option Addr} {L : List (RoofR)} (h : Roofs n₀ w a L) (hb : Below n₀ w w') : Roofs n₀ w' a L := fun hl => by
 obtain ⟨b, off, rfl, hlt, hc⟩ := h hl;refine ⟨b, off, rfl, hlt, fun i hi => ?_⟩;obtain ⟨c0, c1, c2, c3⟩ := hc i hi;exact ⟨(hb.cell (p := ⟨b, _, none⟩) hlt).trans c0, (hb.cell (p := ⟨b, _, none⟩) hlt).trans c1, (hb.cell (p := ⟨b, _, none⟩) hlt).trans c2, (hb.cell (p := ⟨b, _, none⟩) hlt).trans c3⟩
theorem Roofs.mono {n₀ n₁ : Nat} {w : World} {a : Option Addr} {L : List (RoofR)} (h : Roofs n₀ w a L) (hn : n₀ ≤ n₁) : Roofs n₁ w a L := fun hl => by
 obtain ⟨b, off, rfl, hlt, hc⟩ := h hl;exact ⟨b, off, rfl, by omega, hc⟩
theorem Roofs.grow {w w' : World} {a : Option Addr} {L : List (RoofR)} (h : Roofs w.heap.size w a L) (hb : Below w.heap.size w w') : Roofs w'.heap.size w' a L := (h.below hb).mono hb.size
theorem Roofs.nil {n₀ : Nat} {w : World} {a : Option Addr} : Roofs n₀ w a [] := fun h => absurd h (Nat.not_lt_zero _)
theorem Roofs.take {n₀ : Nat} {w : World} {a : Option Addr} {L : List (RoofR)} (h : Roofs n₀ w a L) (n : Nat) : Roofs n₀ w a (L.take n) := fun hl => by
 have hl' : 0 < L.length := by rw [List.length_take] at hl; omega
 obtain ⟨b, off, rfl, hlt, hc⟩ := h hl';refine ⟨b, off, rfl, hlt, fun i hi => ?_⟩;rw [List.length_take] at hi;have e : rg (L.take n) i = rg L i := by unfold rg; rw [List.getElem?_take, if_pos (by omega)]
 rw [e];exact hc i (by omega)
def AsksRoof (g : Nat) (cb : Array Value) (n₀ : Nat) (w : World) (p : RoofR → Bool) : Prop :=
 ∀ (W : World) (r : RoofR), Below n₀ w W → Calls Tryz.prog g (#[roofV r] ++ cb) W fun e w' => e = .returned (.bool (p r)) ∧ Below W.heap.size W w'
def roof_first (L : List (RoofR)) (p : RoofR → Bool) : Int := match (List.range L.length).find? (fun i => p (rg L i)) with
 | some i => i
 | none => -1
theorem roof_first_hit (L : List (RoofR)) (p : RoofR → Bool) (k : Nat) (hk : k < L.length) (h : p (rg L k) = true) (hn : ∀ j, j < k → p (rg L j) = false) : roof_first L p = k := by
 unfold roof_first
 have : (List.range L.length).find? (fun i => p (rg L i)) = some k := by
  rw [List.find?_eq_some_iff_getElem];refine ⟨by simpa using h, k, by simpa using hk, by simp, fun j hj => ?_⟩
  simpa using hn j hj
 rw [this]
theorem roof_first_miss (L : List (RoofR)) (p : RoofR → Bool) (hn : ∀ j, j < L.length → p (rg L j) = false) : roof_first L p = -1 := by
 unfold roof_first
 have : (List.range L.length).find? (fun i => p (rg L i)) = none := by
  rw [List.find?_eq_none];intro x hx
  simpa using hn x (by simpa using hx)
 rw [this]
theorem roof_first_cases (L : List (RoofR)) (p : RoofR → Bool) : (roof_first L p = -1 ∧ ∀ j, j < L.length → p (rg L j) = false) ∨ ∃ k : Nat, k < L.length ∧ roof_first L p = k ∧ p (rg L k) = true ∧ ∀ j, j < k → p (rg L j) = false := by
 have main : ∀ n, n ≤ L.length → (∀ j, j < n → p (rg L j) = false) ∨ ∃ k, k < n ∧ p (rg L k) = true ∧ ∀ j, j < k → p (rg L j) = false := by
  intro n
  induction n with
  | zero => exact fun _ => .inl fun j hj => absurd hj (Nat.not_lt_zero _)
  | succ n ih =>
   intro hn;rcases ih (by omega) with h | ⟨k, hk, h1, h2⟩
   ·cases e : p (rg L n)
    ·refine .inl fun j hj => ?_
     rcases Nat.lt_or_ge j n with l | l
     ·exact h j l
     ·obtain rfl : j = n := by omega
      exact e
    ·exact .inr ⟨n, by omega, e, h⟩
   ·exact .inr ⟨k, by omega, h1, h2⟩
 rcases main L.length (Nat.le_refl _) with h | ⟨k, hk, h1, h2⟩
 ·exact .inl ⟨roof_first_miss L p h, h⟩
 ·exact .inr ⟨k, hk, roof_first_hit L p k hk h1 h2, h1, h2⟩
def roof_any (L : List (RoofR)) (p : RoofR → Bool) : Bool := decide (0 ≤ roof_first L p)
theorem roof_indexFunc (a : Option Addr) (L : List (RoofR)) (cap n₀ g : Nat) (cb : Array Value) (p : RoofR → Bool) (w : World) (eg : ∀ args w, (callFunc g args).run Tryz.prog w = .ok (.enter g args) w)
  (hl : L.length ≤ 1100) (hn₀ : n₀ ≤ w.heap.size) (hI : Roofs n₀ w a L) (hp : AsksRoof g cb n₀ w p) :
  Calls Tryz.prog 137 #[.slice a L.length cap, .func (.func g) #[] cb] w fun e w' => e = .returned (.int .i64 (roof_first L p)) ∧ Below w.heap.size w w' := by
 have HI := lh hI; clear hI;have HP := lh hp; clear hp
 go_enter Tryz.func137, Tryz.ntmps137
 go_wp2
 go_loopw [8] (fun i wr => ∃ k : Nat, k ≤ L.length ∧ i = .int .i64 k ∧ Below w.heap.size w wr ∧ Hid (∀ j, j < k → p (rg L j) = false)) (fun i _ => L.length - (intOf i).toNat)
 case atStart => exact ⟨0, Nat.zero_le _, rfl, br, lh (fun _ h => absurd h (Nat.not_lt_zero _))⟩
 case round =>
  obtain ⟨k, hk, rfl, hB, HA⟩ := hrel
  by_cases hlt : k < L.length
  ·obtain ⟨b, off, rfl, hb, hc⟩ := HI.out (by omega)
   obtain ⟨c0, c1, c2, c3⟩ := hc k hlt;have d0 := (hB.cell (p := ⟨b, off + k * 4, none⟩) (show b < w.heap.size by omega)).trans c0;have d1 := (hB.cell (p := ⟨b, off + k * 4 + 1, none⟩) (show b < w.heap.size by omega)).trans c1;have d2 := (hB.cell (p := ⟨b, off + k * 4 + 2, none⟩) (show b < w.heap.size by omega)).trans c2;have d3 := (hB.cell (p := ⟨b, off + k * 4 + 3, none⟩) (show b < w.heap.size by omega)).trans c3;clear c0 c1 c2 c3 hc;have HC := lh (show Calls Tryz.prog g (#[.agg #[.string (rg L k).name, .int .i64 (rg L k).lo, .int .i64 (rg L k).hi, .int .i64 (rg L k).most]] ++ cb) wr _ from HP.out wr (rg L k) (hB.mono hn₀));obtain ⟨bv, hbv⟩ := nm (p (rg L k));rw [hbv] at HC
   cases bv
   ·have HB : Hid (∀ j, j < k + 1 → p (rg L j) = false) := lh fun j hj => by
     rcases Nat.lt_or_ge j k with l | l
     ·exact HA.out j l
     ·obtain rfl : j = k := by omega
      exact hbv
    clear hbv
    go_wp2_with ((with_reducible refine HC.out.mono ?_); rintro e w1 ⟨rfl, hb1⟩)
    go_roundw
    case rel => exact ⟨k + 1, by omega, by go_num, hB.trans (hb1.mono hB.size), HB⟩
    case measure => simp [intOf]; omega
   ·have H := lh (roof_first_hit L p k hlt hbv HA.out)
    clear hbv
    go_wp2_with ((with_reducible refine HC.out.mono ?_); rintro e w1 ⟨rfl, hb1⟩)
    go_ret;exact ⟨ret_int H.out.symm, hB.trans (hb1.mono hB.size)⟩
  ·obtain rfl : k = L.length := by omega
   have H := lh (roof_first_miss L p HA.out)
   go_wp2
   go_ret;exact ⟨ret_int H.out.symm, hB⟩

theorem roof_containsFunc (a : Option Addr) (L : List (RoofR)) (cap n₀ g : Nat) (cb : Array Value) (p : RoofR → Bool) (w : World) (eg : ∀ args w, (callFunc g args).run Tryz.prog w = .ok (.enter g args) w)
  (hl : L.length ≤ 1100) (hn₀ : n₀ ≤ w.heap.size) (hI : Roofs n₀ w a L) (hp : AsksRoof g cb n₀ w p) :
  Calls Tryz.prog 124 #[.slice a L.length cap, .func (.func g) #[] cb] w fun e w' => e = .returned (.bool (roof_any L p)) ∧ Below w.heap.size w w' := by
 have HC := lh (roof_indexFunc a L cap n₀ g cb p w eg hl hn₀ hI hp);clear hI hp eg
 go_enter Tryz.func124, Tryz.ntmps124
 go_wp2_with (go_at_call 137; (with_reducible refine HC.out.mono ?_); rintro e w1 ⟨rfl, hb1⟩)
 go_ret;exact ⟨rfl, hb1⟩

/-! ### Slices of api.Set -/

def hg (L : List (SetR)) (i : Nat) : SetR := (L[i]?).getD ⟨⟨#[]⟩, 0, 0, 0, 0, none, [], 0, 0, 0, 0, 0, 0, none, [], 0, none, [], 0⟩
theorem hg_eq (L : List (SetR)) (i : Nat) (h : i < L.length) : hg L i = L[i] := by unfold hg; rw [List.getElem?_eq_getElem h]; rfl
def setV (r : SetR) : Value := .agg #[.string r.name, .int .i64 r.depth, .int .i64 r.low, .int .i64 r.high, .int .i64 r.length, .slice r.la r.lines.length r.lc, .int .i64 r.pipe, .int .i64 r.arbor, .int .i64 r.purchase, .int .i64 r.most, .int .i64 r.brake, .slice r.ia r.items.length r.ic, .slice r.ba r.bricks.length r.bc]
def hflat (L : List (SetR)) : List Value := L.flatMap fun r => [.string r.name, .int .i64 r.depth, .int .i64 r.low, .int .i64 r.high, .int .i64 r.length, .slice r.la r.lines.length r.lc, .int .i64 r.pipe, .int .i64 r.arbor, .int .i64 r.purchase, .int .i64 r.most, .int .i64 r.brake, .slice r.ia r.items.length r.ic, .slice r.ba r.bricks.length r.bc]
theorem hflat_at (L : List (SetR)) (i : Nat) (hi : i < L.length) : (hflat L)[i * 13]? = some (.string (hg L i).name) ∧ (hflat L)[i * 13 + 1]? = some (.int .i64 (hg L i).depth) ∧ (hflat L)[i * 13 + 2]? = some (.int .i64 (hg L i).low) ∧ (hflat L)[i * 13 + 3]? = some (.int .i64 (hg L i).high) ∧ (hflat L)[i * 13 + 4]? = some (.int .i64 (hg L i).length) ∧ (hflat L)[i * 13 + 5]? = some (.slice (hg L i).la (hg L i).lines.length (hg L i).lc) ∧ (hflat L)[i * 13 + 6]? = some (.int .i64 (hg L i).pipe) ∧ (hflat L)[i * 13 + 7]? = some (.int .i64 (hg L i).arbor) ∧ (hflat L)[i * 13 + 8]? = some (.int .i64 (hg L i).purchase) ∧ (hflat L)[i * 13 + 9]? = some (.int .i64 (hg L i).most) ∧ (hflat L)[i * 13 + 10]? = some (.int .i64 (hg L i).brake) ∧ (hflat L)[i * 13 + 11]? = some (.slice (hg L i).ia (hg L i).items.length (hg L i).ic) ∧ (hflat L)[i * 13 + 12]? = some (.slice (hg L i).ba (hg L i).bricks.length (hg L i).bc) := by
 induction L generalizing i with
 | nil => simp at hi
 | cons x r ih =>
  match i with
  | 0 => exact ⟨rfl, rfl, rfl, rfl, rfl, rfl, rfl, rfl, rfl, rfl, rfl, rfl, rfl⟩
  | i + 1 =>
   have := ih i (by simpa using hi);have e : hflat (x :: r) = .string x.name :: .int .i64 x.depth :: .int .i64 x.low :: .int .i64 x.high :: .int .i64 x.length :: .slice x.la x.lines.length x.lc :: .int .i64 x.pipe :: .int .i64 x.arbor :: .int .i64 x.purchase :: .int .i64 x.most :: .int .i64 x.brake :: .slice x.ia x.items.length x.ic :: .slice x.ba x.bricks.length x.bc :: hflat r := rfl;rw [e, show (i + 1) * 13 = i * 13 + 1 + 1 + 1 + 1 + 1 + 1 + 1 + 1 + 1 + 1 + 1 + 1 + 1 by omega]
   simpa [hg] using this
def SetRows (n₀ : Nat) (w : World) (a : Option Addr) (L : List (SetR)) : Prop :=
 0 < L.length → ∃ b off, a = some ⟨b, off, none⟩ ∧ b < n₀ ∧ ∀ i, i < L.length → w.cell? ⟨b, off + i * 13, none⟩ = some (.string (hg L i).name) ∧ w.cell? ⟨b, off + i * 13 + 1, none⟩ = some (.int .i64 (hg L i).depth) ∧ w.cell? ⟨b, off + i * 13 + 2, none⟩ = some (.int .i64 (hg L i).low) ∧ w.cell? ⟨b, off + i * 13 + 3, none⟩ = some (.int .i64 (hg L i).high) ∧ w.cell? ⟨b, off + i * 13 + 4, none⟩ = some (.int .i64 (hg L i).length) ∧ w.cell? ⟨b, off + i * 13 + 5, none⟩ = some (.slice (hg L i).la (hg L i).lines.length (hg L i).lc) ∧ w.cell? ⟨b, off + i * 13 + 6, none⟩ = some (.int .i64 (hg L i).pipe) ∧ w.cell? ⟨b, off + i * 13 + 7, none⟩ = some (.int .i64 (hg L i).arbor) ∧ w.cell? ⟨b, off + i * 13 + 8, none⟩ = some (.int .i64 (hg L i).purchase) ∧ w.cell? ⟨b, off + i * 13 + 9, none⟩ = some (.int .i64 (hg L i).most) ∧ w.cell? ⟨b, off + i * 13 + 10, none⟩ = some (.int .i64 (hg L i).brake) ∧ w.cell? ⟨b, off + i * 13 + 11, none⟩ = some (.slice (hg L i).ia (hg L i).items.length (hg L i).ic) ∧ w.cell? ⟨b, off + i * 13 + 12, none⟩ = some (.slice (hg L i).ba (hg L i).bricks.length (hg L i).bc)
theorem SetRows.below {n₀ : Nat} {w w' : World} {a : Option Addr} {L : List (SetR)} (h : SetRows n₀ w a L) (hb : Below n₀ w w') : SetRows n₀ w' a L := fun hl => by
 obtain ⟨b, off, rfl, hlt, hc⟩ := h hl;refine ⟨b, off, rfl, hlt, fun i hi => ?_⟩;obtain ⟨c0, c1, c2, c3, c4, c5, c6, c7, c8, c9, c10, c11, c12⟩ := hc i hi;exact ⟨(hb.cell (p := ⟨b, _, none⟩) hlt).trans c0, (hb.cell (p := ⟨b, _, none⟩) hlt).trans c1, (hb.cell (p := ⟨b, _, none⟩) hlt).trans c2, (hb.cell (p := ⟨b, _, none⟩) hlt).trans c3, (hb.cell (p := ⟨b, _, none⟩) hlt).trans c4, (hb.cell (p := ⟨b, _, none⟩) hlt).trans c5, (hb.cell (p := ⟨b, _, none⟩) hlt).trans c6, (hb.cell (p := ⟨b, _, none⟩) hlt).trans c7, (hb.cell (p := ⟨b, _, none⟩) hlt).trans c8, (hb.cell (p := ⟨b, _, none⟩) hlt).trans c9, (hb.cell (p := ⟨b, _, none⟩) hlt).trans c10, (hb.cell (p := ⟨b, _, none⟩) hlt).trans c11, (hb.cell (p := ⟨b, _, none⟩) hlt).trans c12⟩
theorem SetRows.mono {n₀ n₁ : Nat} {w : World} {a : Option Addr} {L : List (SetR)} (h : SetRows n₀ w a L) (hn : n₀ ≤ n₁) : SetRows n₁ w a L := fun hl => by
 obtain ⟨b, off, rfl, hlt, hc⟩ := h hl;exact ⟨b, off, rfl, by omega, hc⟩
theorem SetRows.grow {w w' : World} {a : Option Addr} {L : List (SetR)} (h : SetRows w.heap.size w a L) (hb : Below w.heap.size w w') : SetRows w'.heap.size w' a L := (h.below hb).mono hb.size
theorem SetRows.nil {n₀ : Nat} {w : World} {a : Option Addr} : SetRows n₀ w a [] := fun h => absurd h (Nat.not_lt_zero _)
theorem SetRows.take {n₀ : Nat} {w : World} {a : Option Addr} {L : List (SetR)} (h : SetRows n₀ w a L) (n : Nat) : SetRows n₀ w a (L.take n) := fun hl => by
 have hl' : 0 < L.length := by rw [List.length_take] at hl; omega
 obtain ⟨b, off, rfl, hlt, hc⟩ := h hl';refine ⟨b, off, rfl, hlt, fun i hi => ?_⟩;rw [List.length_take] at hi;have e : hg (L.take n) i = hg L i := by unfold hg; rw [List.getElem?_take, if_pos (by omega)]
 rw [e];exact hc i (by omega)
def AsksSet (g : Nat) (cb : Array Value) (n₀ : Nat) (w : World) (p : SetR → Bool) : Prop :=
 ∀ (W : World) (r : SetR), Below n₀ w W → Calls Tryz.prog g (#[setV r] ++ cb) W fun e w' => e = .returned (.bool (p r)) ∧ Below W.heap.size W w'
def set_first (L : List (SetR)) (p : SetR → Bool) : Int := match (List.range L.length).find? (fun i => p (hg L i)) with
 | some i => i
 | none => -1
theorem set_first_hit (L : List (SetR)) (p : SetR → Bool) (k : Nat) (hk : k < L.length) (h : p (hg L k) = true) (hn : ∀ j, j < k → p (hg L j) = false) : set_first L p = k := by
 unfold set_first
 have : (List.range L.length).find? (fun i => p (hg L i)) = some k := by
  rw [List.find?_eq_some_iff_getElem];refine ⟨by simpa using h, k, by simpa using hk, by simp, fun j hj => ?_⟩
  simpa using hn j hj
 rw [this]
theorem set_first_miss (L : List (SetR)) (p : SetR → Bool) (hn : ∀ j, j < L.length → p (hg L j) = false) : set_first L p = -1 := by
 unfold set_first
 have : (List.range L.length).find? (fun i => p (hg L i)) = none := by
  rw [List.find?_eq_none];intro x hx
  simpa using hn x (by simpa using hx)
 rw [this]
theorem set_first_cases (L : List (SetR)) (p : SetR → Bool) : (set_first L p = -1 ∧ ∀ j, j < L.length → p (hg L j) = false) ∨ ∃ k : Nat, k < L.length ∧ set_first L p = k ∧ p (hg L k) = true ∧ ∀ j, j < k → p (hg L j) = false := by
 have main : ∀ n, n ≤ L.length → (∀ j, j < n → p (hg L j) = false) ∨ ∃ k, k < n ∧ p (hg L k) = true ∧ ∀ j, j < k → p (hg L j) = false := by
  intro n
  induction n with
  | zero => exact fun _ => .inl fun j hj => absurd hj (Nat.not_lt_zero _)
  | succ n ih =>
   intro hn;rcases ih (by omega) with h | ⟨k, hk, h1, h2⟩
   ·cases e : p (hg L n)
    ·refine .inl fun j hj => ?_
     rcases Nat.lt_or_ge j n with l | l
     ·exact h j l
     ·obtain rfl : j = n := by omega
      exact e
    ·exact .inr ⟨n, by omega, e, h⟩
   ·exact .inr ⟨k, by omega, h1, h2⟩
 rcases main L.length (Nat.le_refl _) with h | ⟨k, hk, h1, h2⟩
 ·exact .inl ⟨set_first_miss L p h, h⟩
 ·exact .inr ⟨k, hk, set_first_hit L p k hk h1 h2, h1, h2⟩
theorem set_indexFunc (a : Option Addr) (L : List (SetR)) (cap n₀ g : Nat) (cb : Array Value) (p : SetR → Bool) (w : World) (eg : ∀ args w, (callFunc g args).run Tryz.prog w = .ok (.enter g args) w)
  (hl : L.length ≤ 1100) (hn₀ : n₀ ≤ w.heap.size) (hI : SetRows n₀ w a L) (hp : AsksSet g cb n₀ w p) :
  Calls Tryz.prog 92 #[.slice a L.length cap, .func (.func g) #[] cb] w fun e w' => e = .returned (.int .i64 (set_first L p)) ∧ Below w.heap.size w w' := by
 have HI := lh hI; clear hI;have HP := lh hp; clear hp
 go_enter Tryz.func92, Tryz.ntmps92
 go_wp2
 go_loopw [8] (fun i wr => ∃ k : Nat, k ≤ L.length ∧ i = .int .i64 k ∧ Below w.heap.size w wr ∧ Hid (∀ j, j < k → p (hg L j) = false)) (fun i _ => L.length - (intOf i).toNat)
 case atStart => exact ⟨0, Nat.zero_le _, rfl, br, lh (fun _ h => absurd h (Nat.not_lt_zero _))⟩
 case round =>
  obtain ⟨k, hk, rfl, hB, HA⟩ := hrel
  by_cases hlt : k < L.length
  ·obtain ⟨b, off, rfl, hb, hc⟩ := HI.out (by omega)
   obtain ⟨c0, c1, c2, c3, c4, c5, c6, c7, c8, c9, c10, c11, c12⟩ := hc k hlt;have d0 := (hB.cell (p := ⟨b, off + k * 13, none⟩) (show b < w.heap.size by omega)).trans c0;have d1 := (hB.cell (p := ⟨b, off + k * 13 + 1, none⟩) (show b < w.heap.size by omega)).trans c1;have d2 := (hB.cell (p := ⟨b, off + k * 13 + 2, none⟩) (show b < w.heap.size by omega)).trans c2;have d3 := (hB.cell (p := ⟨b, off + k * 13 + 3, none⟩) (show b < w.heap.size by omega)).trans c3;have d4 := (hB.cell (p := ⟨b, off + k * 13 + 4, none⟩) (show b < w.heap.size by omega)).trans c4;have d5 := (hB.cell (p := ⟨b, off + k * 13 + 5, none⟩) (show b < w.heap.size by omega)).trans c5;have d6 := (hB.cell (p := ⟨b, off + k * 13 + 6, none⟩) (show b < w.heap.size by omega)).trans c6;have d7 := (hB.cell (p := ⟨b, off + k * 13 + 7, none⟩) (show b < w.heap.size by omega)).trans c7;have d8 := (hB.cell (p := ⟨b, off + k * 13 + 8, none⟩) (show b < w.heap.size by omega)).trans c8;have d9 := (hB.cell (p := ⟨b, off + k * 13 + 9, none⟩) (show b < w.heap.size by omega)).trans c9;have d10 := (hB.cell (p := ⟨b, off + k * 13 + 10, none⟩) (show b < w.heap.size by omega)).trans c10;have d11 := (hB.cell (p := ⟨b, off + k * 13 + 11, none⟩) (show b < w.heap.size by omega)).trans c11;have d12 := (hB.cell (p := ⟨b, off + k * 13 + 12, none⟩) (show b < w.heap.size by omega)).trans c12;clear c0 c1 c2 c3 c4 c5 c6 c7 c8 c9 c10 c11 c12 hc;have HC := lh (show Calls Tryz.prog g (#[.agg #[.string (hg L k).name, .int .i64 (hg L k).depth, .int .i64 (hg L k).low, .int .i64 (hg L k).high, .int .i64 (hg L k).length, .slice (hg L k).la (hg L k).lines.length (hg L k).lc, .int .i64 (hg L k).pipe, .int .i64 (hg L k).arbor, .int .i64 (hg L k).purchase, .int .i64 (hg L k).most, .int .i64 (hg L k).brake, .slice (hg L k).ia (hg L k).items.length (hg L k).ic, .slice (hg L k).ba (hg L k).bricks.length (hg L k).bc]] ++ cb) wr _ from HP.out wr (hg L k) (hB.mono hn₀));obtain ⟨bv, hbv⟩ := nm (p (hg L k));rw [hbv] at HC
   cases bv
   ·have HB : Hid (∀ j, j < k + 1 → p (hg L j) = false) := lh fun j hj => by
     rcases Nat.lt_or_ge j k with l | l
     ·exact HA.out j l
     ·obtain rfl : j = k := by omega
      exact hbv
    clear hbv
    go_wp2_with ((with_reducible refine HC.out.mono ?_); rintro e w1 ⟨rfl, hb1⟩)
    go_roundw
    case rel => exact ⟨k + 1, by omega, by go_num, hB.trans (hb1.mono hB.size), HB⟩
    case measure => simp [intOf]; omega
   ·have H := lh (set_first_hit L p k hlt hbv HA.out)
    clear hbv
    go_wp2_with ((with_reducible refine HC.out.mono ?_); rintro e w1 ⟨rfl, hb1⟩)
    go_ret;exact ⟨ret_int H.out.symm, hB.trans (hb1.mono hB.size)⟩
  ·obtain rfl : k = L.length := by omega
   have H := lh (set_first_miss L p HA.out)
   go_wp2
   go_ret;exact ⟨ret_int H.out.symm, hB⟩
end
section
open Go.RowKit Go.Shelf
structure HouseR where
 name : ByteArray
 height : Int
 sa : Option Addr
 sets : List SetR
 sc : Nat
 ra : Option Addr
 roofs : List RoofR
 rc : Nat
def RoofOK (x : RoofR) : Prop := isNameB x.name = true ∧ 0 ≤ x.lo ∧ x.lo ≤ x.hi ∧ x.hi ≤ 1048576 ∧ 0 ≤ x.most ∧ x.most ≤ 67108864
instance (x : RoofR) : Decidable (RoofOK x) := by unfold RoofOK; infer_instance
def RoofAt (L : List RoofR) (k : Nat) : Prop := RoofOK (rg L k) ∧ ∀ j, j < k → (rg L j).name ≠ (rg L k).name
def RoofsOK (L : List RoofR) : Prop := L.length ≤ 20 ∧ ∀ k, k < L.length → RoofAt L k
def SetAtOK (h : HouseR) (k : Nat) : Prop := setB (hg h.sets k) = true ∧ (hg h.sets k).high ≤ h.height ∧ ∀ j, j < k → (hg h.sets j).name ≠ (hg h.sets k).name
def HouseOK (h : HouseR) : Prop := isNameB h.name = true ∧ 1 ≤ h.height ∧ h.height ≤ 1048576 ∧ h.sets.length ≤ 60 ∧ RoofsOK h.roofs ∧ ∀ k, k < h.sets.length → SetAtOK h k
noncomputable def roofsB (L : List RoofR) : Bool := @decide (RoofsOK L) (Classical.propDecidable _)
noncomputable def houseB (h : HouseR) : Bool := @decide (HouseOK h) (Classical.propDecidable _)
theorem roofsB_iff {L : List RoofR} : roofsB L = true ↔ RoofsOK L := by exact @decide_eq_true_iff (RoofsOK L) (Classical.propDecidable _)
theorem houseB_iff {h : HouseR} : houseB h = true ↔ HouseOK h := by exact @decide_eq_true_iff (HouseOK h) (Classical.propDecidable _)
theorem roofs_no {L : List RoofR} {k : Nat} (hk : k < L.length) (h : ¬ RoofAt L k) : roofsB L = false := by
 cases e : roofsB L
 ·rfl
 ·exact absurd ((roofsB_iff.1 e).2 k hk) h
theorem house_no {h : HouseR} {k : Nat} (hk : k < h.sets.length) (n : ¬ SetAtOK h k) : houseB h = false := by
 cases e : houseB h
 ·rfl
 ·exact absurd ((houseB_iff.1 e).2.2.2.2.2 k hk) n
def findS (L : List SetR) (s : ByteArray) : Int := set_first L (fun y => decide (y.name = s))
theorem find_at {L : List SetR} {k : Nat} (hk : k < L.length) : findS L (hg L k).name = (k : Int) ↔ ∀ j, j < k → (hg L j).name ≠ (hg L k).name := by
 unfold findS;rcases set_first_cases L (fun y => decide (y.name = (hg L k).name)) with ⟨e, n⟩ | ⟨i, hi, e, hn, ha⟩
 ·exact absurd (n k hk) (by simp)
 ·have hn' : (hg L i).name = (hg L k).name := by simpa using hn
  have ha' : ∀ j, j < i → (hg L j).name ≠ (hg L k).name := fun j hj => by simpa using ha j hj
  constructor
  ·intro h
   obtain rfl : i = k := by omega
   exact ha'
  ·intro h
   rw [e];rcases Nat.lt_trichotomy i k with l | l | l
   ·exact absurd hn' (h i l)
   ·rw [l]
   ·exact absurd rfl (ha' k l)
abbrev LHo (h : HouseR) : Obj := .cells #[.string h.name, .int .i64 h.height, .slice h.sa h.sets.length h.sc, .slice h.ra h.roofs.length h.rc] 25
structure HouseIn0 (w : World) (h : HouseR) : Prop where
 sets : SetRows w.heap.size w h.sa h.sets
 roofs : Roofs w.heap.size w h.ra h.roofs
 each : ∀ i, i < h.sets.length → SetIn0 w (hg h.sets i)
 scap : h.sets.length ≤ h.sc
 rcap : h.roofs.length ≤ h.rc
 snil : h.sa = none → h.sc = 0
 rnil : h.ra = none → h.rc = 0
theorem HouseIn0.grow {w w' : World} {h : HouseR} (x : HouseIn0 w h) (hb : Below w.heap.size w w') : HouseIn0 w' h :=
 ⟨x.sets.grow hb, x.roofs.grow hb, fun i hi => (x.each i hi).grow hb, x.scap, x.rcap, x.snil, x.rnil⟩
structure HouseIn (w : World) (h : HouseR) : Prop extends HouseIn0 w h where
 all : ∀ i, i < h.sets.length → SetIn w (hg h.sets i)
 slen : h.sets.length ≤ 1000
 rlen : h.roofs.length ≤ 1000
theorem HouseIn.grow {w w' : World} {h : HouseR} (x : HouseIn w h) (hb : Below w.heap.size w w') : HouseIn w' h :=
 ⟨x.toHouseIn0.grow hb, fun i hi => (x.all i hi).grow hb, x.slen, x.rlen⟩
def HouseAt (w : World) (b : Nat) (h : HouseR) : Prop := w.cell? ⟨b, 0, none⟩ = some (.string h.name) ∧ w.cell? ⟨b, 1, none⟩ = some (.int .i64 h.height) ∧ w.cell? ⟨b, 2, none⟩ = some (.slice h.sa h.sets.length h.sc) ∧ w.cell? ⟨b, 3, none⟩ = some (.slice h.ra h.roofs.length h.rc)
theorem HouseAt.carry {w w' : World} {b : Nat} {h : HouseR} (x : HouseAt w b h) (hb : Below w.heap.size w w') : HouseAt w' b h := by
 have hlt : b < w.heap.size := wl x.1;obtain ⟨a0, a1, a2, a3⟩ := x;exact ⟨(hb.cell (p := ⟨b, 0, none⟩) hlt).trans a0, (hb.cell (p := ⟨b, 1, none⟩) hlt).trans a1, (hb.cell (p := ⟨b, 2, none⟩) hlt).trans a2, (hb.cell (p := ⟨b, 3, none⟩) hlt).trans a3⟩
theorem HouseAt.new (w : World) (h : HouseR) (t : TypeId) : HouseAt (w.alloc (.cells #[.string h.name, .int .i64 h.height, .slice h.sa h.sets.length h.sc, .slice h.ra h.roofs.length h.rc] t)) w.heap.size h := by
 unfold HouseAt
 simp
end
section
open Go.RowKit Go.Shelf
attribute [local go_sem] Oper.semAt_some
def SmallP (r : SetR) (most : Int) : Prop := r.name.size ≤ 60 ∧ r.lines.length ≤ 12 ∧ ((r.items.length : Int) ≤ most ∨ 40 < r.items.length) ∧ r.items.length ≤ 45 ∧ r.bricks.length ≤ 10 ∧ (∀ j, j < r.items.length → (tg r.items j).name.size ≤ 60) ∧ ∀ j, j < r.bricks.length → (bg r.bricks j).name.size ≤ 60
instance (r : SetR) (most : Int) : Decidable (SmallP r most) := by unfold SmallP; infer_instance
def smallB (r : SetR) (most : Int) : Bool := decide (SmallP r most)
theorem small_in {w : World} {r : SetR} {most : Int} (h : SetIn0 w r) (hs : smallB r most = true) : SetIn w r := by
 obtain ⟨_, _, _, _, _, h6, h7⟩ := of_decide_eq_true hs;refine ⟨h, fun x hx => ?_, fun x hx => ?_⟩
 ·obtain ⟨j, hj, rfl⟩ := List.getElem_of_mem hx
  have := h6 j hj;rw [tg_eq _ j hj] at this;omega
 ·obtain ⟨j, hj, rfl⟩ := List.getElem_of_mem hx
  have := h7 j hj;rw [bg_eq _ j hj] at this;omega
theorem small_any (r : SetR) (most : Int) (w : World) (hs : SetIn0 w r) :
  Calls Tryz.prog 57 #[.agg #[.string r.name, .int .i64 r.depth, .int .i64 r.low, .int .i64 r.high, .int .i64 r.length, .slice r.la r.lines.length r.lc, .int .i64 r.pipe, .int .i64 r.arbor, .int .i64 r.purchase, .int .i64 r.most, .int .i64 r.brake, .slice r.ia r.items.length r.ic, .slice r.ba r.bricks.length r.bc], .int .i64 most] w fun e w' => e = .returned (.bool (smallB r most)) ∧ Below w.heap.size w w' := by
 obtain ⟨R, hR⟩ := nm (smallB r most);have HI : Hid (R = true ↔ SmallP r most) := lh (by rw [← hR]; unfold smallB; exact decide_eq_true_iff);rw [hR];clear hR;have hb0 := below_new w (LSe r);have HX : Hid (∀ wx, Below (w.alloc (LSe r)).heap.size (w.alloc (LSe r)) wx → Below w.heap.size w wx) := lh fun wx h => mono_in _ h;have HS : Hid (∀ wx, Below (w.alloc (LSe r)).heap.size (w.alloc (LSe r)) wx → SetIn0 wx r) := lh fun wx h => (hs.grow hb0).grow h;have HAT : Hid (∀ wx, Below (w.alloc (LSe r)).heap.size (w.alloc (LSe r)) wx → SetAt wx w.heap.size r) := lh fun wx h => (SetAt.new w r 54).below h (by simp);clear hb0 hs
 by_cases q0 : 60 < r.name.size
 ·have ga868 : decide ((60 : Int) < (r.name.size : Int)) = true := dT (by omega)
  have gb868 : decide (60 < r.name.size) = true := dT (by omega)
  have HR : Hid (R = false) := lh (by
   rw [Bool.eq_false_iff];intro h;obtain ⟨s1, s2, s3, s4, s5, _, _⟩ := HI.out.1 h;omega)
  clear q0
  go_enter Tryz.func57, Tryz.ntmps57
  go_wp2_with fail
  generalize (w.alloc (LSe r)) = W0 at *;have hB1 := Below.refl W0.heap.size W0;obtain ⟨x0, -, -, -, -, x5, -, -, -, -, -, x11, x12⟩ := set13 HAT
  go_wp2_with fail
  go_ret;exact ⟨ret_bool HR.out.symm, HX.out _ hB1⟩
 have ga868 : decide ((60 : Int) < (r.name.size : Int)) = false := dF (by omega);have gb868 : decide (60 < r.name.size) = false := dF (by omega)
 by_cases q1 : 12 < r.lines.length
 ·have ga686 : decide ((12 : Int) < (r.lines.length : Int)) = true := dT (by omega)
  have gb686 : decide (12 < r.lines.length) = true := dT (by omega)
  have HR : Hid (R = false) := lh (by
   rw [Bool.eq_false_iff];intro h;obtain ⟨s1, s2, s3, s4, s5, _, _⟩ := HI.out.1 h;omega)
  clear q0 q1
  go_enter Tryz.func57, Tryz.ntmps57
  go_wp2_with fail
  generalize (w.alloc (LSe r)) = W0 at *;have hB1 := Below.refl W0.heap.size W0;obtain ⟨x0, -, -, -, -, x5, -, -, -, -, -, x11, x12⟩ := set13 HAT
  go_wp2_with fail
  go_ret;exact ⟨ret_bool HR.out.symm, HX.out _ hB1⟩
 have ga686 : decide ((12 : Int) < (r.lines.length : Int)) = false := dF (by omega);have gb686 : decide (12 < r.lines.length) = false := dF (by omega)
 by_cases q2 : most < (r.items.length : Int)
 ·have gc : decide (most < (r.items.length : Int)) = true := decide_eq_true q2
  by_cases q3 : r.items.length ≤ 40
  ·have gd : decide ((r.items.length : Int) ≤ 40) = true := dT (by omega)
   have ge : decide (r.items.length ≤ 40) = true := dT (by omega)
   have HR : Hid (R = false) := lh (by
    rw [Bool.eq_false_iff];intro h;obtain ⟨s1, s2, s3, s4, s5, _, _⟩ := HI.out.1 h;omega)
   clear q0 q1 q2 q3
   go_enter Tryz.func57, Tryz.ntmps57
   go_wp2_with fail
   generalize (w.alloc (LSe r)) = W0 at *;have hB1 := Below.refl W0.heap.size W0;obtain ⟨x0, -, -, -, -, x5, -, -, -, -, -, x11, x12⟩ := set13 HAT
   go_wp2_with fail
   go_ret;exact ⟨ret_bool HR.out.symm, HX.out _ hB1⟩
  have gd : decide ((r.items.length : Int) ≤ 40) = false := dF (by omega);have ge : decide (r.items.length ≤ 40) = false := dF (by omega)
  by_cases q4 : 45 < r.items.length
  ·have ga102 : decide ((45 : Int) < (r.items.length : Int)) = true := dT (by omega)
   have gb102 : decide (45 < r.items.length) = true := dT (by omega)
   have HR : Hid (R = false) := lh (by
    rw [Bool.eq_false_iff];intro h;obtain ⟨s1, s2, s3, s4, s5, _, _⟩ := HI.out.1 h;omega)
   clear q0 q1 q2 q3 q4
   go_enter Tryz.func57, Tryz.ntmps57
   go_wp2_with fail
   generalize (w.alloc (LSe r)) = W0 at *;have hB1 := Below.refl W0.heap.size W0;obtain ⟨x0, -, -, -, -, x5, -, -, -, -, -, x11, x12⟩ := set13 HAT
   go_wp2_with fail
   go_ret;exact ⟨ret_bool HR.out.symm, HX.out _ hB1⟩
  have ga102 : decide ((45 : Int) < (r.items.length : Int)) = false := dF (by omega);have gb102 : decide (45 < r.items.length) = false := dF (by omega)
  by_cases q5 : 10 < r.bricks.length
  ·have ga387 : decide ((10 : Int) < (r.bricks.length : Int)) = true := dT (by omega)
   have gb387 : decide (10 < r.bricks.length) = true := dT (by omega)
   have HR : Hid (R = false) := lh (by
    rw [Bool.eq_false_iff];intro h;obtain ⟨s1, s2, s3, s4, s5, _, _⟩ := HI.out.1 h;omega)
   clear q0 q1 q2 q3 q4 q5
   go_enter Tryz.func57, Tryz.ntmps57
   go_wp2_with fail
   generalize (w.alloc (LSe r)) = W0 at *;have hB1 := Below.refl W0.heap.size W0;obtain ⟨x0, -, -, -, -, x5, -, -, -, -, -, x11, x12⟩ := set13 HAT
   go_wp2_with fail
   go_ret;exact ⟨ret_bool HR.out.symm, HX.out _ hB1⟩
  have ga387 : decide ((10 : Int) < (r.bricks.length : Int)) = false := dF (by omega);have gb387 : decide (10 < r.bricks.length) = false := dF (by omega)
  go_enter Tryz.func57, Tryz.ntmps57
  go_wp2_with fail
  generalize (w.alloc (LSe r)) = W0 at *;have hB1 := Below.refl W0.heap.size W0;obtain ⟨x0, -, -, -, -, x5, -, -, -, -, -, x11, x12⟩ := set13 HAT
  go_loop [5] (fun v => ∃ k : Nat, k ≤ r.items.length ∧ v = .int .i64 k ∧ Hid (∀ j, j < k → (tg r.items j).name.size ≤ 60)) (fun v => r.items.length - (intOf v).toNat)
  case atStart => exact ⟨0, Nat.zero_le _, rfl, lh (fun j hj => by omega)⟩
  case round =>
   obtain ⟨k, hk, rfl, HO1⟩ := hrel
   by_cases hlt : k < r.items.length
   ·obtain ⟨b, off, hia, hb, hc⟩ := (HS.out _ hB1).items (by omega)
    have y := x11 W0 hB1;rw [hia] at y;have c0 := (hc k hlt).1;clear hc hia x11;have k1 : (k : Int) < r.items.length := by omega
    obtain ⟨s, hs⟩ := nm ((tg r.items k).name);rw [hs] at c0
    by_cases q : 60 < s.size
    ·have ga : decide ((60 : Int) < (s.size : Int)) = true := dT (by omega)
     have gb : decide (60 < s.size) = true := dT (by omega)
     have HR : Hid (R = false) := lh (by
      rw [Bool.eq_false_iff];intro h;have := (HI.out.1 h).2.2.2.2.2.1 k hlt;rw [hs] at this;omega)
     clear q hs
     go_wp2_with fail
     go_ret;exact ⟨ret_bool HR.out.symm, HX.out _ hB1⟩
    ·have ga : decide ((60 : Int) < (s.size : Int)) = false := dF (by omega)
     have gb : decide (60 < s.size) = false := dF (by omega)
     have HN : Hid (∀ j, j < k + 1 → (tg r.items j).name.size ≤ 60) := lh fun j hj => by
      rcases (show j < k ∨ j = k by omega) with l | l
      ·exact HO1.out j l
      ·subst l; rw [hs]; omega
     clear q hs
     go_wp2_with fail
     go_round
     case rel => exact ⟨k + 1, by omega, by go_num, HN⟩
     case measure => simp [intOf]; omega
   ·obtain rfl : k = r.items.length := by omega
    go_wp2_with fail
    go_loop [6] (fun v => ∃ k : Nat, k ≤ r.bricks.length ∧ v = .int .i64 k ∧ Hid (∀ j, j < k → (bg r.bricks j).name.size ≤ 60)) (fun v => r.bricks.length - (intOf v).toNat)
    case atStart => exact ⟨0, Nat.zero_le _, rfl, lh (fun j hj => by omega)⟩
    case round =>
     obtain ⟨k, hk, rfl, HO2⟩ := hrel
     by_cases hlt : k < r.bricks.length
     ·obtain ⟨b, off, hia, hb, hc⟩ := (HS.out _ hB1).bricks (by omega)
      have y := x12 W0 hB1;rw [hia] at y;have c0 := (hc k hlt).1;clear hc hia x12;have k1 : (k : Int) < r.bricks.length := by omega
      obtain ⟨s, hs⟩ := nm ((bg r.bricks k).name);rw [hs] at c0
      by_cases q : 60 < s.size
      ·have ga : decide ((60 : Int) < (s.size : Int)) = true := dT (by omega)
       have gb : decide (60 < s.size) = true := dT (by omega)
       have HR : Hid (R = false) := lh (by
        rw [Bool.eq_false_iff];intro h;have := (HI.out.1 h).2.2.2.2.2.2 k hlt;rw [hs] at this;omega)
       clear q hs
       go_wp2_with fail
       go_ret;exact ⟨ret_bool HR.out.symm, HX.out _ hB1⟩
      ·have ga : decide ((60 : Int) < (s.size : Int)) = false := dF (by omega)
       have gb : decide (60 < s.size) = false := dF (by omega)
       have HN : Hid (∀ j, j < k + 1 → (bg r.bricks j).name.size ≤ 60) := lh fun j hj => by
        rcases (show j < k ∨ j = k by omega) with l | l
        ·exact HO2.out j l
        ·subst l; rw [hs]; omega
       clear q hs
       go_wp2_with fail
       go_round
       case rel => exact ⟨k + 1, by omega, by go_num, HN⟩
       case measure => simp [intOf]; omega
     ·obtain rfl : k = r.bricks.length := by omega
      have HR : Hid (R = true) := lh (HI.out.2 ⟨by omega, by omega, by omega, by omega, by omega, HO1.out, HO2.out⟩)
      go_wp2_with fail
      go_ret;exact ⟨ret_bool HR.out.symm, HX.out _ hB1⟩
 ·have gc : decide (most < (r.items.length : Int)) = false := decide_eq_false q2
  by_cases q4 : 45 < r.items.length
  ·have ga102 : decide ((45 : Int) < (r.items.length : Int)) = true := dT (by omega)
   have gb102 : decide (45 < r.items.length) = true := dT (by omega)
   have HR : Hid (R = false) := lh (by
    rw [Bool.eq_false_iff];intro h;obtain ⟨s1, s2, s3, s4, s5, _, _⟩ := HI.out.1 h;omega)
   clear q0 q1 q2 q4
   go_enter Tryz.func57, Tryz.ntmps57
   go_wp2_with fail
   generalize (w.alloc (LSe r)) = W0 at *;have hB1 := Below.refl W0.heap.size W0;obtain ⟨x0, -, -, -, -, x5, -, -, -, -, -, x11, x12⟩ := set13 HAT
   go_wp2_with fail
   go_ret;exact ⟨ret_bool HR.out.symm, HX.out _ hB1⟩
  have ga102 : decide ((45 : Int) < (r.items.length : Int)) = false := dF (by omega);have gb102 : decide (45 < r.items.length) = false := dF (by omega)
  by_cases q5 : 10 < r.bricks.length
  ·have ga387 : decide ((10 : Int) < (r.bricks.length : Int)) = true := dT (by omega)
   have gb387 : decide (10 < r.bricks.length) = true := dT (by omega)
   have HR : Hid (R = false) := lh (by
    rw [Bool.eq_false_iff];intro h;obtain ⟨s1, s2, s3, s4, s5, _, _⟩ := HI.out.1 h;omega)
   clear q0 q1 q2 q4 q5
   go_enter Tryz.func57, Tryz.ntmps57
   go_wp2_with fail
   generalize (w.alloc (LSe r)) = W0 at *;have hB1 := Below.refl W0.heap.size W0;obtain ⟨x0, -, -, -, -, x5, -, -, -, -, -, x11, x12⟩ := set13 HAT
   go_wp2_with fail
   go_ret;exact ⟨ret_bool HR.out.symm, HX.out _ hB1⟩
  have ga387 : decide ((10 : Int) < (r.bricks.length : Int)) = false := dF (by omega);have gb387 : decide (10 < r.bricks.length) = false := dF (by omega)
  go_enter Tryz.func57, Tryz.ntmps57
  go_wp2_with fail
  generalize (w.alloc (LSe r)) = W0 at *;have hB1 := Below.refl W0.heap.size W0;obtain ⟨x0, -, -, -, -, x5, -, -, -, -, -, x11, x12⟩ := set13 HAT
  go_loop [5] (fun v => ∃ k : Nat, k ≤ r.items.length ∧ v = .int .i64 k ∧ Hid (∀ j, j < k → (tg r.items j).name.size ≤ 60)) (fun v => r.items.length - (intOf v).toNat)
  case atStart => exact ⟨0, Nat.zero_le _, rfl, lh (fun j hj => by omega)⟩
  case round =>
   obtain ⟨k, hk, rfl, HO1⟩ := hrel
   by_cases hlt : k < r.items.length
   ·obtain ⟨b, off, hia, hb, hc⟩ := (HS.out _ hB1).items (by omega)
    have y := x11 W0 hB1;rw [hia] at y;have c0 := (hc k hlt).1;clear hc hia x11;have k1 : (k : Int) < r.items.length := by omega
    obtain ⟨s, hs⟩ := nm ((tg r.items k).name);rw [hs] at c0
    by_cases q : 60 < s.size
    ·have ga : decide ((60 : Int) < (s.size : Int)) = true := dT (by omega)
     have gb : decide (60 < s.size) = true := dT (by omega)
     have HR : Hid (R = false) := lh (by
      rw [Bool.eq_false_iff];intro h;have := (HI.out.1 h).2.2.2.2.2.1 k hlt;rw [hs] at this;omega)
     clear q hs
     go_wp2_with fail
     go_ret;exact ⟨ret_bool HR.out.symm, HX.out _ hB1⟩
    ·have ga : decide ((60 : Int) < (s.size : Int)) = false := dF (by omega)
     have gb : decide (60 < s.size) = false := dF (by omega)
     have HN : Hid (∀ j, j < k + 1 → (tg r.items j).name.size ≤ 60) := lh fun j hj => by
      rcases (show j < k ∨ j = k by omega) with l | l
      ·exact HO1.out j l
      ·subst l; rw [hs]; omega
     clear q hs
     go_wp2_with fail
     go_round
     case rel => exact ⟨k + 1, by omega, by go_num, HN⟩
     case measure => simp [intOf]; omega
   ·obtain rfl : k = r.items.length := by omega
    go_wp2_with fail
    go_loop [6] (fun v => ∃ k : Nat, k ≤ r.bricks.length ∧ v = .int .i64 k ∧ Hid (∀ j, j < k → (bg r.bricks j).name.size ≤ 60)) (fun v => r.bricks.length - (intOf v).toNat)
    case atStart => exact ⟨0, Nat.zero_le _, rfl, lh (fun j hj => by omega)⟩
    case round =>
     obtain ⟨k, hk, rfl, HO2⟩ := hrel
     by_cases hlt : k < r.bricks.length
     ·obtain ⟨b, off, hia, hb, hc⟩ := (HS.out _ hB1).bricks (by omega)
      have y := x12 W0 hB1;rw [hia] at y;have c0 := (hc k hlt).1;clear hc hia x12;have k1 : (k : Int) < r.bricks.length := by omega
      obtain ⟨s, hs⟩ := nm ((bg r.bricks k).name);rw [hs] at c0
      by_cases q : 60 < s.size
      ·have ga : decide ((60 : Int) < (s.size : Int)) = true := dT (by omega)
       have gb : decide (60 < s.size) = true := dT (by omega)
       have HR : Hid (R = false) := lh (by
        rw [Bool.eq_false_iff];intro h;have := (HI.out.1 h).2.2.2.2.2.2 k hlt;rw [hs] at this;omega)
       clear q hs
       go_wp2_with fail
       go_ret;exact ⟨ret_bool HR.out.symm, HX.out _ hB1⟩
      ·have ga : decide ((60 : Int) < (s.size : Int)) = false := dF (by omega)
       have gb : decide (60 < s.size) = false := dF (by omega)
       have HN : Hid (∀ j, j < k + 1 → (bg r.bricks j).name.size ≤ 60) := lh fun j hj => by
        rcases (show j < k ∨ j = k by omega) with l | l
        ·exact HO2.out j l
        ·subst l; rw [hs]; omega
       clear q hs
       go_wp2_with fail
       go_round
       case rel => exact ⟨k + 1, by omega, by go_num, HN⟩
       case measure => simp [intOf]; omega
     ·obtain rfl : k = r.bricks.length := by omega
      have HR : Hid (R = true) := lh (HI.out.2 ⟨by omega, by omega, by omega, by omega, by omega, HO1.out, HO2.out⟩)
      go_wp2_with fail
      go_ret;exact ⟨ret_bool HR.out.symm, HX.out _ hB1⟩
def SmallH (h : HouseR) (most : Int) : Prop := (h.sets.length : Int) ≤ most ∧ (h.roofs.length : Int) ≤ most + 10 ∧ h.name.size ≤ 60 ∧ (∀ i, i < h.sets.length → smallB (hg h.sets i) 8 = true) ∧ ∀ i, i < h.roofs.length → (rg h.roofs i).name.size ≤ 60
noncomputable def smallHB (h : HouseR) (most : Int) : Bool := @decide (SmallH h most) (Classical.propDecidable _)
theorem smallH_iff {h : HouseR} {most : Int} : smallHB h most = true ↔ SmallH h most := @decide_eq_true_iff (SmallH h most) (Classical.propDecidable _)
theorem smallH_no {h : HouseR} {most : Int} (n : ¬ SmallH h most) : smallHB h most = false := by
 cases e : smallHB h most
 ·rfl
 ·exact absurd (smallH_iff.1 e) n
theorem smallH_in {w : World} {h : HouseR} {most : Int} (hm : most ≤ 900) (x : HouseIn0 w h) (s : SmallH h most) : HouseIn w h :=
 ⟨x, fun i hi => small_in (x.each i hi) (s.2.2.2.1 i hi), by have := s.1; omega, by have := s.2.1; omega⟩
theorem smallH_any (h : HouseR) (most : Int) (m0 : 0 ≤ most) (m1 : most ≤ 900) (w : World) (hh : HouseIn0 w h) :
  Calls Tryz.prog 24 #[.agg #[.string h.name, .int .i64 h.height, .slice h.sa h.sets.length h.sc, .slice h.ra h.roofs.length h.rc], .int .i64 most] w fun e w' => e = .returned (.bool (smallHB h most)) ∧ Below w.heap.size w w' := by
 have HH := lh hh;have hcap := hh.scap;have hrcap := hh.rcap;have hat := HouseAt.new w h 25;obtain ⟨sa, hsa⟩ := nm (h.sa);obtain ⟨ra, hra⟩ := nm (h.ra);have HSA := lh hsa;have HRA := lh hra;rw [hsa, hra] at hat ⊢;have HAT := lh hat;have hW0 := below_new w (.cells #[.string h.name, .int .i64 h.height, .slice sa h.sets.length h.sc, .slice ra h.roofs.length h.rc] 25);have mw : IntKind.i64.wrap (most + 10) = most + 10 := IntWalk.i64_in _ (by omega);clear hh hat hsa hra
 cases h1 : decide (most < (h.sets.length : Int))
 case true =>
  have H1 := lh h1;have HZ := lh (smallH_no (h := h) (most := most) (fun q => by have := q.1; have e := of_decide_eq_true H1.out; omega))
  go_enter Tryz.func24, Tryz.ntmps24
  go_upto_region 1 with (fail)
  generalize w.alloc (.cells #[.string h.name, .int .i64 h.height, .slice sa h.sets.length h.sc, .slice ra h.roofs.length h.rc] 25) = W0 at *;obtain ⟨k0, k1, k2, k3⟩ := HAT.out;rw [HSA.out] at k2;rw [HRA.out] at k3
  go_wp2_with fail
  go_ret;exact ⟨ret_bool HZ.out.symm, hW0⟩
 have H1 := lh h1
 cases h2 : decide (most + 10 < (h.roofs.length : Int))
 case true =>
  have H2 := lh h2;have HZ := lh (smallH_no (h := h) (most := most) (fun q => by have := q.2.1; have e := of_decide_eq_true H2.out; omega))
  go_enter Tryz.func24, Tryz.ntmps24
  go_upto_region 1 with (fail)
  generalize w.alloc (.cells #[.string h.name, .int .i64 h.height, .slice sa h.sets.length h.sc, .slice ra h.roofs.length h.rc] 25) = W0 at *;obtain ⟨k0, k1, k2, k3⟩ := HAT.out;rw [HSA.out] at k2;rw [HRA.out] at k3
  go_wp2_with fail
  go_ret;exact ⟨ret_bool HZ.out.symm, hW0⟩
 have H2 := lh h2
 cases h3 : decide ((60 : Int) < (h.name.size : Int))
 case true =>
  have H3 := lh h3;have HZ := lh (smallH_no (h := h) (most := most) (fun q => by have := q.2.2.1; have e := of_decide_eq_true H3.out; omega))
  go_enter Tryz.func24, Tryz.ntmps24
  go_upto_region 1 with (fail)
  generalize w.alloc (.cells #[.string h.name, .int .i64 h.height, .slice sa h.sets.length h.sc, .slice ra h.roofs.length h.rc] 25) = W0 at *;obtain ⟨k0, k1, k2, k3⟩ := HAT.out;rw [HSA.out] at k2;rw [HRA.out] at k3
  go_wp2_with fail
  go_ret;exact ⟨ret_bool HZ.out.symm, hW0⟩
 have H3 := lh h3;have hsl : h.sets.length ≤ 900 := by have := of_decide_eq_false H1.out; omega
 have hrl : h.roofs.length ≤ 910 := by have := of_decide_eq_false H2.out; omega
 go_enter Tryz.func24, Tryz.ntmps24
 go_upto_region 1 with (fail)
 generalize w.alloc (.cells #[.string h.name, .int .i64 h.height, .slice sa h.sets.length h.sc, .slice ra h.roofs.length h.rc] 25) = W0 at *;obtain ⟨k0, k1, k2, k3⟩ := HAT.out;rw [HSA.out] at k2;rw [HRA.out] at k3
 go_wp2_with fail
 have hz : w.heap.size < W0.heap.size := wl k0;clear k0 k1 k2 k3 h1 h2 h3
 go_loopw [5] (fun i wr => ∃ k : Nat, k ≤ h.sets.length ∧ i = .int .i64 k ∧ Hid (∀ j, j < k → smallB (hg h.sets j) 8 = true) ∧ Below W0.heap.size W0 wr) (fun i _ => h.sets.length - (intOf i).toNat)
 case atStart => exact ⟨0, Nat.zero_le _, rfl, lh (fun _ h => absurd h (Nat.not_lt_zero _)), br⟩
 case round =>
  obtain ⟨k, hk, rfl, HO, hB⟩ := hrel;have HAW := lh (HAT.out.carry hB)
  by_cases hlt : k < h.sets.length
  ·have HHR := lh (HH.out.grow (hW0.trans (hB.mono hW0.size)))
   obtain ⟨b, off, esa, hb, hc⟩ := HHR.out.sets (by omega);obtain rfl : sa = some ⟨b, off, none⟩ := HSA.out.symm.trans esa;have HSET := lh (HHR.out.each k hlt);obtain ⟨c0, c1, c2, c3, c4, c5, c6, c7, c8, c9, c10, c11, c12⟩ := hc k hlt;obtain ⟨k0, k1, k2, k3⟩ := HAW.out;rw [HSA.out] at k2;rw [HRA.out] at k3;have i0 : 0 ≤ (k : Int) := by omega
   have i1 : (k : Int) < (h.sets.length : Int) := by omega
   have s1 : IntKind.i64.wrap ((k : Int) + 1) = (k : Int) + 1 := IntWalk.i64_in _ (by omega);have HN : Hid (smallB (hg h.sets k) 8 = false → smallHB h most = false) := lh fun e => smallH_no fun q => by have := q.2.2.2.1 k hlt; rw [e] at this; cases this
   have HO2 : Hid (smallB (hg h.sets k) 8 = true → ∀ j, j < k + 1 → smallB (hg h.sets j) 8 = true) := lh fun q j hj => by
    rcases Nat.lt_or_eq_of_le (Nat.le_of_lt_succ hj) with l | l
    ·exact HO.out j l
    ·subst l; exact q
   generalize hg h.sets k = x at *;have HBV := lh (small_any x 8 wr HSET.out);clear hc HO esa
   cases h6 : smallB x 8
   ·have HZ := lh (HN.out h6)
    rw [h6] at HBV;clear h6
    go_wp2_with (go_at_call 57; (with_reducible refine HBV.out.mono ?_); rintro e w3 ⟨rfl, hb3⟩)
    go_ret;exact ⟨ret_bool HZ.out.symm, hW0.trans ((hB.trans (hb3.mono hB.size)).mono hW0.size)⟩
   ·have HY := lh (HO2.out h6)
    rw [h6] at HBV;clear h6
    go_wp2_with (go_at_call 57; (with_reducible refine HBV.out.mono ?_); rintro e w3 ⟨rfl, hb3⟩)
    go_roundw
    case rel => exact ⟨k + 1, by omega, by go_num, HY, hB.trans (hb3.mono hB.size)⟩
    case measure => simp [intOf]; omega
  ·obtain rfl : k = h.sets.length := by omega
   have HS := lh HO.out;have HBQ := lh hB;obtain ⟨k0, k1, k2, k3⟩ := HAW.out;rw [HSA.out] at k2;rw [HRA.out] at k3;clear HO hB
   go_wp2_with fail
   clear k0 k1 k2 k3
   go_loopw [6] (fun i wx => ∃ k : Nat, k ≤ h.roofs.length ∧ i = .int .i64 k ∧ Hid (∀ j, j < k → (rg h.roofs j).name.size ≤ 60) ∧ Below wr.heap.size wr wx) (fun i _ => h.roofs.length - (intOf i).toNat)
   case atStart => exact ⟨0, Nat.zero_le _, rfl, lh (fun _ h => absurd h (Nat.not_lt_zero _)), br⟩
   case round =>
    obtain ⟨k, hk, rfl, HO, hB⟩ := hrel;have HAX := lh (HAW.out.carry hB);obtain ⟨k0, k1, k2, k3⟩ := HAX.out;rw [HSA.out] at k2;rw [HRA.out] at k3
    by_cases hlt : k < h.roofs.length
    ·have hBW := hW0.trans ((HBQ.out.trans (hB.mono HBQ.out.size)).mono hW0.size)
     have HHR := lh (HH.out.grow hBW);obtain ⟨b, off, era, hb, hc⟩ := HHR.out.roofs (by omega);obtain rfl : ra = some ⟨b, off, none⟩ := HRA.out.symm.trans era;obtain ⟨c0, c1, c2, c3⟩ := hc k hlt;have i0 : 0 ≤ (k : Int) := by omega
     have i1 : (k : Int) < (h.roofs.length : Int) := by omega
     have s1 : IntKind.i64.wrap ((k : Int) + 1) = (k : Int) + 1 := IntWalk.i64_in _ (by omega);clear hc era
     by_cases h6 : (60 : Int) < ((rg h.roofs k).name.size : Int)
     ·have g6 := decide_eq_true h6
      have HZ := lh (smallH_no (h := h) (most := most) fun q => by have := q.2.2.2.2 k hlt; omega);clear h6
      go_wp2_with fail
      go_ret;exact ⟨ret_bool HZ.out.symm, hBW⟩
     ·have g6 := decide_eq_false h6
      have HY : Hid (∀ j, j < k + 1 → (rg h.roofs j).name.size ≤ 60) := lh fun j hj => by
       rcases Nat.lt_or_eq_of_le (Nat.le_of_lt_succ hj) with l | l
       ·exact HO.out j l
       ·subst l; omega
      clear h6
      go_wp2_with fail
      go_roundw
      case rel => exact ⟨k + 1, by omega, by go_num, HY, hB⟩
      case measure => simp [intOf]; omega
    ·obtain rfl : k = h.roofs.length := by omega
     have HR : Hid (smallHB h most = true) := lh (smallH_iff.2 ⟨by have := of_decide_eq_false H1.out; omega, by have := of_decide_eq_false H2.out; omega, by have := of_decide_eq_false H3.out; omega, HS.out, HO.out⟩);have hBW := hW0.trans ((HBQ.out.trans (hB.mono HBQ.out.size)).mono hW0.size)
     go_wp2_with fail
     go_ret;exact ⟨ret_bool HR.out.symm, hBW⟩
def RoofIn (w : World) (b : Nat) (x : RoofR) : Prop := w.cell? ⟨b, 0, none⟩ = some (.string x.name) ∧ w.cell? ⟨b, 1, none⟩ = some (.int .i64 x.lo) ∧ w.cell? ⟨b, 2, none⟩ = some (.int .i64 x.hi) ∧ w.cell? ⟨b, 3, none⟩ = some (.int .i64 x.most)
theorem RoofIn.carry {w w' : World} {b : Nat} {x : RoofR} (h : RoofIn w b x) (hb : Below w.heap.size w w') : RoofIn w' b x := by
 have hlt : b < w.heap.size := wl h.1;obtain ⟨a0, a1, a2, a3⟩ := h;exact ⟨(hb.cell (p := ⟨b, 0, none⟩) hlt).trans a0, (hb.cell (p := ⟨b, 1, none⟩) hlt).trans a1, (hb.cell (p := ⟨b, 2, none⟩) hlt).trans a2, (hb.cell (p := ⟨b, 3, none⟩) hlt).trans a3⟩
theorem RoofIn.new (w : World) (x : RoofR) (t : TypeId) : RoofIn (w.alloc (.cells #[.string x.name, .int .i64 x.lo, .int .i64 x.hi, .int .i64 x.most] t)) w.heap.size x := by
 unfold RoofIn
 simp
theorem gname_any (s : ByteArray) (w : World) : Calls Tryz.prog 122 #[.string s] w fun e w' => e = .returned (.bool (isNameB s)) ∧ w = w' := by
 go_enter Tryz.func122, Tryz.ntmps122
 go_wp2_with (go_at_call 100; (with_reducible refine (isName_any s _).mono ?_); rintro e w1 ⟨rfl, rfl⟩)
 go_ret;exact ⟨rfl, rfl⟩
theorem gwithin_any (n : Int) (w : World) : Calls Tryz.prog 123 #[.int .i64 n] w fun e w' => e = .returned (.bool (betB n 0 1048576)) ∧ w = w' := by
 by_cases h : 0 ≤ n
 ·have g := decide_eq_true h
  have HR : Hid (betB n 0 1048576 = decide (n ≤ 1048576)) := lh (by unfold betB; rw [g]; rfl);rw [HR.out];clear h
  go_enter Tryz.func123, Tryz.ntmps123
  go_wp2_with fail
  go_ret;exact ⟨rfl, rfl⟩
 ·have g := decide_eq_false h
  have HR : Hid (betB n 0 1048576 = false) := lh (by unfold betB; rw [g]; rfl);rw [HR.out];clear h
  go_enter Tryz.func123, Tryz.ntmps123
  go_wp2_with fail
  go_ret;exact ⟨rfl, rfl⟩
theorem ent_gvalid (args : Array Value) (w : World) : (callFunc 125 args).run Tryz.prog w = .ok (.enter 125 args) w := enters_of Tryz.func125 (by kernel_rfl) rfl args w
theorem gsame_any (b : Nat) (x y : RoofR) (w : World) (h : RoofIn w b x) (hlt : b < w.heap.size) :
  Calls Tryz.prog 125 #[.agg #[.string y.name, .int .i64 y.lo, .int .i64 y.hi, .int .i64 y.most], .pointer (some ⟨b, 0, none⟩)] w fun e w' => e = .returned (.bool (decide (y.name = x.name))) ∧ Below w.heap.size w w' := by
 obtain ⟨a0, a1, a2, a3⟩ := h
 go_enter Tryz.func125, Tryz.ntmps125
 go_wp2_with fail
 go_ret;exact ⟨ret_bool (str_eq _ _), below_new _ _⟩
theorem asks_roof {w : World} {b : Nat} {x : RoofR} (h : RoofIn w b x) (hlt : b < w.heap.size) : AsksRoof 125 #[.pointer (some ⟨b, 0, none⟩)] w.heap.size w (fun y => decide (y.name = x.name)) := by
 intro W r hb;exact gsame_any b x r W (h.carry hb) (Nat.lt_of_lt_of_le hlt hb.size)
theorem roof_contains_n (a : Option Addr) (M : List RoofR) (n cap n₀ g : Nat) (cb : Array Value) (p : RoofR → Bool) (w : World) (hn : n = M.length) (eg : ∀ args w, (callFunc g args).run Tryz.prog w = .ok (.enter g args) w)
  (hl : n ≤ 1100) (hn₀ : n₀ ≤ w.heap.size) (hI : Roofs n₀ w a M) (hp : AsksRoof g cb n₀ w p) :
  Calls Tryz.prog 124 #[.slice a n cap, .func (.func g) #[] cb] w fun e w' => e = .returned (.bool (roof_any M p)) ∧ Below w.heap.size w w' := by
 subst hn;exact roof_containsFunc a M cap n₀ g cb p w eg hl hn₀ hI hp
theorem rg_take {L : List RoofR} {k j : Nat} (h : j < k) : rg (L.take k) j = rg L j := by
 unfold rg;rw [List.getElem?_take, if_pos h]
theorem roof_twice {L : List RoofR} {k : Nat} (hk : k ≤ L.length) (s : ByteArray) : roof_any (L.take k) (fun y => decide (y.name = s)) = false ↔ ∀ j, j < k → (rg L j).name ≠ s := by
 unfold roof_any;rw [decide_eq_false_iff_not];have hl : (L.take k).length = k := by rw [List.length_take]; omega
 rcases roof_first_cases (L.take k) (fun y => decide (y.name = s)) with ⟨e, n⟩ | ⟨i, hi, e, hn, _⟩
 ·rw [hl] at n
  refine ⟨fun _ j hj => ?_, fun _ => by omega⟩;have := n j hj;rw [rg_take hj] at this
  simpa using this
 ·rw [hl] at hi
  refine ⟨fun h => absurd (by omega) h, fun h => absurd ?_ (h i hi)⟩;rw [rg_take hi] at hn
  simpa using hn
theorem gridvalid_any (a : Option Addr) (L : List RoofR) (c : Nat) (w : World) (hl : L.length ≤ 1000) (hcap : L.length ≤ c) (h : Roofs w.heap.size w a L) :
  Calls Tryz.prog 101 #[.slice a L.length c] w fun e w' => e = .returned (.bool (roofsB L)) ∧ Below w.heap.size w w' := by
 have HU := lh h;clear h
 by_cases q : 20 < L.length
 ·have HR : Hid (roofsB L = false) := lh (by
   cases e : roofsB L
   ·rfl
   ·have := (roofsB_iff.1 e).1; omega)
  rw [HR.out];have g : decide ((20 : Int) < L.length) = true := dT (by omega);clear q
  go_enter Tryz.func101, Tryz.ntmps101
  go_wp2_with fail
  go_ret;exact ⟨rfl, br⟩
 have g : decide ((20 : Int) < L.length) = false := dF (by omega);have hq : L.length ≤ 20 := by omega
 clear q
 go_enter Tryz.func101, Tryz.ntmps101
 go_wp2_with fail
 clear g
 go_loopw [10] (fun i wr => ∃ k : Nat, k ≤ L.length ∧ i = .int .i64 k ∧ Hid (∀ j, j < k → RoofAt L j) ∧ Below w.heap.size w wr) (fun i _ => L.length - (intOf i).toNat)
 case atStart => exact ⟨0, Nat.zero_le _, rfl, lh (fun _ h => absurd h (Nat.not_lt_zero _)), br⟩
 case round =>
  obtain ⟨k, hk, rfl, HO, hB⟩ := hrel
  by_cases hlt : k < L.length
  ·obtain ⟨b, off, rfl, hb, hc⟩ := HU.out (by omega)
   obtain ⟨e0, e1, e2, e3⟩ := hc k hlt;have c0 := (hB.cell (p := ⟨b, _, none⟩) hb).trans e0;have c1 := (hB.cell (p := ⟨b, _, none⟩) hb).trans e1;have c2 := (hB.cell (p := ⟨b, _, none⟩) hb).trans e2;have c3 := (hB.cell (p := ⟨b, _, none⟩) hb).trans e3;have i0 : 0 ≤ (k : Int) := by omega
   have i1 : (k : Int) < (L.length : Int) := by omega
   have s1 : IntKind.i64.wrap ((k : Int) + 1) = (k : Int) + 1 := IntWalk.i64_in _ (by omega);have hTl : k = (L.take k).length := by rw [List.length_take]; omega
   have HTL := lh hTl;have k1 : k ≤ c := by omega
   have k2 : (k : Int) ≤ (c : Int) := by omega
   have HN : Hid (¬ RoofAt L k → roofsB L = false) := lh (roofs_no hlt);have HAT : Hid (RoofAt L k ↔ RoofOK (rg L k) ∧ ∀ j, j < k → (rg L j).name ≠ (rg L k).name) := lh Iff.rfl;have HTW := lh (roof_twice (L := L) (k := k) hk (rg L k).name);have HTK : Hid (Roofs w.heap.size w (some ⟨b, off, none⟩) (L.take k)) := lh (HU.out.take k);have HB := lh hB
   have HO2 : Hid (RoofAt L k → ∀ j, j < k + 1 → RoofAt L j) := lh fun h j hj => by
    rcases Nat.lt_or_eq_of_le (Nat.le_of_lt_succ hj) with l | l
    ·exact HO.out j l
    ·subst l; exact h
   generalize rg L k = x at *;have HNEW := lh (RoofIn.new wr x 93);have hB1 := hB.alloc hB.size (.cells #[.string x.name, .int .i64 x.lo, .int .i64 x.hi, .int .i64 x.most] 93);clear hc e0 e1 e2 e3 HO hTl hB
   go_upto_region 6 with (fail)
   have HS1 : Hid (Below wr.heap.size wr (wr.alloc (.cells #[.string x.name, .int .i64 x.lo, .int .i64 x.hi, .int .i64 x.most] 93))) := lh (below_new _ _);have hz : wr.heap.size < (wr.alloc (.cells #[.string x.name, .int .i64 x.lo, .int .i64 x.hi, .int .i64 x.most] 93)).heap.size := by simp
   clear c0 c1 c2 c3;obtain ⟨B, hBe⟩ := nm (wr.heap.size);simp only [hBe] at HNEW hz ⊢;generalize wr.alloc (.cells #[.string x.name, .int .i64 x.lo, .int .i64 x.hi, .int .i64 x.most] 93) = W1 at *;obtain ⟨d0, d1, d2, d3⟩ := HNEW.out
   cases h1 : isNameB x.name
   ·have H1 := lh h1
    have HZ := lh (HN.out (fun hh => absurd (HAT.out.1 hh) (fun h => by have := h.1.1; rw [H1.out] at this; cases this)));clear h1
    go_wp2_with (first
     | (go_at_call 122; (with_reducible refine (gname_any x.name _).mono ?_); rintro e w2 ⟨rfl, rfl⟩; rw [H1.out])
     | (go_at_call 123; (with_reducible refine (gwithin_any x.lo _).mono ?_); rintro e w3 ⟨rfl, rfl⟩; rw [H2.out])
     | (go_at_call 123; (with_reducible refine (gwithin_any x.hi _).mono ?_); rintro e w4 ⟨rfl, rfl⟩; rw [H3.out]))
    go_ret;exact ⟨ret_bool HZ.out.symm, hB1⟩
   have H1 := lh h1;clear h1
   cases h2 : betB x.lo 0 1048576
   ·have H2 := lh h2
    have HZ := lh (HN.out (fun hh => absurd (HAT.out.1 hh) (fun h => by have := h.1; unfold RoofOK at this; have e : betB x.lo 0 1048576 = true := betB_iff.2 (by omega); rw [H2.out] at e; cases e)));clear h2
    go_wp2_with (first
     | (go_at_call 122; (with_reducible refine (gname_any x.name _).mono ?_); rintro e w2 ⟨rfl, rfl⟩; rw [H1.out])
     | (go_at_call 123; (with_reducible refine (gwithin_any x.lo _).mono ?_); rintro e w3 ⟨rfl, rfl⟩; rw [H2.out])
     | (go_at_call 123; (with_reducible refine (gwithin_any x.hi _).mono ?_); rintro e w4 ⟨rfl, rfl⟩; rw [H3.out]))
    go_ret;exact ⟨ret_bool HZ.out.symm, hB1⟩
   have H2 := lh h2;clear h2
   cases h3 : betB x.hi 0 1048576
   ·have H3 := lh h3
    have HZ := lh (HN.out (fun hh => absurd (HAT.out.1 hh) (fun h => by have := h.1; unfold RoofOK at this; have e : betB x.hi 0 1048576 = true := betB_iff.2 (by omega); rw [H3.out] at e; cases e)));clear h3
    go_wp2_with (first
     | (go_at_call 122; (with_reducible refine (gname_any x.name _).mono ?_); rintro e w2 ⟨rfl, rfl⟩; rw [H1.out])
     | (go_at_call 123; (with_reducible refine (gwithin_any x.lo _).mono ?_); rintro e w3 ⟨rfl, rfl⟩; rw [H2.out])
     | (go_at_call 123; (with_reducible refine (gwithin_any x.hi _).mono ?_); rintro e w4 ⟨rfl, rfl⟩; rw [H3.out]))
    go_ret;exact ⟨ret_bool HZ.out.symm, hB1⟩
   have H3 := lh h3;clear h3
   cases h4 : decide (x.hi < x.lo)
   case true =>
    have H4 := lh h4;have HZ := lh (HN.out (fun hh => absurd (HAT.out.1 hh) (fun h => by have := h.1; unfold RoofOK at this; have e := of_decide_eq_true H4.out; omega)))
    go_wp2_with (first
     | (go_at_call 122; (with_reducible refine (gname_any x.name _).mono ?_); rintro e w2 ⟨rfl, rfl⟩; rw [H1.out])
     | (go_at_call 123; (with_reducible refine (gwithin_any x.lo _).mono ?_); rintro e w3 ⟨rfl, rfl⟩; rw [H2.out])
     | (go_at_call 123; (with_reducible refine (gwithin_any x.hi _).mono ?_); rintro e w4 ⟨rfl, rfl⟩; rw [H3.out]))
    go_ret;exact ⟨ret_bool HZ.out.symm, hB1⟩
   have H4 := lh h4
   cases h5 : decide (x.most < 0)
   case true =>
    have H5 := lh h5;have HZ := lh (HN.out (fun hh => absurd (HAT.out.1 hh) (fun h => by have := h.1; unfold RoofOK at this; have e := of_decide_eq_true H5.out; omega)))
    go_wp2_with (first
     | (go_at_call 122; (with_reducible refine (gname_any x.name _).mono ?_); rintro e w2 ⟨rfl, rfl⟩; rw [H1.out])
     | (go_at_call 123; (with_reducible refine (gwithin_any x.lo _).mono ?_); rintro e w3 ⟨rfl, rfl⟩; rw [H2.out])
     | (go_at_call 123; (with_reducible refine (gwithin_any x.hi _).mono ?_); rintro e w4 ⟨rfl, rfl⟩; rw [H3.out]))
    go_ret;exact ⟨ret_bool HZ.out.symm, hB1⟩
   have H5 := lh h5
   cases h6 : decide (67108864 < x.most)
   case true =>
    have H6 := lh h6;have HZ := lh (HN.out (fun hh => absurd (HAT.out.1 hh) (fun h => by have := h.1; unfold RoofOK at this; have e := of_decide_eq_true H6.out; omega)))
    go_wp2_with (first
     | (go_at_call 122; (with_reducible refine (gname_any x.name _).mono ?_); rintro e w2 ⟨rfl, rfl⟩; rw [H1.out])
     | (go_at_call 123; (with_reducible refine (gwithin_any x.lo _).mono ?_); rintro e w3 ⟨rfl, rfl⟩; rw [H2.out])
     | (go_at_call 123; (with_reducible refine (gwithin_any x.hi _).mono ?_); rintro e w4 ⟨rfl, rfl⟩; rw [H3.out]))
    go_ret;exact ⟨ret_bool HZ.out.symm, hB1⟩
   have H6 := lh h6
   have HOK : Hid (RoofOK x) := lh (by
    have a2 := betB_iff.1 H2.out;have a3 := betB_iff.1 H3.out;have a4 := of_decide_eq_false H4.out;have a5 := of_decide_eq_false H5.out;have a6 := of_decide_eq_false H6.out;exact ⟨H1.out, by omega, by omega, by omega, by omega, by omega⟩)
   have HCON : Hid (Calls Tryz.prog 124 #[.slice (some ⟨b, off, none⟩) k c, .func (.func 125) #[] #[.pointer (some ⟨B, 0, none⟩)]] W1 fun e w' => e = .returned (.bool (roof_any (L.take k) (fun y => decide (y.name = x.name)))) ∧ Below W1.heap.size W1 w') := lh
    (roof_contains_n (some ⟨b, off, none⟩) (L.take k) k c _ _ _ (fun y => decide (y.name = x.name)) _ HTL.out ent_gvalid (by omega) (Nat.le_refl _) ((HTK.out.below hB1).mono hB1.size) (asks_roof HNEW.out hz))
   cases h7 : roof_any (L.take k) (fun y => decide (y.name = x.name))
   ·have H7 := lh h7
    have HY := lh (HO2.out (HAT.out.2 ⟨HOK.out, HTW.out.1 h7⟩));rw [h7] at HCON;clear h7
    go_wp2_with (first
     | (go_at_call 122; (with_reducible refine (gname_any x.name _).mono ?_); rintro e w2 ⟨rfl, rfl⟩; rw [H1.out])
     | (go_at_call 123; (with_reducible refine (gwithin_any x.lo _).mono ?_); rintro e w3 ⟨rfl, rfl⟩; rw [H2.out])
     | (go_at_call 123; (with_reducible refine (gwithin_any x.hi _).mono ?_); rintro e w4 ⟨rfl, rfl⟩; rw [H3.out])
     | (go_at_call 124; (with_reducible refine HCON.out.mono ?_); rintro e w5 ⟨rfl, hb5⟩))
    go_roundw
    case rel => exact ⟨k + 1, by omega, by go_num, HY, hB1.trans (hb5.mono hB1.size)⟩
    case measure => simp [intOf]; omega
   ·have H7 := lh h7
    have HZ := lh (HN.out (fun hh => by
     have := HTW.out.2 (HAT.out.1 hh).2;rw [H7.out] at this
     cases this))
    rw [h7] at HCON;clear h7
    go_wp2_with (first
     | (go_at_call 122; (with_reducible refine (gname_any x.name _).mono ?_); rintro e w2 ⟨rfl, rfl⟩; rw [H1.out])
     | (go_at_call 123; (with_reducible refine (gwithin_any x.lo _).mono ?_); rintro e w3 ⟨rfl, rfl⟩; rw [H2.out])
     | (go_at_call 123; (with_reducible refine (gwithin_any x.hi _).mono ?_); rintro e w4 ⟨rfl, rfl⟩; rw [H3.out])
     | (go_at_call 124; (with_reducible refine HCON.out.mono ?_); rintro e w5 ⟨rfl, hb5⟩))
    go_ret;exact ⟨ret_bool HZ.out.symm, hB1.trans (hb5.mono hB1.size)⟩
  ·obtain rfl : k = L.length := by omega
   have HR := lh (roofsB_iff.2 ⟨hq, HO.out⟩)
   go_wp2_with fail
   go_ret;exact ⟨ret_bool HR.out.symm, hB⟩
theorem ent_find (args : Array Value) (w : World) : (callFunc 130 args).run Tryz.prog w = .ok (.enter 130 args) w := enters_of Tryz.func130 (by kernel_rfl) rfl args w
theorem hsame_any (b : Nat) (s : ByteArray) (y : SetR) (w : World) (h : w.cell? ⟨b, 0, none⟩ = some (.string s)) :
  Calls Tryz.prog 130 #[.agg #[.string y.name, .int .i64 y.depth, .int .i64 y.low, .int .i64 y.high, .int .i64 y.length, .slice y.la y.lines.length y.lc, .int .i64 y.pipe, .int .i64 y.arbor, .int .i64 y.purchase, .int .i64 y.most, .int .i64 y.brake, .slice y.ia y.items.length y.ic, .slice y.ba y.bricks.length y.bc], .pointer (some ⟨b, 0, none⟩)] w fun e w' => e = .returned (.bool (decide (y.name = s))) ∧ Below w.heap.size w w' := by
 have hlt : b < w.heap.size := wl h
 go_enter Tryz.func130, Tryz.ntmps130
 go_wp2_with fail
 go_ret;exact ⟨ret_bool (str_eq _ _), below_new _ _⟩
theorem asks_find {w : World} {b : Nat} {s : ByteArray} (h : w.cell? ⟨b, 0, none⟩ = some (.string s)) : AsksSet 130 #[.pointer (some ⟨b, 0, none⟩)] w.heap.size w (fun y => decide (y.name = s)) := by
 intro W r hb;exact hsame_any b s r W ((hb.cell (p := ⟨b, 0, none⟩) (wl h)).trans h)
theorem hfind_any (h : HouseR) (s : ByteArray) (w : World) (hh : HouseIn w h) :
  Calls Tryz.prog 103 #[.agg #[.string h.name, .int .i64 h.height, .slice h.sa h.sets.length h.sc, .slice h.ra h.roofs.length h.rc], .string s] w fun e w' => e = .returned (.int .i64 (findS h.sets s)) ∧ Below w.heap.size w w' := by
 have hB := (below_new w (LHo h)).alloc (by simp) (.cells #[.string s] 9);have hs0 : ((w.alloc (LHo h)).alloc (.cells #[.string s] 9)).cell? ⟨w.heap.size + 1, 0, none⟩ = some (.string s) := by simp
 have HA := lh (asks_find hs0)
 have HI : Hid (Calls Tryz.prog 92 #[.slice h.sa h.sets.length h.sc, .func (.func 130) #[] #[.pointer (some ⟨w.heap.size + 1, 0, none⟩)]] ((w.alloc (LHo h)).alloc (.cells #[.string s] 9)) fun e w' => e = .returned (.int .i64 (set_first h.sets (fun y => decide (y.name = s)))) ∧ Below ((w.alloc (LHo h)).alloc (.cells #[.string s] 9)).heap.size ((w.alloc (LHo h)).alloc (.cells #[.string s] 9)) w') := lh
  (set_indexFunc h.sa h.sets h.sc _ _ _ (fun y => decide (y.name = s)) _ ent_find (by have := hh.slen; omega) (Nat.le_refl _) (hh.sets.grow hB) HA.out)
 have HBB := lh hB;clear hs0 HA hB hh
 go_enter Tryz.func103, Tryz.ntmps103
 go_wp2_with (go_at_call 92; (with_reducible refine HI.out.mono ?_); rintro e w1 ⟨rfl, hb1⟩)
 go_ret;exact ⟨rfl, HBB.out.trans (hb1.mono HBB.out.size)⟩
theorem housevalid_any (h : HouseR) (w : World) (hh : HouseIn w h) :
  Calls Tryz.prog 58 #[.agg #[.string h.name, .int .i64 h.height, .slice h.sa h.sets.length h.sc, .slice h.ra h.roofs.length h.rc]] w fun e w' => e = .returned (.bool (houseB h)) ∧ Below w.heap.size w w' := by
 have HH := lh hh;have hsl := hh.slen;have hcap := hh.scap;have HGV : Hid (∀ w' : World, Below w.heap.size w w' → Calls Tryz.prog 101 #[.slice h.ra h.roofs.length h.rc] w' fun e w2 => e = .returned (.bool (roofsB h.roofs)) ∧ Below w'.heap.size w' w2) := lh fun w' hb => gridvalid_any h.ra h.roofs h.rc w' hh.rlen hh.rcap (hh.roofs.grow hb)
 have HNO : Hid ((¬ (isNameB h.name = true ∧ 1 ≤ h.height ∧ h.height ≤ 1048576 ∧ h.sets.length ≤ 60 ∧ RoofsOK h.roofs)) → houseB h = false) := lh fun n => by
  cases e : houseB h
  ·rfl
  ·obtain ⟨a, b, c, d, e, _⟩ := houseB_iff.1 e
   exact absurd ⟨a, b, c, d, e⟩ n
 have hat := HouseAt.new w h 25;obtain ⟨sa, hsa⟩ := nm (h.sa);have HSA := lh hsa;rw [hsa] at hat ⊢;have HAT := lh hat;have hW0 := below_new w (.cells #[.string h.name, .int .i64 h.height, .slice sa h.sets.length h.sc, .slice h.ra h.roofs.length h.rc] 25);clear hh hat hsa
 cases h1 : isNameB h.name
 case false =>
  have H1 := lh h1;have HZ := lh (HNO.out (fun q => by rw [H1.out] at q; exact absurd q.1 (by decide)));clear h1
  go_enter Tryz.func58, Tryz.ntmps58
  go_upto_region 1 with (fail)
  generalize w.alloc (.cells #[.string h.name, .int .i64 h.height, .slice sa h.sets.length h.sc, .slice h.ra h.roofs.length h.rc] 25) = W0 at *;obtain ⟨k0, k1, k2, k3⟩ := HAT.out;rw [HSA.out] at k2
  go_wp2_with (first
   | (go_at_call 100; (with_reducible refine (isName_any h.name _).mono ?_); rintro e w1 ⟨rfl, rfl⟩; rw [H1.out])
   | (go_at_call 101; (with_reducible refine (HGV.out _ hW0).mono ?_); rintro e w2 ⟨rfl, hb2⟩; rw [H5.out]; clear k0 k1 k2 k3; obtain ⟨k0, k1, k2, k3⟩ := HAT.out.carry hb2; rw [HSA.out] at k2))
  go_ret;exact ⟨ret_bool HZ.out.symm, hW0⟩
 have H1 := lh h1;clear h1
 cases h2 : decide (h.height < 1)
 case true =>
  have H2 := lh h2;have HZ := lh (HNO.out (fun q => by have := of_decide_eq_true H2.out; omega))
  go_enter Tryz.func58, Tryz.ntmps58
  go_upto_region 1 with (fail)
  generalize w.alloc (.cells #[.string h.name, .int .i64 h.height, .slice sa h.sets.length h.sc, .slice h.ra h.roofs.length h.rc] 25) = W0 at *;obtain ⟨k0, k1, k2, k3⟩ := HAT.out;rw [HSA.out] at k2
  go_wp2_with (first
   | (go_at_call 100; (with_reducible refine (isName_any h.name _).mono ?_); rintro e w1 ⟨rfl, rfl⟩; rw [H1.out])
   | (go_at_call 101; (with_reducible refine (HGV.out _ hW0).mono ?_); rintro e w2 ⟨rfl, hb2⟩; rw [H5.out]; clear k0 k1 k2 k3; obtain ⟨k0, k1, k2, k3⟩ := HAT.out.carry hb2; rw [HSA.out] at k2))
  go_ret;exact ⟨ret_bool HZ.out.symm, hW0⟩
 have H2 := lh h2
 cases h3 : decide (1048576 < h.height)
 case true =>
  have H3 := lh h3;have HZ := lh (HNO.out (fun q => by have := of_decide_eq_true H3.out; omega))
  go_enter Tryz.func58, Tryz.ntmps58
  go_upto_region 1 with (fail)
  generalize w.alloc (.cells #[.string h.name, .int .i64 h.height, .slice sa h.sets.length h.sc, .slice h.ra h.roofs.length h.rc] 25) = W0 at *;obtain ⟨k0, k1, k2, k3⟩ := HAT.out;rw [HSA.out] at k2
  go_wp2_with (first
   | (go_at_call 100; (with_reducible refine (isName_any h.name _).mono ?_); rintro e w1 ⟨rfl, rfl⟩; rw [H1.out])
   | (go_at_call 101; (with_reducible refine (HGV.out _ hW0).mono ?_); rintro e w2 ⟨rfl, hb2⟩; rw [H5.out]; clear k0 k1 k2 k3; obtain ⟨k0, k1, k2, k3⟩ := HAT.out.carry hb2; rw [HSA.out] at k2))
  go_ret;exact ⟨ret_bool HZ.out.symm, hW0⟩
 have H3 := lh h3
 cases h4 : decide ((60 : Int) < (h.sets.length : Int))
 case true =>
  have H4 := lh h4;have HZ := lh (HNO.out (fun q => by have := of_decide_eq_true H4.out; omega))
  go_enter Tryz.func58, Tryz.ntmps58
  go_upto_region 1 with (fail)
  generalize w.alloc (.cells #[.string h.name, .int .i64 h.height, .slice sa h.sets.length h.sc, .slice h.ra h.roofs.length h.rc] 25) = W0 at *;obtain ⟨k0, k1, k2, k3⟩ := HAT.out;rw [HSA.out] at k2
  go_wp2_with (first
   | (go_at_call 100; (with_reducible refine (isName_any h.name _).mono ?_); rintro e w1 ⟨rfl, rfl⟩; rw [H1.out])
   | (go_at_call 101; (with_reducible refine (HGV.out _ hW0).mono ?_); rintro e w2 ⟨rfl, hb2⟩; rw [H5.out]; clear k0 k1 k2 k3; obtain ⟨k0, k1, k2, k3⟩ := HAT.out.carry hb2; rw [HSA.out] at k2))
  go_ret;exact ⟨ret_bool HZ.out.symm, hW0⟩
 have H4 := lh h4
 cases h5 : roofsB h.roofs
 case false =>
  have H5 := lh h5;have HZ := lh (HNO.out (fun q => by rw [roofsB_iff.2 q.2.2.2.2] at H5; exact absurd H5.out (by decide)));clear h5
  go_enter Tryz.func58, Tryz.ntmps58
  go_upto_region 1 with (fail)
  generalize w.alloc (.cells #[.string h.name, .int .i64 h.height, .slice sa h.sets.length h.sc, .slice h.ra h.roofs.length h.rc] 25) = W0 at *;obtain ⟨k0, k1, k2, k3⟩ := HAT.out;rw [HSA.out] at k2
  go_wp2_with (first
   | (go_at_call 100; (with_reducible refine (isName_any h.name _).mono ?_); rintro e w1 ⟨rfl, rfl⟩; rw [H1.out])
   | (go_at_call 101; (with_reducible refine (HGV.out _ hW0).mono ?_); rintro e w2 ⟨rfl, hb2⟩; rw [H5.out]; clear k0 k1 k2 k3; obtain ⟨k0, k1, k2, k3⟩ := HAT.out.carry hb2; rw [HSA.out] at k2))
  go_ret;exact ⟨ret_bool HZ.out.symm, hW0.trans (hb2.mono hW0.size)⟩
 have H5 := lh h5;clear h5;have HOK : Hid ((∀ k, k < h.sets.length → SetAtOK h k) → houseB h = true) := lh fun q => houseB_iff.2 ⟨H1.out, by have := of_decide_eq_false H2.out; omega, by have := of_decide_eq_false H3.out; omega, by have := of_decide_eq_false H4.out; omega, roofsB_iff.1 H5.out, q⟩
 go_enter Tryz.func58, Tryz.ntmps58
 go_upto_region 1 with (fail)
 generalize w.alloc (.cells #[.string h.name, .int .i64 h.height, .slice sa h.sets.length h.sc, .slice h.ra h.roofs.length h.rc] 25) = W0 at *;obtain ⟨k0, k1, k2, k3⟩ := HAT.out;rw [HSA.out] at k2
 go_wp2_with (first
   | (go_at_call 100; (with_reducible refine (isName_any h.name _).mono ?_); rintro e w1 ⟨rfl, rfl⟩; rw [H1.out])
   | (go_at_call 101; (with_reducible refine (HGV.out _ hW0).mono ?_); rintro e w2 ⟨rfl, hb2⟩; rw [H5.out]; clear k0 k1 k2 k3; obtain ⟨k0, k1, k2, k3⟩ := HAT.out.carry hb2; rw [HSA.out] at k2))
 have hB1 := hW0.trans (hb2.mono hW0.size);have HAT1 := lh (HAT.out.carry hb2);have hz : w.heap.size < w2.heap.size := wl HAT1.out.1;clear k0 k1 k2 k3 hb2 hW0 h2 h3 h4 HNO HGV HAT
 go_loopw [34] (fun i wr => ∃ k : Nat, k ≤ h.sets.length ∧ i = .int .i64 k ∧ Hid (∀ j, j < k → SetAtOK h j) ∧ Below w2.heap.size w2 wr) (fun i _ => h.sets.length - (intOf i).toNat)
 case atStart => exact ⟨0, Nat.zero_le _, rfl, lh (fun _ h => absurd h (Nat.not_lt_zero _)), br⟩
 case round =>
  obtain ⟨k, hk, rfl, HO, hB⟩ := hrel;have HB := lh hB
  by_cases hlt : k < h.sets.length
  ·have HIN : Hid (∀ w' : World, Below w2.heap.size w2 w' → HouseIn w' h) := lh fun w' q => HH.out.grow (hB1.trans (q.mono hB1.size))
   obtain ⟨b, off, esa, hb, hc⟩ := (HIN.out wr hB).sets (by omega);obtain rfl : sa = some ⟨b, off, none⟩ := HSA.out.symm.trans esa;have HSET := lh ((HIN.out wr hB).all k hlt);obtain ⟨c0, c1, c2, c3, c4, c5, c6, c7, c8, c9, c10, c11, c12⟩ := hc k hlt;have i0 : 0 ≤ (k : Int) := by omega
   have i1 : (k : Int) < (h.sets.length : Int) := by omega
   have s1 : IntKind.i64.wrap ((k : Int) + 1) = (k : Int) + 1 := IntWalk.i64_in _ (by omega);have HN : Hid (¬ SetAtOK h k → houseB h = false) := lh (house_no hlt);have HDEF : Hid (SetAtOK h k ↔ setB (hg h.sets k) = true ∧ (hg h.sets k).high ≤ h.height ∧ ∀ j, j < k → (hg h.sets j).name ≠ (hg h.sets k).name) := lh Iff.rfl;have HFX := lh (find_at hlt)
   have HO2 : Hid (SetAtOK h k → ∀ j, j < k + 1 → SetAtOK h j) := lh fun q j hj => by
    rcases Nat.lt_or_eq_of_le (Nat.le_of_lt_succ hj) with l | l
    ·exact HO.out j l
    ·subst l; exact q
   generalize hg h.sets k = x at *;have HNEW := lh (SetAt.new wr x 54);have hBW := below_new wr (LSe x);have hz2 : wr.heap.size < (wr.alloc (LSe x)).heap.size := by simp
   clear hc HO esa
   go_upto_region 6 with (fail)
   clear c0 c1 c2 c3 c4 c5 c6 c7 c8 c9 c10 c11 c12;obtain ⟨B, hBe⟩ := nm (wr.heap.size);simp only [hBe] at HNEW hz2 ⊢;generalize wr.alloc (LSe x) = W1 at *;have hBX : Below w2.heap.size w2 W1 := HB.out.trans (hBW.mono HB.out.size);have HHW := lh (HIN.out W1 hBX);have HBV := lh (batvalid_any x W1 (HSET.out.grow hBW));have x0 : ∀ wx, Below W1.heap.size W1 wx → wx.cell? ⟨B, 0, none⟩ = some (.string x.name) := fun wx q => (HNEW.out.below q hz2).1;have x3 : ∀ wx, Below W1.heap.size W1 wx → wx.cell? ⟨B, 3, none⟩ = some (.int .i64 x.high) := fun wx q => (HNEW.out.below q hz2).2.2.2.1;obtain ⟨d0, d1, d2, d3, d4, d5, d6, d7, d8, d9, d10, d11, d12⟩ := HNEW.out;have HY : Hid (∀ wx, Below W1.heap.size W1 wx → HouseAt wx w.heap.size h) := lh fun wx q => HAT1.out.carry (hBX.trans (q.mono hBX.size));have y0 : ∀ wx, Below W1.heap.size W1 wx → wx.cell? ⟨w.heap.size, 0, none⟩ = some (.string h.name) := fun wx q => (HY.out wx q).1;have y1 : ∀ wx, Below W1.heap.size W1 wx → wx.cell? ⟨w.heap.size, 1, none⟩ = some (.int .i64 h.height) := fun wx q => (HY.out wx q).2.1;have y2 : ∀ wx, Below W1.heap.size W1 wx → wx.cell? ⟨w.heap.size, 2, none⟩ = some (.slice (some ⟨b, off, none⟩) h.sets.length h.sc) := fun wx q => by have := (HY.out wx q).2.2.1; rwa [HSA.out] at this
   have y3 : ∀ wx, Below W1.heap.size W1 wx → wx.cell? ⟨w.heap.size, 3, none⟩ = some (.slice h.ra h.roofs.length h.rc) := fun wx q => (HY.out wx q).2.2.2;clear hB hBW
   cases h6 : setB x
   ·have H6 := lh h6
    have HZ := lh (HN.out (fun q => by have := (HDEF.out.1 q).1; rw [H6.out] at this; cases this));rw [h6] at HBV;clear h6
    go_wp2_with (first
     | (go_at_call 102; (with_reducible refine HBV.out.mono ?_); rintro e w3 ⟨rfl, hb3⟩))
    go_ret;exact ⟨ret_bool HZ.out.symm, hB1.trans ((hBX.trans (hb3.mono hBX.size)).mono hB1.size)⟩
   have H6 := lh h6;rw [h6] at HBV;clear h6
   cases h7 : decide (h.height < x.high)
   case true =>
    have H7 := lh h7;have HZ := lh (HN.out (fun q => by have := (HDEF.out.1 q).2.1; have e := of_decide_eq_true H7.out; omega))
    go_wp2_with (first
     | (go_at_call 102; (with_reducible refine HBV.out.mono ?_); rintro e w3 ⟨rfl, hb3⟩))
    go_ret;exact ⟨ret_bool HZ.out.symm, hB1.trans ((hBX.trans (hb3.mono hBX.size)).mono hB1.size)⟩
   have H7 := lh h7
   have HFI : Hid (∀ wx, Below W1.heap.size W1 wx → Calls Tryz.prog 103 #[.agg #[.string h.name, .int .i64 h.height, .slice (some ⟨b, off, none⟩) h.sets.length h.sc, .slice h.ra h.roofs.length h.rc], .string x.name] wx fun e w' => e = .returned (.int .i64 (findS h.sets x.name)) ∧ Below wx.heap.size wx w') := lh fun wx q => by
    have := hfind_any h x.name wx (HIN.out wx (hBX.trans (q.mono hBX.size)))
    rwa [HSA.out] at this
   obtain ⟨F, hF⟩ := nm (findS h.sets x.name);rw [hF] at HFI HFX
   by_cases h8 : F = (k : Int)
   ·have g8 : (F != (k : Int)) = false := by simpa using h8
    have HT := lh (HO2.out (HDEF.out.2 ⟨H6.out, by have := of_decide_eq_false H7.out; omega, HFX.out.1 h8⟩));clear h8 hF
    go_wp2_with (first
     | (go_at_call 102; (with_reducible refine HBV.out.mono ?_); rintro e w3 ⟨rfl, hb3⟩)
     | (go_at_call 103; (with_reducible refine (HFI.out _ hb3).mono ?_); rintro e w4 ⟨rfl, hb4⟩))
    go_roundw
    case rel => exact ⟨k + 1, by omega, by go_num, HT, hBX.trans ((hb3.trans (hb4.mono hb3.size)).mono hBX.size)⟩
    case measure => simp [intOf]; omega
   ·have g8 : (F != (k : Int)) = true := by simpa using h8
    have HZ := lh (HN.out (fun q => h8 (HFX.out.2 (HDEF.out.1 q).2.2)));clear h8 hF
    go_wp2_with (first
     | (go_at_call 102; (with_reducible refine HBV.out.mono ?_); rintro e w3 ⟨rfl, hb3⟩)
     | (go_at_call 103; (with_reducible refine (HFI.out _ hb3).mono ?_); rintro e w4 ⟨rfl, hb4⟩))
    go_ret;exact ⟨ret_bool HZ.out.symm, hB1.trans ((hBX.trans ((hb3.trans (hb4.mono hb3.size)).mono hBX.size)).mono hB1.size)⟩
  ·obtain rfl : k = h.sets.length := by omega
   have HR := lh (HOK.out HO.out)
   go_wp2_with fail
   go_ret;exact ⟨ret_bool HR.out.symm, hB1.trans (hB.mono hB1.size)⟩
end
end Go.Proofs.YtbgkgahmicepdaaGreat
