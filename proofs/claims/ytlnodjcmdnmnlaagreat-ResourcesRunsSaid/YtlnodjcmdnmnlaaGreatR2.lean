/-
  HOW SLICES LIE IN MEMORY (numbers, bricks).
  THE WALKS of slices.IndexFunc, ContainsFunc at numbers and bricks; Equal, Clone at numbers; Clone at bricks; append of one element.
  THE WALKS of decimal.IsName and of the reference's IsName: both say whether a string is a name (1 to 20 bytes: letters, digits, underscores; a letter first).
  THE WALKS of arbor.Valid and of the reference's Bricks (21), Right and Count (26): which bricks are right.
  PLAIN: line sets, their items, lines and bricks; what the arbor needs, and the imbalance.
  HOW SLICES OF ITEMS LIE IN MEMORY; slices.IndexFunc, ContainsFunc and Clone at them.
  NAMES THAT COME TWICE (batten.twice, at items and at bricks).
-/
import Derived.WalkKit
import Derived.WalkSpells
import Derived.WalkLawsBesides
import Derived.Deep.QuietTactic
import Derived.BigQuiet
import Derived.Lib.Hide
import Derived.Maps.AppendAt
import Derived.Shelf.Abstract
import Derived.Deep.AppendLies
import Derived.Deep.RegionLaw
import Derived.Deep.RegionLawGrows
import Derived.Test.YtlnodjcmdnmnlaaGreatRows
import Derived.IntWalk
import Derived.Maps.OwnOps
import Derived.Maps.OwnSet
import Derived.Maps.Views
import Derived.Test.YtlnodjcmdnmnlaaGreatR1
namespace Go.Proofs.YtlnodjcmdnmnlaaGreat
open Go.RowKit Go.Shelf
attribute [local go_sem] Oper.semAt_some
/-! ### Slices of int -/

def ig (L : List (Int)) (i : Nat) : Int := (L[i]?).getD 0
theorem ig_eq (L : List (Int)) (i : Nat) (h : i < L.length) : ig L i = L[i] := by unfold ig; rw [List.getElem?_eq_getElem h]; rfl
theorem ig_get {L : List (Int)} {i : Nat} (h : i < L.length) : L[i]? = some (ig L i) := by rw [ig_eq L i h, List.getElem?_eq_getElem h]
theorem ig_ext (F1 F2 : List (Int)) (hl : F1.length = F2.length) (h : ∀ j, j < F1.length → ig F1 j = ig F2 j) : F1 = F2 := by
 refine List.ext_getElem hl fun i h1 h2 => ?_
 have := h i h1
 rwa [ig_eq F1 i h1, ig_eq F2 i h2] at this
def numV (r : Int) : Value := .int .i64 r
def nflat (L : List (Int)) : List Value := L.flatMap fun r => [.int .i64 r]
theorem nflat_at (L : List (Int)) (i : Nat) (hi : i < L.length) : (nflat L)[i]? = some (.int .i64 (ig L i)) := by
 induction L generalizing i with
 | nil => simp at hi
 | cons x r ih =>
  match i with
  | 0 => exact rfl
  | i + 1 =>
   have := ih i (by simpa using hi)
   have e : nflat (x :: r) = .int .i64 x :: nflat r := rfl
   rw [e, show (i + 1) = i + 1 by omega]
   simpa [ig] using this
theorem nflat_snoc (L : List (Int)) (r : Int) : nflat (L ++ [r]) = nflat L ++ [.int .i64 r] := by simp [nflat]
def Nums (n₀ : Nat) (w : World) (a : Option Addr) (L : List (Int)) : Prop :=
 0 < L.length → ∃ b off, a = some ⟨b, off, none⟩ ∧ b < n₀ ∧ ∀ i, i < L.length → w.cell? ⟨b, off + i, none⟩ = some (.int .i64 (ig L i))
theorem Nums.below {n₀ : Nat} {w w' : World} {a : Option Addr} {L : List (Int)} (h : Nums n₀ w a L) (hb : Below n₀ w w') : Nums n₀ w' a L := fun hl => by
 obtain ⟨b, off, rfl, hlt, hc⟩ := h hl
 refine ⟨b, off, rfl, hlt, fun i hi => ?_⟩
 have c0 := hc i hi
 exact (hb.cell (p := ⟨b, _, none⟩) hlt).trans c0
theorem Nums.mono {n₀ n₁ : Nat} {w : World} {a : Option Addr} {L : List (Int)} (h : Nums n₀ w a L) (hn : n₀ ≤ n₁) : Nums n₁ w a L := fun hl => by
 obtain ⟨b, off, rfl, hlt, hc⟩ := h hl
 exact ⟨b, off, rfl, by omega, hc⟩
theorem Nums.grow {w w' : World} {a : Option Addr} {L : List (Int)} (h : Nums w.heap.size w a L) (hb : Below w.heap.size w w') : Nums w'.heap.size w' a L := (h.below hb).mono hb.size
theorem Nums.nil {n₀ : Nat} {w : World} {a : Option Addr} : Nums n₀ w a [] := fun h => absurd h (Nat.not_lt_zero _)
theorem Nums.take {n₀ : Nat} {w : World} {a : Option Addr} {L : List (Int)} (h : Nums n₀ w a L) (n : Nat) : Nums n₀ w a (L.take n) := fun hl => by
 have hl' : 0 < L.length := by rw [List.length_take] at hl; omega
 obtain ⟨b, off, rfl, hlt, hc⟩ := h hl'
 refine ⟨b, off, rfl, hlt, fun i hi => ?_⟩
 rw [List.length_take] at hi
 have e : ig (L.take n) i = ig L i := by unfold ig; rw [List.getElem?_take, if_pos (by omega)]
 rw [e]
 exact hc i (by omega)
theorem num_len (L : List (Int)) : (nflat L).length = L.length := by
 induction L with
 | nil => rfl
 | cons x r ih =>
  have e : nflat (x :: r) = .int .i64 x :: nflat r := rfl
  rw [e]
  simp only [List.length_cons, ih]
  try omega
theorem num_one (L : List (Int)) : ∀ u ∈ nflat L, u.oneCell' = true := by
 induction L with
 | nil => intro u hu; cases hu
 | cons x r ih =>
  have e : nflat (x :: r) = .int .i64 x :: nflat r := rfl
  rw [e]
  intro u hu
  simp only [List.mem_cons] at hu
  rcases hu with rfl | hu
  ·rfl
  ·exact ih u hu
theorem num_cells {n₀ : Nat} {w : World} {b off : Nat} {L : List (Int)} (h : Nums n₀ w (some ⟨b, off, none⟩) L) : ∀ j u, (nflat L)[j]? = some u → w.cell? ((⟨b, off, none⟩ : Addr).add j) = some u := by
 intro j u hj
 have hlt : j < L.length := by
  rw [← num_len]
  exact (List.getElem?_eq_some_iff.1 hj).1
 obtain ⟨b', off', e, _, hc⟩ := h (by omega)
 simp only [Option.some.injEq, Addr.mk.injEq, and_true] at e
 obtain ⟨rfl, rfl⟩ := e
 rw [Go.WideShapes.add_plain]
 have f0 := nflat_at L j hlt
 have c0 := hc j hlt
 rw [f0] at hj; rw [c0]; exact hj
theorem num_of_row {w : World} {base : Nat} {v : Value} {L : List (Int)} (h : w.ownsRow base 3 1 v L.length (nflat L)) : ∃ a cap, v = .slice a L.length cap ∧ L.length ≤ cap ∧ cap ≤ maxLen ∧ (a = none → cap = 0) ∧ Nums w.heap.size w a L := by
 rcases h.2 with ⟨rfl, h0⟩ | ⟨g, cap, cur, rfl, hb, hg, h1, h2, _⟩
 ·exact ⟨none, 0, by rw [h0], by omega, by unfold maxLen; omega, fun _ => rfl, fun hl => by omega⟩
 ·refine ⟨_, cap, rfl, h1, h2, (fun e => by cases e), fun _ => ⟨g, 0, rfl, (Array.getElem?_eq_some_iff.1 hg).1, fun i hi => ?_⟩⟩
  have f0 := nflat_at L i hi
  have c0 := h.cellAt (i) (by omega)
  rw [f0] at c0
  rw [Nat.zero_add]
  exact c0
def AsksN (g : Nat) (cb : Array Value) (n₀ : Nat) (w : World) (p : Int → Bool) : Prop :=
 ∀ (W : World) (r : Int), Below n₀ w W → Calls Tryz.prog g (#[numV r] ++ cb) W fun e w' => e = .returned (.bool (p r)) ∧ Below W.heap.size W w'
def num_first (L : List (Int)) (p : Int → Bool) : Int := match (List.range L.length).find? (fun i => p (ig L i)) with
 | some i => i
 | none => -1
theorem num_first_hit (L : List (Int)) (p : Int → Bool) (k : Nat) (hk : k < L.length) (h : p (ig L k) = true) (hn : ∀ j, j < k → p (ig L j) = false) : num_first L p = k := by
 unfold num_first
 have : (List.range L.length).find? (fun i => p (ig L i)) = some k := by
  rw [List.find?_eq_some_iff_getElem]
  refine ⟨by simpa using h, k, by simpa using hk, by simp, fun j hj => ?_⟩
  simpa using hn j hj
 rw [this]
theorem num_first_miss (L : List (Int)) (p : Int → Bool) (hn : ∀ j, j < L.length → p (ig L j) = false) : num_first L p = -1 := by
 unfold num_first
 have : (List.range L.length).find? (fun i => p (ig L i)) = none := by
  rw [List.find?_eq_none]
  intro x hx
  simpa using hn x (by simpa using hx)
 rw [this]
theorem num_first_cases (L : List (Int)) (p : Int → Bool) : (num_first L p = -1 ∧ ∀ j, j < L.length → p (ig L j) = false) ∨ ∃ k : Nat, k < L.length ∧ num_first L p = k ∧ p (ig L k) = true ∧ ∀ j, j < k → p (ig L j) = false := by
 have main : ∀ n, n ≤ L.length → (∀ j, j < n → p (ig L j) = false) ∨ ∃ k, k < n ∧ p (ig L k) = true ∧ ∀ j, j < k → p (ig L j) = false := by
  intro n
  induction n with
  | zero => exact fun _ => .inl fun j hj => absurd hj (Nat.not_lt_zero _)
  | succ n ih =>
   intro hn
   rcases ih (by omega) with h | ⟨k, hk, h1, h2⟩
   ·cases e : p (ig L n)
    ·refine .inl fun j hj => ?_
     rcases Nat.lt_or_ge j n with l | l
     ·exact h j l
     ·obtain rfl : j = n := by omega
      exact e
    ·exact .inr ⟨n, by omega, e, h⟩
   ·exact .inr ⟨k, by omega, h1, h2⟩
 rcases main L.length (Nat.le_refl _) with h | ⟨k, hk, h1, h2⟩
 ·exact .inl ⟨num_first_miss L p h, h⟩
 ·exact .inr ⟨k, hk, num_first_hit L p k hk h1 h2, h1, h2⟩
def num_any (L : List (Int)) (p : Int → Bool) : Bool := decide (0 ≤ num_first L p)
theorem num_any_eq (L : List (Int)) (p : Int → Bool) : num_any L p = L.any p := by
 unfold num_any
 rw [Bool.eq_iff_iff, List.any_eq_true, decide_eq_true_eq]
 rcases num_first_cases L p with ⟨h, h2⟩ | ⟨k, hk, h, h1, _⟩
 ·rw [h]
  refine ⟨fun h => by omega, fun ⟨x, hx, hp⟩ => ?_⟩
  obtain ⟨j, hj, e⟩ := List.getElem_of_mem hx
  have := h2 j hj
  rw [ig_eq L j hj, e, hp] at this
  cases this
 ·rw [h]
  exact ⟨fun _ => ⟨_, by rw [ig_eq L k hk]; exact List.getElem_mem hk, h1⟩, fun _ => by omega⟩

/-! ### Slices of api.Brick -/

def bg (L : List (BrickR)) (i : Nat) : BrickR := (L[i]?).getD ⟨⟨#[]⟩, 1, 0⟩
theorem bg_eq (L : List (BrickR)) (i : Nat) (h : i < L.length) : bg L i = L[i] := by unfold bg; rw [List.getElem?_eq_getElem h]; rfl
def kflat (L : List (BrickR)) : List Value := L.flatMap fun r => [.string r.name, .int .i64 r.weight, .int .i64 r.count]
theorem kflat_at (L : List (BrickR)) (i : Nat) (hi : i < L.length) : (kflat L)[i * 3]? = some (.string (bg L i).name) ∧ (kflat L)[i * 3 + 1]? = some (.int .i64 (bg L i).weight) ∧ (kflat L)[i * 3 + 2]? = some (.int .i64 (bg L i).count) := by
 induction L generalizing i with
 | nil => simp at hi
 | cons x r ih =>
  match i with
  | 0 => exact ⟨rfl, rfl, rfl⟩
  | i + 1 =>
   have := ih i (by simpa using hi)
   have e : kflat (x :: r) = .string x.name :: .int .i64 x.weight :: .int .i64 x.count :: kflat r := rfl
   rw [e, show (i + 1) * 3 = i * 3 + 1 + 1 + 1 by omega]
   simpa [bg] using this
def Bricks (n₀ : Nat) (w : World) (a : Option Addr) (L : List (BrickR)) : Prop :=
 0 < L.length → ∃ b off, a = some ⟨b, off, none⟩ ∧ b < n₀ ∧ ∀ i, i < L.length → w.cell? ⟨b, off + i * 3, none⟩ = some (.string (bg L i).name) ∧ w.cell? ⟨b, off + i * 3 + 1, none⟩ = some (.int .i64 (bg L i).weight) ∧ w.cell? ⟨b, off + i * 3 + 2, none⟩ = some (.int .i64 (bg L i).count)
theorem Bricks.below {n₀ : Nat} {w w' : World} {a : Option Addr} {L : List (BrickR)} (h : Bricks n₀ w a L) (hb : Below n₀ w w') : Bricks n₀ w' a L := fun hl => by
 obtain ⟨b, off, rfl, hlt, hc⟩ := h hl
 refine ⟨b, off, rfl, hlt, fun i hi => ?_⟩
 obtain ⟨c0, c1, c2⟩ := hc i hi
 exact ⟨(hb.cell (p := ⟨b, _, none⟩) hlt).trans c0, (hb.cell (p := ⟨b, _, none⟩) hlt).trans c1, (hb.cell (p := ⟨b, _, none⟩) hlt).trans c2⟩
theorem Bricks.mono {n₀ n₁ : Nat} {w : World} {a : Option Addr} {L : List (BrickR)} (h : Bricks n₀ w a L) (hn : n₀ ≤ n₁) : Bricks n₁ w a L := fun hl => by
 obtain ⟨b, off, rfl, hlt, hc⟩ := h hl
 exact ⟨b, off, rfl, by omega, hc⟩
theorem Bricks.grow {w w' : World} {a : Option Addr} {L : List (BrickR)} (h : Bricks w.heap.size w a L) (hb : Below w.heap.size w w') : Bricks w'.heap.size w' a L := (h.below hb).mono hb.size
theorem Bricks.nil {n₀ : Nat} {w : World} {a : Option Addr} : Bricks n₀ w a [] := fun h => absurd h (Nat.not_lt_zero _)
theorem Bricks.take {n₀ : Nat} {w : World} {a : Option Addr} {L : List (BrickR)} (h : Bricks n₀ w a L) (n : Nat) : Bricks n₀ w a (L.take n) := fun hl => by
 have hl' : 0 < L.length := by rw [List.length_take] at hl; omega
 obtain ⟨b, off, rfl, hlt, hc⟩ := h hl'
 refine ⟨b, off, rfl, hlt, fun i hi => ?_⟩
 rw [List.length_take] at hi
 have e : bg (L.take n) i = bg L i := by unfold bg; rw [List.getElem?_take, if_pos (by omega)]
 rw [e]
 exact hc i (by omega)
def brick_first (L : List (BrickR)) (p : BrickR → Bool) : Int := match (List.range L.length).find? (fun i => p (bg L i)) with
 | some i => i
 | none => -1
theorem brick_first_hit (L : List (BrickR)) (p : BrickR → Bool) (k : Nat) (hk : k < L.length) (h : p (bg L k) = true) (hn : ∀ j, j < k → p (bg L j) = false) : brick_first L p = k := by
 unfold brick_first
 have : (List.range L.length).find? (fun i => p (bg L i)) = some k := by
  rw [List.find?_eq_some_iff_getElem]
  refine ⟨by simpa using h, k, by simpa using hk, by simp, fun j hj => ?_⟩
  simpa using hn j hj
 rw [this]
theorem brick_first_miss (L : List (BrickR)) (p : BrickR → Bool) (hn : ∀ j, j < L.length → p (bg L j) = false) : brick_first L p = -1 := by
 unfold brick_first
 have : (List.range L.length).find? (fun i => p (bg L i)) = none := by
  rw [List.find?_eq_none]
  intro x hx
  simpa using hn x (by simpa using hx)
 rw [this]
theorem brick_first_cases (L : List (BrickR)) (p : BrickR → Bool) : (brick_first L p = -1 ∧ ∀ j, j < L.length → p (bg L j) = false) ∨ ∃ k : Nat, k < L.length ∧ brick_first L p = k ∧ p (bg L k) = true ∧ ∀ j, j < k → p (bg L j) = false := by
 have main : ∀ n, n ≤ L.length → (∀ j, j < n → p (bg L j) = false) ∨ ∃ k, k < n ∧ p (bg L k) = true ∧ ∀ j, j < k → p (bg L j) = false := by
  intro n
  induction n with
  | zero => exact fun _ => .inl fun j hj => absurd hj (Nat.not_lt_zero _)
  | succ n ih =>
   intro hn
   rcases ih (by omega) with h | ⟨k, hk, h1, h2⟩
   ·cases e : p (bg L n)
    ·refine .inl fun j hj => ?_
     rcases Nat.lt_or_ge j n with l | l
     ·exact h j l
     ·obtain rfl : j = n := by omega
      exact e
    ·exact .inr ⟨n, by omega, e, h⟩
   ·exact .inr ⟨k, by omega, h1, h2⟩
 rcases main L.length (Nat.le_refl _) with h | ⟨k, hk, h1, h2⟩
 ·exact .inl ⟨brick_first_miss L p h, h⟩
 ·exact .inr ⟨k, hk, brick_first_hit L p k hk h1 h2, h1, h2⟩
def brick_any (L : List (BrickR)) (p : BrickR → Bool) : Bool := decide (0 ≤ brick_first L p)
theorem brick_any_eq (L : List (BrickR)) (p : BrickR → Bool) : brick_any L p = L.any p := by
 unfold brick_any
 rw [Bool.eq_iff_iff, List.any_eq_true, decide_eq_true_eq]
 rcases brick_first_cases L p with ⟨h, h2⟩ | ⟨k, hk, h, h1, _⟩
 ·rw [h]
  refine ⟨fun h => by omega, fun ⟨x, hx, hp⟩ => ?_⟩
  obtain ⟨j, hj, e⟩ := List.getElem_of_mem hx
  have := h2 j hj
  rw [bg_eq L j hj, e, hp] at this
  cases this
 ·rw [h]
  exact ⟨fun _ => ⟨_, by rw [bg_eq L k hk]; exact List.getElem_mem hk, h1⟩, fun _ => by omega⟩
end Go.Proofs.YtlnodjcmdnmnlaaGreat
namespace Go.Proofs.YtlnodjcmdnmnlaaGreat
open Go.RowKit Go.Shelf
set_option maxHeartbeats 2000000 in
theorem num_indexFunc (a : Option Addr) (L : List (Int)) (cap n₀ g : Nat) (cb : Array Value) (p : Int → Bool) (w : World) (eg : ∀ args w, (callFunc g args).run Tryz.prog w = .ok (.enter g args) w)
  (hl : L.length ≤ 1100) (hn₀ : n₀ ≤ w.heap.size) (hI : Nums n₀ w a L) (hp : AsksN g cb n₀ w p) :
  Calls Tryz.prog 49 #[.slice a L.length cap, .func (.func g) #[] cb] w fun e w' => e = .returned (.int .i64 (num_first L p)) ∧ Below w.heap.size w w' := by
 have HI := Lib.hid hI; clear hI
 have HP := Lib.hid hp; clear hp
 go_enter Tryz.func49, Tryz.ntmps49
 go_wp2
 go_loopw [8] (fun i wr => ∃ k : Nat, k ≤ L.length ∧ i = .int .i64 k ∧ Below w.heap.size w wr ∧ Hid (∀ j, j < k → p (ig L j) = false)) (fun i _ => L.length - (intOf i).toNat)
 case atStart => exact ⟨0, Nat.zero_le _, rfl, Below.refl _ _, Lib.hid (fun _ h => absurd h (Nat.not_lt_zero _))⟩
 case round =>
  obtain ⟨k, hk, rfl, hB, HA⟩ := hrel
  by_cases hlt : k < L.length
  ·obtain ⟨b, off, rfl, hb, hc⟩ := HI.out (by omega)
   have c0 := hc k hlt
   have d0 := (hB.cell (p := ⟨b, off + k, none⟩) (show b < w.heap.size by omega)).trans c0
   clear c0 hc
   have HC := Lib.hid (show Calls Tryz.prog g (#[.int .i64 (ig L k)] ++ cb) wr _ from HP.out wr (ig L k) (hB.mono hn₀))
   obtain ⟨bv, hbv⟩ : ∃ bv, p (ig L k) = bv := ⟨_, rfl⟩
   rw [hbv] at HC
   cases bv
   ·have HB : Hid (∀ j, j < k + 1 → p (ig L j) = false) := Lib.hid fun j hj => by
     rcases Nat.lt_or_ge j k with l | l
     ·exact HA.out j l
     ·obtain rfl : j = k := by omega
      exact hbv
    clear hbv
    go_wp2_with ((with_reducible refine HC.out.mono ?_); rintro e w1 ⟨rfl, hb1⟩)
    go_roundw
    case rel => exact ⟨k + 1, by omega, by go_num, hB.trans (hb1.mono hB.size), HB⟩
    case measure => simp [intOf]; omega
   ·have H := Lib.hid (num_first_hit L p k hlt hbv HA.out)
    clear hbv
    go_wp2_with ((with_reducible refine HC.out.mono ?_); rintro e w1 ⟨rfl, hb1⟩)
    go_ret
    exact ⟨ret_int H.out.symm, hB.trans (hb1.mono hB.size)⟩
  ·obtain rfl : k = L.length := by omega
   have H := Lib.hid (num_first_miss L p HA.out)
   go_wp2
   go_ret
   exact ⟨ret_int H.out.symm, hB⟩

set_option maxHeartbeats 1000000 in
theorem num_containsFunc (a : Option Addr) (L : List (Int)) (cap n₀ g : Nat) (cb : Array Value) (p : Int → Bool) (w : World) (eg : ∀ args w, (callFunc g args).run Tryz.prog w = .ok (.enter g args) w)
  (hl : L.length ≤ 1100) (hn₀ : n₀ ≤ w.heap.size) (hI : Nums n₀ w a L) (hp : AsksN g cb n₀ w p) :
  Calls Tryz.prog 29 #[.slice a L.length cap, .func (.func g) #[] cb] w fun e w' => e = .returned (.bool (num_any L p)) ∧ Below w.heap.size w w' := by
 have HC := Lib.hid (num_indexFunc a L cap n₀ g cb p w eg hl hn₀ hI hp)
 clear hI hp eg
 go_enter Tryz.func29, Tryz.ntmps29
 go_wp2_with (go_at_call 49; (with_reducible refine HC.out.mono ?_); rintro e w1 ⟨rfl, hb1⟩)
 go_ret
 exact ⟨rfl, hb1⟩

theorem num_info : (Tryz.prog.info? 3).map (fun i => (i.zero, i.size, i.bytes)) = some (some (.int .i64 0), 1, 8) := by kernel_rfl

set_option maxHeartbeats 2000000 in
theorem num_clone (a : Option Addr) (L : List (Int)) (cap : Nat) (w : World) (hlen : L.length ≤ 1100) (hnil : a = none → cap = 0) (hI : Nums w.heap.size w a L) :
  Calls Tryz.prog 104 #[.slice a L.length cap] w fun e w' => Hid (∃ v, e = .returned v ∧ w'.ownsRow w.heap.size 3 1 v L.length (nflat L) ∧ Below w.heap.size w w') := by
 obtain ⟨i0, hi, hz0, hz1, hz2⟩ := info_parts num_info
 cases a with
 | none =>
  have h0 : L.length = 0 := by
   rcases Nat.eq_zero_or_pos L.length with h | h
   ·exact h
   ·obtain ⟨b, off, e, _⟩ := hI h
    cases e
  obtain rfl : L = [] := List.eq_nil_of_length_eq_zero h0
  obtain rfl := hnil rfl
  clear hI h0 hnil
  have hne := fun (w : World) => Lib.run_eql_slice_nil (P := Tryz.prog) w 30 3 none 0 0 0 0 Tryz.underlying30
  go_enter Tryz.func104, Tryz.ntmps104
  go_wp2
  go_ret
  exact Lib.hid ⟨_, rfl, World.ownsRow_nil _ _ _ _, Below.refl _ _⟩
 | some ad =>
  have HI := Lib.hid hI; clear hI
  have hne := fun (w : World) => Lib.run_eql_slice_nil (P := Tryz.prog) w 30 3 (some ad) L.length cap 0 0 Tryz.underlying30
  have hnews : ∀ j u, (nflat L)[j]? = some u → (w.alloc (.cells #[] 3)).cell? (ad.add j) = some u := fun j u hj => by
   have hlt : j < L.length := by
    rw [← num_len]
    exact (List.getElem?_eq_some_iff.1 hj).1
   obtain ⟨b, off, e, _⟩ := HI.out (by omega)
   cases e
   have h1 := num_cells HI.out j u hj
   rw [Go.WideShapes.add_plain] at h1 ⊢
   exact (World.cell?_alloc_lt _ _ _ (World.block_lt_of_cell? w _ h1)).trans h1
  have HN := Lib.hid hnews; clear hnews
  go_enter Tryz.func104, Tryz.ntmps104
  go_wp2_with (at_builtin; refine wpList_append_own _ rfl _ _ 30 rfl w.heap.size 3 i0 (.int .i64 0) 1 8 Tryz.underlying30 hi hz0 hz1 hz2 rfl (by decide) _ 0 [] rfl (World.ownsRow_lit w #[] 0 (Nat.le_refl _) (by unfold maxLen; omega) rfl) ad L.length cap (nflat L) rfl (by rw [num_len, Nat.mul_one]) HN.out (num_one L) (by unfold maxLen; omega) (by omega) (by simp) ?_; intro v' w1 hown1 hgrow1 _)
  go_ret
  rw [Nat.zero_add, List.nil_append] at hown1
  exact Lib.hid ⟨_, rfl, hown1, ((Below.refl _ w).alloc (Nat.le_refl _) _).grown hgrow1 (by simp) (fun k e => by cases e; exact Nat.le_refl _)⟩

theorem num_append {ops : Array Oper} {rest : List Oper} {o : Oper} {a : Act} {w : World} {Q : Exit → Act → World → Prop} (hgd : o.guard = none) (s x : Operand)
  (ho : o.op = .call { callee := .builtin .append, args := #[s, x], argTypes := #[30, 30] })
  (base : Nat) (v : Value) (L : List (Int)) (hs : a.eval s = v) (hown : w.ownsRow base 3 1 v L.length (nflat L))
  (bl : Nat) (y : Int) (hx : a.eval x = .slice (some ⟨bl, 0, none⟩) 1 1) (hc : w.cell? ⟨bl, 0, none⟩ = some (.int .i64 y)) (hl : L.length ≤ 1000000) (hbase : base ≤ w.heap.size)
  (h : ∀ v' w', w'.ownsRow base 3 1 v' (L ++ [y]).length (nflat (L ++ [y])) → w.grownBy w' v.ownBlock → wpList Tryz.prog ops Q rest (a.put o.dst v') w') : wpList Tryz.prog ops Q (o :: rest) a w := by
 obtain ⟨i0, hi, hz0, hz1, hz2⟩ := info_parts num_info
 refine wpList_append_own _ hgd s x 30 ho base 3 i0 _ 1 8 Tryz.underlying30 hi hz0 hz1 hz2 rfl (by decide) v L.length (nflat L) hs hown ⟨bl, 0, none⟩ 1 1 [.int .i64 y] hx rfl ?_ (by simp [Value.oneCell']) (by unfold maxLen; omega) (by omega) hbase ?_
 ·have c0 := hc
  intro j u hj
  rw [Go.WideShapes.add_plain, Nat.zero_add]
  match j, hj with
  | 0, hj => simp at hj; subst hj; exact c0
 ·intro v' w' h1 h2 _
  refine h v' w' ?_ h2
  rw [nflat_snoc, List.length_append]
  exact h1
end Go.Proofs.YtlnodjcmdnmnlaaGreat
namespace Go.Proofs.YtlnodjcmdnmnlaaGreat
open Go.RowKit
def letterB (c : Int) : Bool := decide (97 ≤ c ∧ c ≤ 122 ∨ 65 ≤ c ∧ c ≤ 90)
def digitB (c : Int) : Bool := decide (48 ≤ c ∧ c ≤ 57)
def wordB (c : Int) : Bool := letterB c || digitB c || c == 95
def wordN (l : List UInt8) : Nat := (l.takeWhile fun c => wordB (c.toNat : Int)).length
def isNameB (s : ByteArray) : Bool := decide (1 ≤ s.size ∧ s.size ≤ 20) && letterB ((s.data.toList.headD 0).toNat : Int) && wordN s.data.toList == s.size

theorem wordN_of (l : List UInt8) (k : Nat) (hk : k ≤ l.length) (ha : ∀ j, (h : j < k) → wordB ((l[j]'(by omega)).toNat : Int) = true)
  (hb : (h : k < l.length) → wordB ((l[k]'h).toNat : Int) = false) : wordN l = k := by
 induction l generalizing k with
 | nil => simp at hk; subst hk; rfl
 | cons x r ih =>
  unfold wordN
  match k, hk, ha, hb with
  | 0, _, _, hb => have := hb (by simp); simp at this; simp [this]
  | k + 1, hk, ha, hb =>
   have h0 := ha 0 (by omega)
   simp only [List.getElem_cons_zero] at h0
   rw [List.takeWhile_cons, if_pos h0, List.length_cons]
   have := ih k (by simp at hk; omega) (fun j h => by have := ha (j + 1) (by omega); simpa using this) (fun h => by have := hb (by simp; omega); simpa using this)
   unfold wordN at this
   rw [this]

set_option maxHeartbeats 400000 in
theorem letter_any (c : Int) (w : World) :
  Calls Tryz.prog 148 #[.int .u8 c] w fun e w' => e = .returned (.bool (letterB c)) ∧ w = w' := by
 go_enter Tryz.func148, Tryz.ntmps148
 go_wp2
 all_goals (go_ret; exact ⟨congrArg (fun b => Ending.returned (.bool b)) (by rw [Bool.eq_iff_iff]; simp [letterB]; omega), rfl⟩)
set_option maxHeartbeats 400000 in
theorem digit_any (c : Int) (w : World) :
  Calls Tryz.prog 185 #[.int .u8 c] w fun e w' => e = .returned (.bool (digitB c)) ∧ w = w' := by
 go_enter Tryz.func185, Tryz.ntmps185
 go_wp2
 all_goals (go_ret; exact ⟨congrArg (fun b => Ending.returned (.bool b)) (by rw [Bool.eq_iff_iff]; simp [digitB]; omega), rfl⟩)
set_option maxHeartbeats 1000000 in
theorem word_any (s : ByteArray) (w : World) (hs : s.size ≤ 20) :
  Calls Tryz.prog 149 #[.string s] w fun e w' => e = .returned (.int .i64 (wordN s.data.toList)) ∧ w = w' := by
 go_enter Tryz.func149, Tryz.ntmps149
 go_wp2
 go_loop [3] (fun i => ∃ k : Nat, k ≤ s.size ∧ i = .int .i64 k ∧ Hid (∀ j, (h : j < k) → (h' : j < s.data.toList.length) → wordB ((s.data.toList[j]'h').toNat : Int) = true)) (fun i => s.size - (intOf i).toNat)
 case atStart => exact ⟨0, Nat.zero_le _, rfl, Lib.hid (fun _ h => absurd h (Nat.not_lt_zero _))⟩
 case round =>
  obtain ⟨k, hk, rfl, HA⟩ := hrel
  by_cases hlt : k < s.size
  ·have hw : ∀ b, wordB (s[k].toNat : Int) = b → Hid (wordB (s[k].toNat : Int) = b) := fun b h => Lib.hid h
   have Hend : wordB (s[k].toNat : Int) = false → Hid (wordN s.data.toList = k) := fun h => Lib.hid (wordN_of _ k (by simpa using hk) (fun j h => HA.out j h _) (fun _ => h))
   have Hgo : wordB (s[k].toNat : Int) = true → Hid (∀ j, (h : j < k + 1) → (h' : j < s.data.toList.length) → wordB ((s.data.toList[j]'h').toNat : Int) = true) := fun h => Lib.hid (fun j hj h' => by
    rcases Nat.lt_or_ge j k with l | l
    ·exact HA.out j l h'
    ·obtain rfl : j = k := by omega
     exact h)
   clear hw
   by_cases c1 : letterB (s[k].toNat : Int) = true
   ·have H := Hgo (by simp [wordB, c1])
    clear Hend Hgo
    go_wp2_with (go_at_call 148; refine (letter_any _ _).mono ?_; rintro e w' ⟨rfl, rfl⟩)
    go_round
    case rel => exact ⟨k + 1, by omega, by go_num, H⟩
    case measure => simp [intOf]; omega
   ·have c1' : letterB (s[k].toNat : Int) = false := by simpa using c1
    by_cases c2 : digitB (s[k].toNat : Int) = true
    ·have H := Hgo (by simp [wordB, c2])
     clear Hend Hgo c1
     go_wp2_with (first | (go_at_call 148; refine (letter_any _ _).mono ?_; rintro e w' ⟨rfl, rfl⟩) | (go_at_call 185; refine (digit_any _ _).mono ?_; rintro e w' ⟨rfl, rfl⟩))
     go_round
     case rel => exact ⟨k + 1, by omega, by go_num, H⟩
     case measure => simp [intOf]; omega
    ·have c2' : digitB (s[k].toNat : Int) = false := by simpa using c2
     by_cases c3 : ((s[k].toNat : Int) == 95) = true
     ·have H := Hgo (by simp [wordB]; right; simpa using c3)
      clear Hend Hgo c1 c2
      go_wp2_with (first | (go_at_call 148; refine (letter_any _ _).mono ?_; rintro e w' ⟨rfl, rfl⟩) | (go_at_call 185; refine (digit_any _ _).mono ?_; rintro e w' ⟨rfl, rfl⟩))
      go_round
      case rel => exact ⟨k + 1, by omega, by go_num, H⟩
      case measure => simp [intOf]; omega
     ·have c3' : ((s[k].toNat : Int) == 95) = false := by simpa using c3
      have H := Hend (by simp only [wordB, c1', c2', c3']; rfl)
      clear Hend Hgo c1 c2 c3
      go_wp2_with (first | (go_at_call 148; refine (letter_any _ _).mono ?_; rintro e w' ⟨rfl, rfl⟩) | (go_at_call 185; refine (digit_any _ _).mono ?_; rintro e w' ⟨rfl, rfl⟩))
      go_ret
      exact ⟨congrArg (fun n : Nat => Ending.returned (.int .i64 n)) H.out.symm, rfl⟩
  ·obtain rfl : k = s.size := by omega
   have H : Hid (wordN s.data.toList = s.size) := Lib.hid (wordN_of _ _ (by simp) (fun j h => HA.out j h _) (fun h' => absurd h' (by simp)))
   go_wp2
   go_ret
   exact ⟨congrArg (fun n : Nat => Ending.returned (.int .i64 n)) H.out.symm, rfl⟩

theorem head_eq (s : ByteArray) (h : 0 < s.size) : s.data.toList.headD 0 = s[0] := by
 obtain ⟨⟨l⟩⟩ := s
 cases l with
 | nil => simp [ByteArray.size] at h
 | cons x r => rfl

theorem empty_of (s : ByteArray) (h : s.toList = []) : s.size = 0 := by
 rw [ByteArray.toList_eq] at h
 have : s.data.toList.length = 0 := by rw [h]; rfl
 simpa using this
theorem not_empty_of (s : ByteArray) (h : ¬ s.toList = []) : 0 < s.size := by
 rw [ByteArray.toList_eq] at h
 have : s.data.toList.length ≠ 0 := fun e => h (List.eq_nil_of_length_eq_zero e)
 have e : s.data.toList.length = s.size := by simp
 omega

theorem name_yes (s : ByteArray) (h0 : 0 < s.size) (h1 : s.size ≤ 20) (h2 : letterB (s[0].toNat : Int) = true) : isNameB s = (wordN s.data.toList == s.size) := by
 simp only [isNameB, head_eq s h0, h2]; rw [decide_eq_true (show 1 ≤ s.size ∧ s.size ≤ 20 by omega)]; rfl
theorem name_no (s : ByteArray) (h0 : 0 < s.size) (h2 : letterB (s[0].toNat : Int) = false) : isNameB s = false := by
 simp only [isNameB, head_eq s h0, h2]; simp
theorem name_long (s : ByteArray) (h : s.size = 0 ∨ 20 < s.size) : isNameB s = false := by
 unfold isNameB
 rw [decide_eq_false (show ¬ (1 ≤ s.size ∧ s.size ≤ 20) by omega)]
 rfl

set_option maxHeartbeats 1000000 in
theorem isName_any (s : ByteArray) (w : World) :
  Calls Tryz.prog 111 #[.string s] w fun e w' => e = .returned (.bool (isNameB s)) ∧ w = w' := by
 by_cases h0 : s.toList = []
 ·have H := Lib.hid (name_long s (.inl (empty_of s h0)))
  go_enter Tryz.func111, Tryz.ntmps111
  go_wp2_with fail
  go_ret
  exact ⟨by rw [H.out]; rfl, rfl⟩
 ·have hp := not_empty_of s h0
  by_cases h1 : (s.size : Int) ≤ 20
  ·by_cases h2 : letterB (s[0].toNat : Int) = true
   ·have H := Lib.hid (name_yes s hp (by omega) h2)
    obtain ⟨b, H3, h3⟩ : ∃ b : Bool, Hid ((wordN s.data.toList == s.size) = b) ∧ (((wordN s.data.toList : Nat) : Int) == (s.size : Int)) = b := by
     by_cases e : wordN s.data.toList = s.size
     ·exact ⟨true, Lib.hid (beq_iff_eq.2 e), beq_iff_eq.2 (by omega)⟩
     ·exact ⟨false, Lib.hid (beq_eq_false_iff_ne.2 e), beq_eq_false_iff_ne.2 (by omega)⟩
    cases b
    all_goals
     go_enter Tryz.func111, Tryz.ntmps111
     go_wp2_with (first | (go_at_call 148; refine (letter_any _ _).mono ?_; rintro e w' ⟨rfl, rfl⟩) | (go_at_call 149; refine (word_any _ _ (by omega)).mono ?_; rintro e w' ⟨rfl, rfl⟩))
     go_ret
     exact ⟨congrArg (fun b => Ending.returned (.bool b)) (by first | (rw [H.out, H3.out]; done) | (rw [H.out, H3.out]; simpa using h0)), rfl⟩
   ·have h2' : letterB (s[0].toNat : Int) = false := by simpa using h2
    have H := Lib.hid (name_no s hp h2')
    clear h2
    go_enter Tryz.func111, Tryz.ntmps111
    go_wp2_with (go_at_call 148; refine (letter_any _ _).mono ?_; rintro e w' ⟨rfl, rfl⟩)
    go_ret
    exact ⟨by rw [H.out]; rfl, rfl⟩
  ·have H := Lib.hid (name_long s (.inr (by omega)))
   go_enter Tryz.func111, Tryz.ntmps111
   go_wp2_with fail
   go_ret
   exact ⟨by rw [H.out]; rfl, rfl⟩

end Go.Proofs.YtlnodjcmdnmnlaaGreat
namespace Go.Proofs.YtlnodjcmdnmnlaaGreat
open Go.RowKit Go.Shelf
theorem str_eq (a b : ByteArray) : (a.toList == b.toList) = decide (a = b) := by
 rw [Bool.eq_iff_iff, beq_iff_eq, decide_eq_true_eq, ByteArray.toList_eq, ByteArray.toList_eq]
 constructor
 ·intro h
  obtain ⟨⟨x⟩⟩ := a
  obtain ⟨⟨y⟩⟩ := b
  simpa using h
 ·exact fun h => by rw [h]
def sameN (s : ByteArray) (r : BrickR) : Bool := decide (r.name = s)
def brick1 (b : BrickR) : Bool := isNameB b.name && (decide (1 ≤ b.weight) && (decide (b.weight ≤ 1048576) && (decide (0 ≤ b.count) && decide (b.count ≤ 60))))
def brickK (L : List BrickR) (k : Nat) : Bool := brick1 (bg L k) && !(brick_any (L.take k) (sameN (bg L k).name))
def okTo (L : List BrickR) : Nat → Bool
 | 0 => true
 | k + 1 => okTo L k && brickK L k
def cntTo (L : List BrickR) : Nat → Int
 | 0 => 0
 | k + 1 => cntTo L k + (bg L k).count
def brickB (L : List BrickR) : Bool := decide (L.length ≤ 8) && (okTo L L.length && decide (cntTo L L.length ≤ 60))
theorem brick1_iff (b : BrickR) : brick1 b = true ↔ isNameB b.name = true ∧ 1 ≤ b.weight ∧ b.weight ≤ 1048576 ∧ 0 ≤ b.count ∧ b.count ≤ 60 := by
 unfold brick1
 simp only [Bool.and_eq_true, decide_eq_true_eq]
end Go.Proofs.YtlnodjcmdnmnlaaGreat
namespace Go.Proofs.YtlnodjcmdnmnlaaGreat
open Go.RowKit Go.Shelf
structure ItemR where
 name : ByteArray
 pos : Int
 width : Int
 weight : Int
 hang : Int
 front : Int
 back : Int
structure SetR where
 name : ByteArray
 depth : Int
 low : Int
 high : Int
 length : Int
 la : Option Addr
 lines : List Int
 lc : Nat
 pipe : Int
 arbor : Int
 purchase : Int
 most : Int
 brake : Int
 ia : Option Addr
 items : List ItemR
 ic : Nat
 ba : Option Addr
 bricks : List BrickR
 bc : Nat
def betB (n lo hi : Int) : Bool := decide (lo ≤ n) && decide (n ≤ hi)
theorem betB_iff {n lo hi : Int} : betB n lo hi = true ↔ lo ≤ n ∧ n ≤ hi := by unfold betB; rw [Bool.and_eq_true, decide_eq_true_eq, decide_eq_true_eq]
def aloneB (x : ItemR) : Bool := isNameB x.name && (betB x.weight 0 1048576 && (betB x.hang 0 1048576 && (betB x.front 0 1048576 && betB x.back 0 1048576)))
def insideB (x : ItemR) (len : Int) : Bool := decide (0 ≤ x.pos) && (betB x.width 1 1048576 && decide (x.pos ≤ len - x.width))
def apartB (x y : ItemR) : Bool := decide (x.pos + x.width ≤ y.pos) || decide (y.pos + y.width ≤ x.pos)
def item1 (len : Int) (x : ItemR) : Bool := aloneB x && insideB x len
theorem apart_symm (x y : ItemR) : apartB x y = apartB y x := by unfold apartB; rw [Bool.or_comm]
def itemsB (I : List ItemR) (len : Int) : Bool := decide (I.length ≤ 40) && (I.all (item1 len) && decide (I.Pairwise fun x y => x.name ≠ y.name ∧ apartB x y = true))
def linesB (L : List Int) (len : Int) : Bool := betB L.length 2 10 && (L.all (fun n => betB n 0 len) && decide (L.Pairwise (· < ·)))
def setB (r : SetR) : Bool :=
 isNameB r.name && (betB r.depth 0 1048576 && (decide (0 ≤ r.low) && (decide (r.low ≤ r.high) && (decide (r.high ≤ 1048576) && (betB r.length 1000 1048576 && ((r.length % 1000 == 0) && (linesB r.lines r.length &&
  (betB r.pipe 0 1048576 && (betB r.arbor 0 1048576 && (betB r.purchase 1 2 && (betB r.most 1 67108864 && (betB r.brake 0 67108864 && (itemsB r.items r.length && brickB r.bricks)))))))))))))
structure SetOK (r : SetR) : Prop where
 name : isNameB r.name = true
 depth : 0 ≤ r.depth ∧ r.depth ≤ 1048576
 low : 0 ≤ r.low ∧ r.low ≤ r.high ∧ r.high ≤ 1048576
 length : 1000 ≤ r.length ∧ r.length ≤ 1048576 ∧ r.length % 1000 = 0
 lines : linesB r.lines r.length = true
 pipe : 0 ≤ r.pipe ∧ r.pipe ≤ 1048576
 arbor : 0 ≤ r.arbor ∧ r.arbor ≤ 1048576
 purchase : 1 ≤ r.purchase ∧ r.purchase ≤ 2
 most : 1 ≤ r.most ∧ r.most ≤ 67108864
 brake : 0 ≤ r.brake ∧ r.brake ≤ 67108864
 items : itemsB r.items r.length = true
 bricks : brickB r.bricks = true
theorem setB_iff {r : SetR} : setB r = true ↔ SetOK r := by
 unfold setB
 simp only [Bool.and_eq_true, betB_iff, decide_eq_true_eq, beq_iff_eq]
 constructor
 ·rintro ⟨h1, h2, h3, h4, h5, h6, h7, h8, h9, h10, h11, h12, h13, h14, h15⟩
  exact ⟨h1, h2, ⟨h3, h4, h5⟩, ⟨h6.1, h6.2, h7⟩, h8, h9, h10, h11, h12, h13, h14, h15⟩
 ·rintro ⟨h1, h2, ⟨h3, h4, h5⟩, ⟨h6, h6', h7⟩, h8, h9, h10, h11, h12, h13, h14, h15⟩
  exact ⟨h1, h2, h3, h4, h5, ⟨h6, h6'⟩, h7, h8, h9, h10, h11, h12, h13, h14, h15⟩
theorem item1_iff {len : Int} {x : ItemR} : item1 len x = true ↔ isNameB x.name = true ∧ (0 ≤ x.weight ∧ x.weight ≤ 1048576) ∧ (0 ≤ x.hang ∧ x.hang ≤ 1048576) ∧ (0 ≤ x.front ∧ x.front ≤ 1048576) ∧ (0 ≤ x.back ∧ x.back ≤ 1048576) ∧ 0 ≤ x.pos ∧ (1 ≤ x.width ∧ x.width ≤ 1048576) ∧ x.pos ≤ len - x.width := by
 unfold item1 aloneB insideB
 simp only [Bool.and_eq_true, betB_iff, decide_eq_true_eq]
 constructor
 ·rintro ⟨⟨a, b, c, d, e⟩, f, g, h⟩; exact ⟨a, b, c, d, e, f, g, h⟩
 ·rintro ⟨a, b, c, d, e, f, g, h⟩; exact ⟨⟨a, b, c, d, e⟩, f, g, h⟩
theorem items_iff {I : List ItemR} {len : Int} : itemsB I len = true ↔ I.length ≤ 40 ∧ (∀ x ∈ I, item1 len x = true) ∧ I.Pairwise fun x y => x.name ≠ y.name ∧ apartB x y = true := by
 unfold itemsB
 simp only [Bool.and_eq_true, decide_eq_true_eq, List.all_eq_true]
end Go.Proofs.YtlnodjcmdnmnlaaGreat
namespace Go.Proofs.YtlnodjcmdnmnlaaGreat
open Go.RowKit Go.Shelf
attribute [local go_sem] Oper.semAt_some
/-! ### Slices of api.Item -/

def tg (L : List (ItemR)) (i : Nat) : ItemR := (L[i]?).getD ⟨⟨#[]⟩, 0, 0, 0, 0, 0, 0⟩
theorem tg_eq (L : List (ItemR)) (i : Nat) (h : i < L.length) : tg L i = L[i] := by unfold tg; rw [List.getElem?_eq_getElem h]; rfl
def itemV (r : ItemR) : Value := .agg #[.string r.name, .int .i64 r.pos, .int .i64 r.width, .int .i64 r.weight, .int .i64 r.hang, .int .i64 r.front, .int .i64 r.back]
def tflat (L : List (ItemR)) : List Value := L.flatMap fun r => [.string r.name, .int .i64 r.pos, .int .i64 r.width, .int .i64 r.weight, .int .i64 r.hang, .int .i64 r.front, .int .i64 r.back]
theorem tflat_at (L : List (ItemR)) (i : Nat) (hi : i < L.length) : (tflat L)[i * 7]? = some (.string (tg L i).name) ∧ (tflat L)[i * 7 + 1]? = some (.int .i64 (tg L i).pos) ∧ (tflat L)[i * 7 + 2]? = some (.int .i64 (tg L i).width) ∧ (tflat L)[i * 7 + 3]? = some (.int .i64 (tg L i).weight) ∧ (tflat L)[i * 7 + 4]? = some (.int .i64 (tg L i).hang) ∧ (tflat L)[i * 7 + 5]? = some (.int .i64 (tg L i).front) ∧ (tflat L)[i * 7 + 6]? = some (.int .i64 (tg L i).back) := by
 induction L generalizing i with
 | nil => simp at hi
 | cons x r ih =>
  match i with
  | 0 => exact ⟨rfl, rfl, rfl, rfl, rfl, rfl, rfl⟩
  | i + 1 =>
   have := ih i (by simpa using hi)
   have e : tflat (x :: r) = .string x.name :: .int .i64 x.pos :: .int .i64 x.width :: .int .i64 x.weight :: .int .i64 x.hang :: .int .i64 x.front :: .int .i64 x.back :: tflat r := rfl
   rw [e, show (i + 1) * 7 = i * 7 + 1 + 1 + 1 + 1 + 1 + 1 + 1 by omega]
   simpa [tg] using this
def Items (n₀ : Nat) (w : World) (a : Option Addr) (L : List (ItemR)) : Prop :=
 0 < L.length → ∃ b off, a = some ⟨b, off, none⟩ ∧ b < n₀ ∧ ∀ i, i < L.length → w.cell? ⟨b, off + i * 7, none⟩ = some (.string (tg L i).name) ∧ w.cell? ⟨b, off + i * 7 + 1, none⟩ = some (.int .i64 (tg L i).pos) ∧ w.cell? ⟨b, off + i * 7 + 2, none⟩ = some (.int .i64 (tg L i).width) ∧ w.cell? ⟨b, off + i * 7 + 3, none⟩ = some (.int .i64 (tg L i).weight) ∧ w.cell? ⟨b, off + i * 7 + 4, none⟩ = some (.int .i64 (tg L i).hang) ∧ w.cell? ⟨b, off + i * 7 + 5, none⟩ = some (.int .i64 (tg L i).front) ∧ w.cell? ⟨b, off + i * 7 + 6, none⟩ = some (.int .i64 (tg L i).back)
theorem Items.below {n₀ : Nat} {w w' : World} {a : Option Addr} {L : List (ItemR)} (h : Items n₀ w a L) (hb : Below n₀ w w') : Items n₀ w' a L := fun hl => by
 obtain ⟨b, off, rfl, hlt, hc⟩ := h hl
 refine ⟨b, off, rfl, hlt, fun i hi => ?_⟩
 obtain ⟨c0, c1, c2, c3, c4, c5, c6⟩ := hc i hi
 exact ⟨(hb.cell (p := ⟨b, _, none⟩) hlt).trans c0, (hb.cell (p := ⟨b, _, none⟩) hlt).trans c1, (hb.cell (p := ⟨b, _, none⟩) hlt).trans c2, (hb.cell (p := ⟨b, _, none⟩) hlt).trans c3, (hb.cell (p := ⟨b, _, none⟩) hlt).trans c4, (hb.cell (p := ⟨b, _, none⟩) hlt).trans c5, (hb.cell (p := ⟨b, _, none⟩) hlt).trans c6⟩
theorem Items.mono {n₀ n₁ : Nat} {w : World} {a : Option Addr} {L : List (ItemR)} (h : Items n₀ w a L) (hn : n₀ ≤ n₁) : Items n₁ w a L := fun hl => by
 obtain ⟨b, off, rfl, hlt, hc⟩ := h hl
 exact ⟨b, off, rfl, by omega, hc⟩
theorem Items.grow {w w' : World} {a : Option Addr} {L : List (ItemR)} (h : Items w.heap.size w a L) (hb : Below w.heap.size w w') : Items w'.heap.size w' a L := (h.below hb).mono hb.size
theorem Items.nil {n₀ : Nat} {w : World} {a : Option Addr} : Items n₀ w a [] := fun h => absurd h (Nat.not_lt_zero _)
theorem Items.take {n₀ : Nat} {w : World} {a : Option Addr} {L : List (ItemR)} (h : Items n₀ w a L) (n : Nat) : Items n₀ w a (L.take n) := fun hl => by
 have hl' : 0 < L.length := by rw [List.length_take] at hl; omega
 obtain ⟨b, off, rfl, hlt, hc⟩ := h hl'
 refine ⟨b, off, rfl, hlt, fun i hi => ?_⟩
 rw [List.length_take] at hi
 have e : tg (L.take n) i = tg L i := by unfold tg; rw [List.getElem?_take, if_pos (by omega)]
 rw [e]
 exact hc i (by omega)
def AsksI (g : Nat) (cb : Array Value) (n₀ : Nat) (w : World) (p : ItemR → Bool) : Prop :=
 ∀ (W : World) (r : ItemR), Below n₀ w W → Calls Tryz.prog g (#[itemV r] ++ cb) W fun e w' => e = .returned (.bool (p r)) ∧ Below W.heap.size W w'
def item_first (L : List (ItemR)) (p : ItemR → Bool) : Int := match (List.range L.length).find? (fun i => p (tg L i)) with
 | some i => i
 | none => -1
theorem item_first_hit (L : List (ItemR)) (p : ItemR → Bool) (k : Nat) (hk : k < L.length) (h : p (tg L k) = true) (hn : ∀ j, j < k → p (tg L j) = false) : item_first L p = k := by
 unfold item_first
 have : (List.range L.length).find? (fun i => p (tg L i)) = some k := by
  rw [List.find?_eq_some_iff_getElem]
  refine ⟨by simpa using h, k, by simpa using hk, by simp, fun j hj => ?_⟩
  simpa using hn j hj
 rw [this]
theorem item_first_miss (L : List (ItemR)) (p : ItemR → Bool) (hn : ∀ j, j < L.length → p (tg L j) = false) : item_first L p = -1 := by
 unfold item_first
 have : (List.range L.length).find? (fun i => p (tg L i)) = none := by
  rw [List.find?_eq_none]
  intro x hx
  simpa using hn x (by simpa using hx)
 rw [this]
theorem item_first_cases (L : List (ItemR)) (p : ItemR → Bool) : (item_first L p = -1 ∧ ∀ j, j < L.length → p (tg L j) = false) ∨ ∃ k : Nat, k < L.length ∧ item_first L p = k ∧ p (tg L k) = true ∧ ∀ j, j < k → p (tg L j) = false := by
 have main : ∀ n, n ≤ L.length → (∀ j, j < n → p (tg L j) = false) ∨ ∃ k, k < n ∧ p (tg L k) = true ∧ ∀ j, j < k → p (tg L j) = false := by
  intro n
  induction n with
  | zero => exact fun _ => .inl fun j hj => absurd hj (Nat.not_lt_zero _)
  | succ n ih =>
   intro hn
   rcases ih (by omega) with h | ⟨k, hk, h1, h2⟩
   ·cases e : p (tg L n)
    ·refine .inl fun j hj => ?_
     rcases Nat.lt_or_ge j n with l | l
     ·exact h j l
     ·obtain rfl : j = n := by omega
      exact e
    ·exact .inr ⟨n, by omega, e, h⟩
   ·exact .inr ⟨k, by omega, h1, h2⟩
 rcases main L.length (Nat.le_refl _) with h | ⟨k, hk, h1, h2⟩
 ·exact .inl ⟨item_first_miss L p h, h⟩
 ·exact .inr ⟨k, hk, item_first_hit L p k hk h1 h2, h1, h2⟩
def item_any (L : List (ItemR)) (p : ItemR → Bool) : Bool := decide (0 ≤ item_first L p)
theorem item_any_eq (L : List (ItemR)) (p : ItemR → Bool) : item_any L p = L.any p := by
 unfold item_any
 rw [Bool.eq_iff_iff, List.any_eq_true, decide_eq_true_eq]
 rcases item_first_cases L p with ⟨h, h2⟩ | ⟨k, hk, h, h1, _⟩
 ·rw [h]
  refine ⟨fun h => by omega, fun ⟨x, hx, hp⟩ => ?_⟩
  obtain ⟨j, hj, e⟩ := List.getElem_of_mem hx
  have := h2 j hj
  rw [tg_eq L j hj, e, hp] at this
  cases this
 ·rw [h]
  exact ⟨fun _ => ⟨_, by rw [tg_eq L k hk]; exact List.getElem_mem hk, h1⟩, fun _ => by omega⟩

set_option maxHeartbeats 2000000 in
theorem item_indexFunc (a : Option Addr) (L : List (ItemR)) (cap n₀ g : Nat) (cb : Array Value) (p : ItemR → Bool) (w : World) (eg : ∀ args w, (callFunc g args).run Tryz.prog w = .ok (.enter g args) w)
  (hl : L.length ≤ 1100) (hn₀ : n₀ ≤ w.heap.size) (hI : Items n₀ w a L) (hp : AsksI g cb n₀ w p) :
  Calls Tryz.prog 200 #[.slice a L.length cap, .func (.func g) #[] cb] w fun e w' => e = .returned (.int .i64 (item_first L p)) ∧ Below w.heap.size w w' := by
 have HI := Lib.hid hI; clear hI
 have HP := Lib.hid hp; clear hp
 go_enter Tryz.func200, Tryz.ntmps200
 go_wp2
 go_loopw [8] (fun i wr => ∃ k : Nat, k ≤ L.length ∧ i = .int .i64 k ∧ Below w.heap.size w wr ∧ Hid (∀ j, j < k → p (tg L j) = false)) (fun i _ => L.length - (intOf i).toNat)
 case atStart => exact ⟨0, Nat.zero_le _, rfl, Below.refl _ _, Lib.hid (fun _ h => absurd h (Nat.not_lt_zero _))⟩
 case round =>
  obtain ⟨k, hk, rfl, hB, HA⟩ := hrel
  by_cases hlt : k < L.length
  ·obtain ⟨b, off, rfl, hb, hc⟩ := HI.out (by omega)
   obtain ⟨c0, c1, c2, c3, c4, c5, c6⟩ := hc k hlt
   have d0 := (hB.cell (p := ⟨b, off + k * 7, none⟩) (show b < w.heap.size by omega)).trans c0
   have d1 := (hB.cell (p := ⟨b, off + k * 7 + 1, none⟩) (show b < w.heap.size by omega)).trans c1
   have d2 := (hB.cell (p := ⟨b, off + k * 7 + 2, none⟩) (show b < w.heap.size by omega)).trans c2
   have d3 := (hB.cell (p := ⟨b, off + k * 7 + 3, none⟩) (show b < w.heap.size by omega)).trans c3
   have d4 := (hB.cell (p := ⟨b, off + k * 7 + 4, none⟩) (show b < w.heap.size by omega)).trans c4
   have d5 := (hB.cell (p := ⟨b, off + k * 7 + 5, none⟩) (show b < w.heap.size by omega)).trans c5
   have d6 := (hB.cell (p := ⟨b, off + k * 7 + 6, none⟩) (show b < w.heap.size by omega)).trans c6
   clear c0 c1 c2 c3 c4 c5 c6 hc
   have HC := Lib.hid (show Calls Tryz.prog g (#[.agg #[.string (tg L k).name, .int .i64 (tg L k).pos, .int .i64 (tg L k).width, .int .i64 (tg L k).weight, .int .i64 (tg L k).hang, .int .i64 (tg L k).front, .int .i64 (tg L k).back]] ++ cb) wr _ from HP.out wr (tg L k) (hB.mono hn₀))
   obtain ⟨bv, hbv⟩ : ∃ bv, p (tg L k) = bv := ⟨_, rfl⟩
   rw [hbv] at HC
   cases bv
   ·have HB : Hid (∀ j, j < k + 1 → p (tg L j) = false) := Lib.hid fun j hj => by
     rcases Nat.lt_or_ge j k with l | l
     ·exact HA.out j l
     ·obtain rfl : j = k := by omega
      exact hbv
    clear hbv
    go_wp2_with ((with_reducible refine HC.out.mono ?_); rintro e w1 ⟨rfl, hb1⟩)
    go_roundw
    case rel => exact ⟨k + 1, by omega, by go_num, hB.trans (hb1.mono hB.size), HB⟩
    case measure => simp [intOf]; omega
   ·have H := Lib.hid (item_first_hit L p k hlt hbv HA.out)
    clear hbv
    go_wp2_with ((with_reducible refine HC.out.mono ?_); rintro e w1 ⟨rfl, hb1⟩)
    go_ret
    exact ⟨ret_int H.out.symm, hB.trans (hb1.mono hB.size)⟩
  ·obtain rfl : k = L.length := by omega
   have H := Lib.hid (item_first_miss L p HA.out)
   go_wp2
   go_ret
   exact ⟨ret_int H.out.symm, hB⟩

set_option maxHeartbeats 1000000 in
theorem item_containsFunc (a : Option Addr) (L : List (ItemR)) (cap n₀ g : Nat) (cb : Array Value) (p : ItemR → Bool) (w : World) (eg : ∀ args w, (callFunc g args).run Tryz.prog w = .ok (.enter g args) w)
  (hl : L.length ≤ 1100) (hn₀ : n₀ ≤ w.heap.size) (hI : Items n₀ w a L) (hp : AsksI g cb n₀ w p) :
  Calls Tryz.prog 192 #[.slice a L.length cap, .func (.func g) #[] cb] w fun e w' => e = .returned (.bool (item_any L p)) ∧ Below w.heap.size w w' := by
 have HC := Lib.hid (item_indexFunc a L cap n₀ g cb p w eg hl hn₀ hI hp)
 clear hI hp eg
 go_enter Tryz.func192, Tryz.ntmps192
 go_wp2_with (go_at_call 200; (with_reducible refine HC.out.mono ?_); rintro e w1 ⟨rfl, hb1⟩)
 go_ret
 exact ⟨rfl, hb1⟩

end Go.Proofs.YtlnodjcmdnmnlaaGreat
namespace Go.Proofs.YtlnodjcmdnmnlaaGreat
open Go.RowKit Go.Shelf Go.Maps Go.WideMaps
attribute [local go_sem] Oper.semAt_some
def keyLs (l : List ByteArray) : List Lit := l.map fun s => .string s.data.toList
theorem keyLs_is (l : List ByteArray) : ∀ x ∈ keyLs l, WideAt.IsKeyLit x := by
 intro x hx
 unfold keyLs at hx
 rw [List.mem_map] at hx
 obtain ⟨s, _, rfl⟩ := hx
 trivial
theorem any_mem (acc : List Lit) (x : Lit) (hx : WideAt.IsKeyLit x) : acc.any (fun y => y.sameKey x) = true ↔ x ∈ acc := by
 rw [List.any_eq_true]
 constructor
 ·rintro ⟨y, hy, e⟩
  rw [← WideAt.sameKey_eq e]; exact hy
 ·exact fun h => ⟨x, h, WideAt.sameKey_self hx⟩
theorem addKey_len : ∀ (xs acc : List Lit), (∀ x ∈ xs, WideAt.IsKeyLit x) → (xs.foldl addKey acc).length ≤ acc.length + xs.length ∧ ((xs.foldl addKey acc).length < acc.length + xs.length ↔ ¬ (xs.Nodup ∧ ∀ x ∈ xs, x ∉ acc))
 | [], acc, _ => ⟨Nat.le_refl _, by simp⟩
 | x :: r, acc, h => by
  have hx := h x (List.mem_cons_self ..)
  rw [List.foldl_cons, List.length_cons]
  by_cases hm : x ∈ acc
  ·rw [show addKey acc x = acc by unfold addKey; rw [if_pos ((any_mem acc x hx).2 hm)]]
   have h1 := (addKey_len r acc fun y hy => h y (List.mem_cons_of_mem _ hy)).1
   refine ⟨by omega, fun _ q => q.2 x (List.mem_cons_self ..) hm, fun _ => by omega⟩
  ·rw [show addKey acc x = acc ++ [x] by unfold addKey; rw [if_neg fun q => hm ((any_mem acc x hx).1 q)]]
   obtain ⟨h1, h2⟩ := addKey_len r (acc ++ [x]) fun y hy => h y (List.mem_cons_of_mem _ hy)
   rw [List.length_append, List.length_singleton] at h1 h2
   refine ⟨by omega, ?_⟩
   rw [show acc.length + (r.length + 1) = acc.length + 1 + r.length by omega, h2]
   apply not_congr
   rw [List.nodup_cons]
   simp only [List.mem_append, List.mem_cons, not_or]
   constructor
   ·rintro ⟨a, b⟩
    refine ⟨⟨fun q => (b x q).2.1 rfl, a⟩, fun y hy => ?_⟩
    rcases hy with rfl | hy
    ·exact hm
    ·exact (b y hy).1
   ·rintro ⟨⟨a, b⟩, c⟩
    exact ⟨b, fun y hy => ⟨c y (.inr hy), fun e => a (e ▸ hy), fun h => by cases h⟩⟩
def twiceB (l : List ByteArray) : Bool := decide (¬ l.Nodup)
theorem keyLs_nodup (l : List ByteArray) : (keyLs l).Nodup ↔ l.Nodup := by
 unfold keyLs
 induction l with
 | nil => simp
 | cons s t ih =>
  rw [List.map_cons, List.nodup_cons, List.nodup_cons, ih, List.mem_map]
  constructor
  ·rintro ⟨a, b⟩
   exact ⟨fun q => a ⟨s, q, rfl⟩, b⟩
  ·rintro ⟨a, b⟩
   refine ⟨?_, b⟩
   rintro ⟨t', h1, h2⟩
   apply a
   have : t' = s := by
    obtain ⟨⟨x⟩⟩ := t'
    obtain ⟨⟨y⟩⟩ := s
    simp at h2
    rw [h2]
   rw [← this]; exact h1
def NameD (l : List ByteArray) : DataW Unit := setOf (.agg []) (keyLs l)
theorem nameD_size (l : List ByteArray) : Maps.size (NameD l) ≤ l.length ∧ decide (Maps.size (NameD l) < l.length) = twiceB l := by
 unfold NameD
 rw [size_setOf _ _ (keyLs_is l)]
 obtain ⟨h1, h2⟩ := addKey_len (keyLs l) [] (keyLs_is l)
 have e : (keyLs l).length = l.length := by unfold keyLs; rw [List.length_map]
 rw [List.length_nil, Nat.zero_add, e] at h1 h2
 refine ⟨h1, ?_⟩
 unfold twiceB
 rw [Bool.eq_iff_iff, decide_eq_true_eq, decide_eq_true_eq, ← keyLs_nodup l]
 have h3 : (∀ x ∈ keyLs l, x ∉ ([] : List Lit)) := fun _ _ h => by cases h
 rw [h2]
 exact not_congr ⟨fun h => h.1, fun h => ⟨h, h3⟩⟩
theorem nameD_next (l : List ByteArray) (s : ByteArray) : (NameD l).put (.string s.data.toList) (.agg []) = NameD (l ++ [s]) := by
 unfold NameD keyLs
 rw [List.map_append, List.map_cons, List.map_nil, setOf_snoc]
theorem keyedN : Keyed Tryz.prog 9 := string_keyed Tryz.underlying9
theorem below_map {H : Type} {w w' : World} {b n : Nat} {D : DataW H} {R : Value → Option (DataW H × List MemPlace)} {k : TypeId} {P : Program} (h : w.ownsMap P k R b n D) (hB : Below w.heap.size w w') : w'.ownsMap P k R b n D := by
 have hlt := h.lt
 obtain ⟨es, clock, hb, F, hs, hD⟩ := h
 exact ⟨es, clock, (hB.block b hlt).trans hb, F, hs, hD⟩
theorem twice_grow {w wr w2 w3 : World} {o : Obj} (hB : Below w.heap.size w wr) (h2 : Below (wr.alloc o).heap.size (wr.alloc o) w2) (h3 : w2.grownBy w3 (some w.heap.size)) : Below w.heap.size w w3 :=
 have h4 : Below w.heap.size w w2 := hB.trans ((mono_in _ h2).mono hB.size)
 h4.grown h3 h4.size (fun j hj => by cases hj; exact Nat.le_refl _)
theorem item_names_next (L : List ItemR) {k : Nat} (h : k < L.length) : (L.take (k + 1)).map (·.name) = (L.take k).map (·.name) ++ [(tg L k).name] := by
 rw [List.take_succ_eq_append_getElem h, List.map_append, tg_eq L k h]
 rfl
set_option maxHeartbeats 1000000 in
theorem item_name_any (r : ItemR) (w : World) :
  Calls Tryz.prog 189 #[.agg #[.string r.name, .int .i64 r.pos, .int .i64 r.width, .int .i64 r.weight, .int .i64 r.hang, .int .i64 r.front, .int .i64 r.back]] w fun e w' => e = .returned (.string r.name) ∧ Below w.heap.size w w' := by
 go_enter Tryz.func189, Tryz.ntmps189
 go_wp2_with fail
 go_ret
 exact ⟨rfl, (Below.refl _ _).alloc (Nat.le_refl _) _⟩
set_option maxRecDepth 100000 in
set_option maxHeartbeats 4000000 in
theorem item_twice (a : Option Addr) (L : List ItemR) (cap n₀ : Nat) (w : World) (hn₀ : n₀ ≤ w.heap.size) (hl : L.length ≤ 1000) (hs : ∀ x ∈ L, x.name.size ≤ 1000) (h : Items n₀ w a L) :
  Calls Tryz.prog 188 #[.slice a L.length cap, .func (.func 189) #[] #[]] w fun e w' => e = .returned (.bool (twiceB (L.map (·.name)))) ∧ Below w.heap.size w w' := by
 have HL := Lib.hid h
 have HS : Hid (∀ k, k < L.length → (tg L k).name.size ≤ 1000) := Lib.hid fun k hk => hs _ (by rw [tg_eq L k hk]; exact List.getElem_mem hk)
 clear h hs
 have hmm := @run_makeMap Tryz.prog
 go_enter Tryz.func188, Tryz.ntmps188
 go_wp2
 go_loopw [11] (fun i wr => ∃ k : Nat, k ≤ L.length ∧ i = .int .i64 k ∧ Hid (wr.ownsMap Tryz.prog 9 unitElem w.heap.size k (NameD ((L.take k).map (·.name)))) ∧ Below w.heap.size w wr) (fun i _ => L.length - (intOf i).toNat)
 case atStart => exact ⟨0, Nat.zero_le _, rfl, Lib.hid (World.ownsMap_made _ _ _ _), (Below.refl _ _).alloc (Nat.le_refl _) _⟩
 case round =>
  obtain ⟨k, hk, rfl, HO, hB⟩ := hrel
  by_cases hlt : k < L.length
  ·obtain ⟨b, off, rfl, hb, hx⟩ := HL.out (by omega)
   obtain ⟨e0, e1, e2, e3, e4, e5, e6⟩ := hx k hlt
   have d0 := (hB.cell (p := ⟨b, _, none⟩) (show b < w.heap.size by omega)).trans e0
   have d1 := (hB.cell (p := ⟨b, _, none⟩) (show b < w.heap.size by omega)).trans e1
   have d2 := (hB.cell (p := ⟨b, _, none⟩) (show b < w.heap.size by omega)).trans e2
   have d3 := (hB.cell (p := ⟨b, _, none⟩) (show b < w.heap.size by omega)).trans e3
   have d4 := (hB.cell (p := ⟨b, _, none⟩) (show b < w.heap.size by omega)).trans e4
   have d5 := (hB.cell (p := ⟨b, _, none⟩) (show b < w.heap.size by omega)).trans e5
   have d6 := (hB.cell (p := ⟨b, _, none⟩) (show b < w.heap.size by omega)).trans e6
   have HSZ := Lib.hid (HS.out k hlt)
   have HN := Lib.hid (item_names_next L hlt)
   generalize hr : tg L k = r at *
   clear hx hr e0 e1 e2 e3 e4 e5 e6
   go_wp2_with (first
    | (go_at_call 189; (with_reducible refine (item_name_any r _).mono ?_); rintro e w2 ⟨rfl, hb2⟩; have HB2 := Lib.hid hb2; clear hb2)
    | (at_mapUpdate; refine wpList_mapUpdate_own _ rfl _ _ _ 250 rfl 9 208 keyedN Tryz.underlying250 unitElem w.heap.size k (NameD ((L.take k).map (·.name))) rfl (below_map (HO.out.alloc _) HB2.out) (by unfold maxLen; omega) (.string r.name) (.agg #[]) (.string r.name.data.toList) rfl rfl (keyOf_string_mk Tryz.underlying9 (by have := HSZ.out; unfold maxLen; omega)) (.agg []) [] unitElem_mk ?_; intro w3 hown3 hgrow3; rw [nameD_next, ← HN.out] at hown3; have HO3 := Lib.hid hown3; have HG3 := Lib.hid hgrow3; clear hown3 hgrow3))
   go_roundw
   case rel => exact ⟨k + 1, by omega, by go_num, HO3, twice_grow hB HB2.out HG3.out⟩
   case measure => simp [intOf]; omega
  ·obtain rfl : k = L.length := by omega
   rw [List.take_length] at HO
   obtain ⟨n1, n2⟩ := nameD_size (L.map (·.name))
   rw [List.length_map] at n1 n2
   have HE := Lib.hid n2
   clear n2 hlt
   go_wp2_with (at_len; refine wpList_len_own _ rfl _ 250 rfl 9 208 Tryz.underlying250 unitElem w.heap.size L.length _ rfl HO.out ?_)
   go_ret
   exact ⟨ret_bool HE.out, hB⟩
theorem brick_names_next (L : List BrickR) {k : Nat} (h : k < L.length) : (L.take (k + 1)).map (·.name) = (L.take k).map (·.name) ++ [(bg L k).name] := by
 rw [List.take_succ_eq_append_getElem h, List.map_append, bg_eq L k h]
 rfl
set_option maxHeartbeats 1000000 in
theorem brick_name_any (r : BrickR) (w : World) :
  Calls Tryz.prog 196 #[.agg #[.string r.name, .int .i64 r.weight, .int .i64 r.count]] w fun e w' => e = .returned (.string r.name) ∧ Below w.heap.size w w' := by
 go_enter Tryz.func196, Tryz.ntmps196
 go_wp2_with fail
 go_ret
 exact ⟨rfl, (Below.refl _ _).alloc (Nat.le_refl _) _⟩
set_option maxRecDepth 100000 in
set_option maxHeartbeats 4000000 in
theorem brick_twice (a : Option Addr) (L : List BrickR) (cap n₀ : Nat) (w : World) (hn₀ : n₀ ≤ w.heap.size) (hl : L.length ≤ 1000) (hs : ∀ x ∈ L, x.name.size ≤ 1000) (h : Bricks n₀ w a L) :
  Calls Tryz.prog 195 #[.slice a L.length cap, .func (.func 196) #[] #[]] w fun e w' => e = .returned (.bool (twiceB (L.map (·.name)))) ∧ Below w.heap.size w w' := by
 have HL := Lib.hid h
 have HS : Hid (∀ k, k < L.length → (bg L k).name.size ≤ 1000) := Lib.hid fun k hk => hs _ (by rw [bg_eq L k hk]; exact List.getElem_mem hk)
 clear h hs
 have hmm := @run_makeMap Tryz.prog
 go_enter Tryz.func195, Tryz.ntmps195
 go_wp2
 go_loopw [11] (fun i wr => ∃ k : Nat, k ≤ L.length ∧ i = .int .i64 k ∧ Hid (wr.ownsMap Tryz.prog 9 unitElem w.heap.size k (NameD ((L.take k).map (·.name)))) ∧ Below w.heap.size w wr) (fun i _ => L.length - (intOf i).toNat)
 case atStart => exact ⟨0, Nat.zero_le _, rfl, Lib.hid (World.ownsMap_made _ _ _ _), (Below.refl _ _).alloc (Nat.le_refl _) _⟩
 case round =>
  obtain ⟨k, hk, rfl, HO, hB⟩ := hrel
  by_cases hlt : k < L.length
  ·obtain ⟨b, off, rfl, hb, hx⟩ := HL.out (by omega)
   obtain ⟨e0, e1, e2⟩ := hx k hlt
   have d0 := (hB.cell (p := ⟨b, _, none⟩) (show b < w.heap.size by omega)).trans e0
   have d1 := (hB.cell (p := ⟨b, _, none⟩) (show b < w.heap.size by omega)).trans e1
   have d2 := (hB.cell (p := ⟨b, _, none⟩) (show b < w.heap.size by omega)).trans e2
   have HSZ := Lib.hid (HS.out k hlt)
   have HN := Lib.hid (brick_names_next L hlt)
   generalize hr : bg L k = r at *
   clear hx hr e0 e1 e2
   go_wp2_with (first
    | (go_at_call 196; (with_reducible refine (brick_name_any r _).mono ?_); rintro e w2 ⟨rfl, hb2⟩; have HB2 := Lib.hid hb2; clear hb2)
    | (at_mapUpdate; refine wpList_mapUpdate_own _ rfl _ _ _ 250 rfl 9 208 keyedN Tryz.underlying250 unitElem w.heap.size k (NameD ((L.take k).map (·.name))) rfl (below_map (HO.out.alloc _) HB2.out) (by unfold maxLen; omega) (.string r.name) (.agg #[]) (.string r.name.data.toList) rfl rfl (keyOf_string_mk Tryz.underlying9 (by have := HSZ.out; unfold maxLen; omega)) (.agg []) [] unitElem_mk ?_; intro w3 hown3 hgrow3; rw [nameD_next, ← HN.out] at hown3; have HO3 := Lib.hid hown3; have HG3 := Lib.hid hgrow3; clear hown3 hgrow3))
   go_roundw
   case rel => exact ⟨k + 1, by omega, by go_num, HO3, twice_grow hB HB2.out HG3.out⟩
   case measure => simp [intOf]; omega
  ·obtain rfl : k = L.length := by omega
   rw [List.take_length] at HO
   obtain ⟨n1, n2⟩ := nameD_size (L.map (·.name))
   rw [List.length_map] at n1 n2
   have HE := Lib.hid n2
   clear n2 hlt
   go_wp2_with (at_len; refine wpList_len_own _ rfl _ 250 rfl 9 208 Tryz.underlying250 unitElem w.heap.size L.length _ rfl HO.out ?_)
   go_ret
   exact ⟨ret_bool HE.out, hB⟩
end Go.Proofs.YtlnodjcmdnmnlaaGreat
