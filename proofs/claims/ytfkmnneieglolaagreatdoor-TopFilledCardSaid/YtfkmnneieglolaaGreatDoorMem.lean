/-
  HOW SLICES LIE IN MEMORY (numbers, bricks).
-/
import Derived.Test.YtfkmnneieglolaaGreatDoorBrickN
import Derived.WalkKit
import Derived.WalkSpells
import Derived.WalkLawsBesides
import Derived.Deep.QuietTactic
import Derived.BigQuiet
import Derived.Lib.Hide
import Derived.Test.YtfkmnneieglolaaGreatDoorRow
import Derived.Test.YtfkmnneieglolaaGreatDoorOwn
import Derived.Maps.AppendAt
import Derived.Shelf.Abstract
import Derived.Deep.AppendLies
import Derived.Deep.RegionLaw
import Derived.Deep.RegionLawGrows
namespace Go.Proofs.YtfkmnneieglolaaGreatDoor
open Go.RowKit Go.Shelf
attribute [local go_sem] Oper.semAt_some
theorem ret_int {k : IntKind} {a b : Int} (h : a = b) : Ending.returned (.int k a) = .returned (.int k b) := by rw [h]
theorem ret_bool {a b : Bool} (h : a = b) : Ending.returned (.bool a) = .returned (.bool b) := by rw [h]
theorem below_drewN {n₀ : Nat} {w w' : World} (h : Below n₀ w w') (n : Nat) : Below n₀ w (w'.drewN n) := h.trans ⟨rfl, rfl, rfl, Nat.le_refl _, fun _ _ => rfl⟩
theorem mono_in {w w' : World} (o : Obj) (h : Below (w.alloc o).heap.size (w.alloc o) w') : Below w.heap.size w w' := ((Below.refl _ _).alloc (Nat.le_refl _) o).trans (h.mono (by simp))
theorem below_new (w : World) (o : Obj) : Below w.heap.size w (w.alloc o) := (Below.refl _ _).alloc (Nat.le_refl _) o
theorem row_addr {w : World} {base n cap size : Nat} {e : TypeId} {a : Option Addr} {xs : List Value} (h : w.ownsRow base e size (.slice a n cap) n xs) (hn : 0 < n) : ∃ g, a = some ⟨g, 0, none⟩ ∧ base ≤ g ∧ g < w.heap.size := by
  rcases h.2 with ⟨e, h0⟩ | ⟨g, cap', cur, e, hb, hg, _⟩
  · omega
  · cases e; exact ⟨g, rfl, hb, (Array.getElem?_eq_some_iff.1 hg).1⟩

/-! ### Slices of int -/

def ig (L : List (Int)) (i : Nat) : Int := (L[i]?).getD 0
theorem ig_eq (L : List (Int)) (i : Nat) (h : i < L.length) : ig L i = L[i] := by unfold ig; rw [List.getElem?_eq_getElem h]; rfl
theorem ig_get {L : List (Int)} {i : Nat} (h : i < L.length) : L[i]? = some (ig L i) := by rw [ig_eq L i h, List.getElem?_eq_getElem h]
theorem ig_ext (F1 F2 : List (Int)) (hl : F1.length = F2.length) (h : ∀ j, j < F1.length → ig F1 j = ig F2 j) : F1 = F2 := by
  refine List.ext_getElem hl fun i h1 h2 => ?_
  have := h i h1
  rwa [ig_eq F1 i h1, ig_eq F2 i h2] at this
theorem ig_old (L : List (Int)) (x : Int) (i : Nat) (h : i < L.length) : ig (L ++ [x]) i = ig L i := by unfold ig; rw [List.getElem?_append_left h]
theorem ig_new (L : List (Int)) (x : Int) : ig (L ++ [x]) L.length = x := by unfold ig; simp
def numV (r : Int) : Value := .int .i64 r
def nflat (L : List (Int)) : List Value := L.flatMap fun r => [.int .i64 r]
theorem nflat_at (L : List (Int)) (i : Nat) (hi : i < L.length) : (nflat L)[i]? = some (.int .i64 (ig L i)) := by
  induction L generalizing i with
  | nil => simp at hi
  | cons x r ih =>
    match i with
    | 0 => exact rfl
    | i + 1 =>
      have := ih i (by simpa using hi)
      have e : nflat (x :: r) = .int .i64 x :: nflat r := rfl
      rw [e, show (i + 1) = i + 1 by omega]
      simpa [ig] using this
theorem nflat_snoc (L : List (Int)) (r : Int) : nflat (L ++ [r]) = nflat L ++ [.int .i64 r] := by simp [nflat]
/-- The elements of a slice at address a are L; they lie in a block below n₀. -/
def Nums (n₀ : Nat) (w : World) (a : Option Addr) (L : List (Int)) : Prop :=
  0 < L.length → ∃ b off, a = some ⟨b, off, none⟩ ∧ b < n₀ ∧ ∀ i, i < L.length → w.cell? ⟨b, off + i, none⟩ = some (.int .i64 (ig L i))
theorem Nums.below {n₀ : Nat} {w w' : World} {a : Option Addr} {L : List (Int)} (h : Nums n₀ w a L) (hb : Below n₀ w w') : Nums n₀ w' a L := fun hl => by
  obtain ⟨b, off, rfl, hlt, hc⟩ := h hl
  refine ⟨b, off, rfl, hlt, fun i hi => ?_⟩
  have c0 := hc i hi
  exact (hb.cell (p := ⟨b, _, none⟩) hlt).trans c0
theorem Nums.mono {n₀ n₁ : Nat} {w : World} {a : Option Addr} {L : List (Int)} (h : Nums n₀ w a L) (hn : n₀ ≤ n₁) : Nums n₁ w a L := fun hl => by
  obtain ⟨b, off, rfl, hlt, hc⟩ := h hl
  exact ⟨b, off, rfl, by omega, hc⟩
theorem Nums.grow {w w' : World} {a : Option Addr} {L : List (Int)} (h : Nums w.heap.size w a L) (hb : Below w.heap.size w w') : Nums w'.heap.size w' a L := (h.below hb).mono hb.size
theorem Nums.nil {n₀ : Nat} {w : World} {a : Option Addr} : Nums n₀ w a [] := fun h => absurd h (Nat.not_lt_zero _)
/-- The first n of them. -/
theorem Nums.take {n₀ : Nat} {w : World} {a : Option Addr} {L : List (Int)} (h : Nums n₀ w a L) (n : Nat) : Nums n₀ w a (L.take n) := fun hl => by
  have hl' : 0 < L.length := by rw [List.length_take] at hl; omega
  obtain ⟨b, off, rfl, hlt, hc⟩ := h hl'
  refine ⟨b, off, rfl, hlt, fun i hi => ?_⟩
  rw [List.length_take] at hi
  have e : ig (L.take n) i = ig L i := by unfold ig; rw [List.getElem?_take, if_pos (by omega)]
  rw [e]
  exact hc i (by omega)
theorem num_len (L : List (Int)) : (nflat L).length = L.length := by
  induction L with
  | nil => rfl
  | cons x r ih =>
    have e : nflat (x :: r) = .int .i64 x :: nflat r := rfl
    rw [e]
    simp only [List.length_cons, ih]
    try omega
theorem num_one (L : List (Int)) : ∀ u ∈ nflat L, u.oneCell' = true := by
  induction L with
  | nil => intro u hu; cases hu
  | cons x r ih =>
    have e : nflat (x :: r) = .int .i64 x :: nflat r := rfl
    rw [e]
    intro u hu
    simp only [List.mem_cons] at hu
    rcases hu with rfl | hu
    · rfl
    · exact ih u hu
/-- A slice of records: its cells, one behind the other. -/
theorem num_cells {n₀ : Nat} {w : World} {b off : Nat} {L : List (Int)} (h : Nums n₀ w (some ⟨b, off, none⟩) L) : ∀ j u, (nflat L)[j]? = some u → w.cell? ((⟨b, off, none⟩ : Addr).add j) = some u := by
  intro j u hj
  have hlt : j < L.length := by
    rw [← num_len]
    exact (List.getElem?_eq_some_iff.1 hj).1
  obtain ⟨b', off', e, _, hc⟩ := h (by omega)
  simp only [Option.some.injEq, Addr.mk.injEq, and_true] at e
  obtain ⟨rfl, rfl⟩ := e
  rw [Go.WideShapes.add_plain]
  have f0 := nflat_at L j hlt
  have c0 := hc j hlt
  rw [f0] at hj; rw [c0]; exact hj
/-- A row of the call's own reads so. -/
theorem num_of_row {w : World} {base : Nat} {v : Value} {L : List (Int)} (h : w.ownsRow base 3 1 v L.length (nflat L)) : ∃ a cap, v = .slice a L.length cap ∧ L.length ≤ cap ∧ cap ≤ maxLen ∧ (a = none → cap = 0) ∧ Nums w.heap.size w a L := by
  rcases h.2 with ⟨rfl, h0⟩ | ⟨g, cap, cur, rfl, hb, hg, h1, h2, _⟩
  · exact ⟨none, 0, by rw [h0], by omega, by unfold maxLen; omega, fun _ => rfl, fun hl => by omega⟩
  · refine ⟨_, cap, rfl, h1, h2, (fun e => by cases e), fun _ => ⟨g, 0, rfl, (Array.getElem?_eq_some_iff.1 hg).1, fun i hi => ?_⟩⟩
    have f0 := nflat_at L i hi
    have c0 := h.cellAt (i) (by omega)
    rw [f0] at c0
    rw [Nat.zero_add]
    exact c0
/-- A closure that asks p of an element, wherever it is called later. -/
def AsksN (g : Nat) (cb : Array Value) (n₀ : Nat) (w : World) (p : Int → Bool) : Prop :=
  ∀ (W : World) (r : Int), Below n₀ w W → Calls Tryz.prog g (#[numV r] ++ cb) W fun e w' => e = .returned (.bool (p r)) ∧ Below W.heap.size W w'
theorem num_asks_mono {g : Nat} {cb : Array Value} {n₀ n₁ : Nat} {w : World} {p : Int → Bool} (h : AsksN g cb n₀ w p) (hn : n₀ ≤ n₁) : AsksN g cb n₁ w p := fun W r hb => h W r (hb.mono hn)
theorem num_asks_below {g : Nat} {cb : Array Value} {n₀ : Nat} {w w' : World} {p : Int → Bool} (h : AsksN g cb n₀ w p) (hb : Below n₀ w w') : AsksN g cb n₀ w' p := fun W r hb' => h W r (hb.trans hb')
/-- The first index at which p holds; -1 if there is none. -/
def num_first (L : List (Int)) (p : Int → Bool) : Int := match (List.range L.length).find? (fun i => p (ig L i)) with
  | some i => i
  | none => -1
theorem num_first_hit (L : List (Int)) (p : Int → Bool) (k : Nat) (hk : k < L.length) (h : p (ig L k) = true) (hn : ∀ j, j < k → p (ig L j) = false) : num_first L p = k := by
  unfold num_first
  have : (List.range L.length).find? (fun i => p (ig L i)) = some k := by
    rw [List.find?_eq_some_iff_getElem]
    refine ⟨by simpa using h, k, by simpa using hk, by simp, fun j hj => ?_⟩
    simpa using hn j hj
  rw [this]
theorem num_first_miss (L : List (Int)) (p : Int → Bool) (hn : ∀ j, j < L.length → p (ig L j) = false) : num_first L p = -1 := by
  unfold num_first
  have : (List.range L.length).find? (fun i => p (ig L i)) = none := by
    rw [List.find?_eq_none]
    intro x hx
    simpa using hn x (by simpa using hx)
  rw [this]
theorem num_first_cases (L : List (Int)) (p : Int → Bool) : (num_first L p = -1 ∧ ∀ j, j < L.length → p (ig L j) = false) ∨ ∃ k : Nat, k < L.length ∧ num_first L p = k ∧ p (ig L k) = true ∧ ∀ j, j < k → p (ig L j) = false := by
  have main : ∀ n, n ≤ L.length → (∀ j, j < n → p (ig L j) = false) ∨ ∃ k, k < n ∧ p (ig L k) = true ∧ ∀ j, j < k → p (ig L j) = false := by
    intro n
    induction n with
    | zero => exact fun _ => .inl fun j hj => absurd hj (Nat.not_lt_zero _)
    | succ n ih =>
      intro hn
      rcases ih (by omega) with h | ⟨k, hk, h1, h2⟩
      · cases e : p (ig L n)
        · refine .inl fun j hj => ?_
          rcases Nat.lt_or_ge j n with l | l
          · exact h j l
          · obtain rfl : j = n := by omega
            exact e
        · exact .inr ⟨n, by omega, e, h⟩
      · exact .inr ⟨k, by omega, h1, h2⟩
  rcases main L.length (Nat.le_refl _) with h | ⟨k, hk, h1, h2⟩
  · exact .inl ⟨num_first_miss L p h, h⟩
  · exact .inr ⟨k, hk, num_first_hit L p k hk h1 h2, h1, h2⟩
def num_any (L : List (Int)) (p : Int → Bool) : Bool := decide (0 ≤ num_first L p)
theorem num_any_eq (L : List (Int)) (p : Int → Bool) : num_any L p = L.any p := by
  unfold num_any
  rw [Bool.eq_iff_iff, List.any_eq_true, decide_eq_true_eq]
  rcases num_first_cases L p with ⟨h, h2⟩ | ⟨k, hk, h, h1, _⟩
  · rw [h]
    refine ⟨fun h => by omega, fun ⟨x, hx, hp⟩ => ?_⟩
    obtain ⟨j, hj, e⟩ := List.getElem_of_mem hx
    have := h2 j hj
    rw [ig_eq L j hj, e, hp] at this
    cases this
  · rw [h]
    exact ⟨fun _ => ⟨_, by rw [ig_eq L k hk]; exact List.getElem_mem hk, h1⟩, fun _ => by omega⟩

/-! ### Slices of api.Brick -/

def bg (L : List (BrickR)) (i : Nat) : BrickR := (L[i]?).getD ⟨⟨#[]⟩, 1, 0⟩
theorem bg_eq (L : List (BrickR)) (i : Nat) (h : i < L.length) : bg L i = L[i] := by unfold bg; rw [List.getElem?_eq_getElem h]; rfl
theorem bg_get {L : List (BrickR)} {i : Nat} (h : i < L.length) : L[i]? = some (bg L i) := by rw [bg_eq L i h, List.getElem?_eq_getElem h]
theorem bg_ext (F1 F2 : List (BrickR)) (hl : F1.length = F2.length) (h : ∀ j, j < F1.length → bg F1 j = bg F2 j) : F1 = F2 := by
  refine List.ext_getElem hl fun i h1 h2 => ?_
  have := h i h1
  rwa [bg_eq F1 i h1, bg_eq F2 i h2] at this
theorem bg_old (L : List (BrickR)) (x : BrickR) (i : Nat) (h : i < L.length) : bg (L ++ [x]) i = bg L i := by unfold bg; rw [List.getElem?_append_left h]
theorem bg_new (L : List (BrickR)) (x : BrickR) : bg (L ++ [x]) L.length = x := by unfold bg; simp
def brickV (r : BrickR) : Value := .agg #[.string r.name, .int .i64 r.weight, .int .i64 r.count]
def kflat (L : List (BrickR)) : List Value := L.flatMap fun r => [.string r.name, .int .i64 r.weight, .int .i64 r.count]
theorem kflat_at (L : List (BrickR)) (i : Nat) (hi : i < L.length) : (kflat L)[i * 3]? = some (.string (bg L i).name) ∧ (kflat L)[i * 3 + 1]? = some (.int .i64 (bg L i).weight) ∧ (kflat L)[i * 3 + 2]? = some (.int .i64 (bg L i).count) := by
  induction L generalizing i with
  | nil => simp at hi
  | cons x r ih =>
    match i with
    | 0 => exact ⟨rfl, rfl, rfl⟩
    | i + 1 =>
      have := ih i (by simpa using hi)
      have e : kflat (x :: r) = .string x.name :: .int .i64 x.weight :: .int .i64 x.count :: kflat r := rfl
      rw [e, show (i + 1) * 3 = i * 3 + 1 + 1 + 1 by omega]
      simpa [bg] using this
theorem kflat_snoc (L : List (BrickR)) (r : BrickR) : kflat (L ++ [r]) = kflat L ++ [.string r.name, .int .i64 r.weight, .int .i64 r.count] := by simp [kflat]
/-- The elements of a slice at address a are L; they lie in a block below n₀. -/
def Bricks (n₀ : Nat) (w : World) (a : Option Addr) (L : List (BrickR)) : Prop :=
  0 < L.length → ∃ b off, a = some ⟨b, off, none⟩ ∧ b < n₀ ∧ ∀ i, i < L.length → w.cell? ⟨b, off + i * 3, none⟩ = some (.string (bg L i).name) ∧ w.cell? ⟨b, off + i * 3 + 1, none⟩ = some (.int .i64 (bg L i).weight) ∧ w.cell? ⟨b, off + i * 3 + 2, none⟩ = some (.int .i64 (bg L i).count)
theorem Bricks.below {n₀ : Nat} {w w' : World} {a : Option Addr} {L : List (BrickR)} (h : Bricks n₀ w a L) (hb : Below n₀ w w') : Bricks n₀ w' a L := fun hl => by
  obtain ⟨b, off, rfl, hlt, hc⟩ := h hl
  refine ⟨b, off, rfl, hlt, fun i hi => ?_⟩
  obtain ⟨c0, c1, c2⟩ := hc i hi
  exact ⟨(hb.cell (p := ⟨b, _, none⟩) hlt).trans c0, (hb.cell (p := ⟨b, _, none⟩) hlt).trans c1, (hb.cell (p := ⟨b, _, none⟩) hlt).trans c2⟩
theorem Bricks.mono {n₀ n₁ : Nat} {w : World} {a : Option Addr} {L : List (BrickR)} (h : Bricks n₀ w a L) (hn : n₀ ≤ n₁) : Bricks n₁ w a L := fun hl => by
  obtain ⟨b, off, rfl, hlt, hc⟩ := h hl
  exact ⟨b, off, rfl, by omega, hc⟩
theorem Bricks.grow {w w' : World} {a : Option Addr} {L : List (BrickR)} (h : Bricks w.heap.size w a L) (hb : Below w.heap.size w w') : Bricks w'.heap.size w' a L := (h.below hb).mono hb.size
theorem Bricks.nil {n₀ : Nat} {w : World} {a : Option Addr} : Bricks n₀ w a [] := fun h => absurd h (Nat.not_lt_zero _)
/-- The first n of them. -/
theorem Bricks.take {n₀ : Nat} {w : World} {a : Option Addr} {L : List (BrickR)} (h : Bricks n₀ w a L) (n : Nat) : Bricks n₀ w a (L.take n) := fun hl => by
  have hl' : 0 < L.length := by rw [List.length_take] at hl; omega
  obtain ⟨b, off, rfl, hlt, hc⟩ := h hl'
  refine ⟨b, off, rfl, hlt, fun i hi => ?_⟩
  rw [List.length_take] at hi
  have e : bg (L.take n) i = bg L i := by unfold bg; rw [List.getElem?_take, if_pos (by omega)]
  rw [e]
  exact hc i (by omega)
theorem brick_len (L : List (BrickR)) : (kflat L).length = L.length * 3 := by
  induction L with
  | nil => rfl
  | cons x r ih =>
    have e : kflat (x :: r) = .string x.name :: .int .i64 x.weight :: .int .i64 x.count :: kflat r := rfl
    rw [e]
    simp only [List.length_cons, ih]
    try omega
theorem brick_one (L : List (BrickR)) : ∀ u ∈ kflat L, u.oneCell' = true := by
  induction L with
  | nil => intro u hu; cases hu
  | cons x r ih =>
    have e : kflat (x :: r) = .string x.name :: .int .i64 x.weight :: .int .i64 x.count :: kflat r := rfl
    rw [e]
    intro u hu
    simp only [List.mem_cons] at hu
    rcases hu with rfl | rfl | rfl | hu
    · rfl
    · rfl
    · rfl
    · exact ih u hu
/-- A slice of records: its cells, one behind the other. -/
theorem brick_cells {n₀ : Nat} {w : World} {b off : Nat} {L : List (BrickR)} (h : Bricks n₀ w (some ⟨b, off, none⟩) L) : ∀ j u, (kflat L)[j]? = some u → w.cell? ((⟨b, off, none⟩ : Addr).add j) = some u := by
  intro j u hj
  have hlt : j < L.length * 3 := by
    rw [← brick_len]
    exact (List.getElem?_eq_some_iff.1 hj).1
  obtain ⟨b', off', e, _, hc⟩ := h (by omega)
  simp only [Option.some.injEq, Addr.mk.injEq, and_true] at e
  obtain ⟨rfl, rfl⟩ := e
  rw [Go.WideShapes.add_plain]
  obtain ⟨f0, f1, f2⟩ := kflat_at L (j / 3) (by omega)
  obtain ⟨c0, c1, c2⟩ := hc (j / 3) (by omega)
  rcases (show j = j / 3 * 3 ∨ j = j / 3 * 3 + 1 ∨ j = j / 3 * 3 + 2 by omega) with e | e | e
  · first | (rw [e, f0] at hj; rw [e, c0]; exact hj) | (rw [e, f0] at hj; rw [e, ← Nat.add_assoc, c0]; exact hj)
  · first | (rw [e, f1] at hj; rw [e, c1]; exact hj) | (rw [e, f1] at hj; rw [e, ← Nat.add_assoc, c1]; exact hj)
  · first | (rw [e, f2] at hj; rw [e, c2]; exact hj) | (rw [e, f2] at hj; rw [e, ← Nat.add_assoc, c2]; exact hj)
/-- A row of the call's own reads so. -/
theorem brick_of_row {w : World} {base : Nat} {v : Value} {L : List (BrickR)} (h : w.ownsRow base 61 3 v L.length (kflat L)) : ∃ a cap, v = .slice a L.length cap ∧ L.length ≤ cap ∧ cap ≤ maxLen ∧ (a = none → cap = 0) ∧ Bricks w.heap.size w a L := by
  rcases h.2 with ⟨rfl, h0⟩ | ⟨g, cap, cur, rfl, hb, hg, h1, h2, _⟩
  · exact ⟨none, 0, by rw [h0], by omega, by unfold maxLen; omega, fun _ => rfl, fun hl => by omega⟩
  · refine ⟨_, cap, rfl, h1, h2, (fun e => by cases e), fun _ => ⟨g, 0, rfl, (Array.getElem?_eq_some_iff.1 hg).1, fun i hi => ?_⟩⟩
    obtain ⟨f0, f1, f2⟩ := kflat_at L i hi
    have c0 := h.cellAt (i * 3) (by omega)
    have c1 := h.cellAt (i * 3 + 1) (by omega)
    have c2 := h.cellAt (i * 3 + 2) (by omega)
    rw [f0] at c0
    rw [f1] at c1
    rw [f2] at c2
    rw [Nat.zero_add]
    exact ⟨c0, c1, c2⟩
/-- A closure that asks p of an element, wherever it is called later. -/
def AsksK (g : Nat) (cb : Array Value) (n₀ : Nat) (w : World) (p : BrickR → Bool) : Prop :=
  ∀ (W : World) (r : BrickR), Below n₀ w W → Calls Tryz.prog g (#[brickV r] ++ cb) W fun e w' => e = .returned (.bool (p r)) ∧ Below W.heap.size W w'
theorem brick_asks_mono {g : Nat} {cb : Array Value} {n₀ n₁ : Nat} {w : World} {p : BrickR → Bool} (h : AsksK g cb n₀ w p) (hn : n₀ ≤ n₁) : AsksK g cb n₁ w p := fun W r hb => h W r (hb.mono hn)
theorem brick_asks_below {g : Nat} {cb : Array Value} {n₀ : Nat} {w w' : World} {p : BrickR → Bool} (h : AsksK g cb n₀ w p) (hb : Below n₀ w w') : AsksK g cb n₀ w' p := fun W r hb' => h W r (hb.trans hb')
/-- The first index at which p holds; -1 if there is none. -/
def brick_first (L : List (BrickR)) (p : BrickR → Bool) : Int := match (List.range L.length).find? (fun i => p (bg L i)) with
  | some i => i
  | none => -1
theorem brick_first_hit (L : List (BrickR)) (p : BrickR → Bool) (k : Nat) (hk : k < L.length) (h : p (bg L k) = true) (hn : ∀ j, j < k → p (bg L j) = false) : brick_first L p = k := by
  unfold brick_first
  have : (List.range L.length).find? (fun i => p (bg L i)) = some k := by
    rw [List.find?_eq_some_iff_getElem]
    refine ⟨by simpa using h, k, by simpa using hk, by simp, fun j hj => ?_⟩
    simpa using hn j hj
  rw [this]
theorem brick_first_miss (L : List (BrickR)) (p : BrickR → Bool) (hn : ∀ j, j < L.length → p (bg L j) = false) : brick_first L p = -1 := by
  unfold brick_first
  have : (List.range L.length).find? (fun i => p (bg L i)) = none := by
    rw [List.find?_eq_none]
    intro x hx
    simpa using hn x (by simpa using hx)
  rw [this]
theorem brick_first_cases (L : List (BrickR)) (p : BrickR → Bool) : (brick_first L p = -1 ∧ ∀ j, j < L.length → p (bg L j) = false) ∨ ∃ k : Nat, k < L.length ∧ brick_first L p = k ∧ p (bg L k) = true ∧ ∀ j, j < k → p (bg L j) = false := by
  have main : ∀ n, n ≤ L.length → (∀ j, j < n → p (bg L j) = false) ∨ ∃ k, k < n ∧ p (bg L k) = true ∧ ∀ j, j < k → p (bg L j) = false := by
    intro n
    induction n with
    | zero => exact fun _ => .inl fun j hj => absurd hj (Nat.not_lt_zero _)
    | succ n ih =>
      intro hn
      rcases ih (by omega) with h | ⟨k, hk, h1, h2⟩
      · cases e : p (bg L n)
        · refine .inl fun j hj => ?_
          rcases Nat.lt_or_ge j n with l | l
          · exact h j l
          · obtain rfl : j = n := by omega
            exact e
        · exact .inr ⟨n, by omega, e, h⟩
      · exact .inr ⟨k, by omega, h1, h2⟩
  rcases main L.length (Nat.le_refl _) with h | ⟨k, hk, h1, h2⟩
  · exact .inl ⟨brick_first_miss L p h, h⟩
  · exact .inr ⟨k, hk, brick_first_hit L p k hk h1 h2, h1, h2⟩
def brick_any (L : List (BrickR)) (p : BrickR → Bool) : Bool := decide (0 ≤ brick_first L p)
theorem brick_any_eq (L : List (BrickR)) (p : BrickR → Bool) : brick_any L p = L.any p := by
  unfold brick_any
  rw [Bool.eq_iff_iff, List.any_eq_true, decide_eq_true_eq]
  rcases brick_first_cases L p with ⟨h, h2⟩ | ⟨k, hk, h, h1, _⟩
  · rw [h]
    refine ⟨fun h => by omega, fun ⟨x, hx, hp⟩ => ?_⟩
    obtain ⟨j, hj, e⟩ := List.getElem_of_mem hx
    have := h2 j hj
    rw [bg_eq L j hj, e, hp] at this
    cases this
  · rw [h]
    exact ⟨fun _ => ⟨_, by rw [bg_eq L k hk]; exact List.getElem_mem hk, h1⟩, fun _ => by omega⟩
end Go.Proofs.YtfkmnneieglolaaGreatDoor
