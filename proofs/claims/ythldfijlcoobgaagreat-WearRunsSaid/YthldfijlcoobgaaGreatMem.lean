/-
  HOW SLICES LIE IN MEMORY (loads, spans, numbers, holds, fractions).
-/
import Derived.Test.YthldfijlcoobgaaGreatRat1
import Derived.WalkKit
import Derived.WalkSpells
import Derived.WalkLawsBesides
import Derived.Deep.QuietTactic
import Derived.BigQuiet
import Derived.Lib.Hide
import Derived.Test.YthldfijlcoobgaaGreatRow
import Derived.Test.YthldfijlcoobgaaGreatOwn
import Derived.Maps.AppendAt
import Derived.Shelf.Abstract
import Derived.Deep.AppendLies
import Derived.Deep.RegionLaw
import Derived.Deep.RegionLawGrows
namespace Go.Proofs.YthldfijlcoobgaaGreat
open Go.RowKit Go.Shelf
attribute [local go_sem] Oper.semAt_some
theorem ret_int {k : IntKind} {a b : Int} (h : a = b) : Ending.returned (.int k a) = .returned (.int k b) := by rw [h]
theorem ret_bool {a b : Bool} (h : a = b) : Ending.returned (.bool a) = .returned (.bool b) := by rw [h]
theorem mono_in {w w' : World} (o : Obj) (h : Below (w.alloc o).heap.size (w.alloc o) w') : Below w.heap.size w w' := ((Below.refl _ _).alloc (Nat.le_refl _) o).trans (h.mono (by simp))
theorem row_addr {w : World} {base n cap size : Nat} {e : TypeId} {a : Option Addr} {xs : List Value} (h : w.ownsRow base e size (.slice a n cap) n xs) (hn : 0 < n) : ∃ g, a = some ⟨g, 0, none⟩ ∧ base ≤ g ∧ g < w.heap.size := by
  rcases h.2 with ⟨e, h0⟩ | ⟨g, cap', cur, e, hb, hg, _⟩
  · omega
  · cases e; exact ⟨g, rfl, hb, (Array.getElem?_eq_some_iff.1 hg).1⟩

/-! ### Slices of api.Load -/

def og (L : List (Int × Int)) (i : Nat) : Int × Int := (L[i]?).getD (0, 0)
theorem og_eq (L : List (Int × Int)) (i : Nat) (h : i < L.length) : og L i = L[i] := by unfold og; rw [List.getElem?_eq_getElem h]; rfl
theorem og_get {L : List (Int × Int)} {i : Nat} (h : i < L.length) : L[i]? = some (og L i) := by rw [og_eq L i h, List.getElem?_eq_getElem h]
theorem og_ext (F1 F2 : List (Int × Int)) (hl : F1.length = F2.length) (h : ∀ j, j < F1.length → og F1 j = og F2 j) : F1 = F2 := by
  refine List.ext_getElem hl fun i h1 h2 => ?_
  have := h i h1
  rwa [og_eq F1 i h1, og_eq F2 i h2] at this
theorem og_old (L : List (Int × Int)) (x : Int × Int) (i : Nat) (h : i < L.length) : og (L ++ [x]) i = og L i := by unfold og; rw [List.getElem?_append_left h]
theorem og_new (L : List (Int × Int)) (x : Int × Int) : og (L ++ [x]) L.length = x := by unfold og; simp
def loadV (r : Int × Int) : Value := .agg #[.int .i64 r.1, .int .i64 r.2]
def oflat (L : List (Int × Int)) : List Value := L.flatMap fun r => [.int .i64 r.1, .int .i64 r.2]
theorem oflat_at (L : List (Int × Int)) (i : Nat) (hi : i < L.length) : (oflat L)[i * 2]? = some (.int .i64 (og L i).1) ∧ (oflat L)[i * 2 + 1]? = some (.int .i64 (og L i).2) := by
  induction L generalizing i with
  | nil => simp at hi
  | cons x r ih =>
    match i with
    | 0 => exact ⟨rfl, rfl⟩
    | i + 1 =>
      have := ih i (by simpa using hi)
      have e : oflat (x :: r) = .int .i64 x.1 :: .int .i64 x.2 :: oflat r := rfl
      rw [e, show (i + 1) * 2 = i * 2 + 1 + 1 by omega]
      simpa [og] using this
theorem oflat_snoc (L : List (Int × Int)) (r : Int × Int) : oflat (L ++ [r]) = oflat L ++ [.int .i64 r.1, .int .i64 r.2] := by simp [oflat]
/-- The elements of a slice at address a are L; they lie in a block below n₀. -/
def Loads (n₀ : Nat) (w : World) (a : Option Addr) (L : List (Int × Int)) : Prop :=
  0 < L.length → ∃ b off, a = some ⟨b, off, none⟩ ∧ b < n₀ ∧ ∀ i, i < L.length → w.cell? ⟨b, off + i * 2, none⟩ = some (.int .i64 (og L i).1) ∧ w.cell? ⟨b, off + i * 2 + 1, none⟩ = some (.int .i64 (og L i).2)
theorem Loads.below {n₀ : Nat} {w w' : World} {a : Option Addr} {L : List (Int × Int)} (h : Loads n₀ w a L) (hb : Below n₀ w w') : Loads n₀ w' a L := fun hl => by
  obtain ⟨b, off, rfl, hlt, hc⟩ := h hl
  refine ⟨b, off, rfl, hlt, fun i hi => ?_⟩
  obtain ⟨c0, c1⟩ := hc i hi
  exact ⟨(hb.cell (p := ⟨b, _, none⟩) hlt).trans c0, (hb.cell (p := ⟨b, _, none⟩) hlt).trans c1⟩
theorem Loads.mono {n₀ n₁ : Nat} {w : World} {a : Option Addr} {L : List (Int × Int)} (h : Loads n₀ w a L) (hn : n₀ ≤ n₁) : Loads n₁ w a L := fun hl => by
  obtain ⟨b, off, rfl, hlt, hc⟩ := h hl
  exact ⟨b, off, rfl, by omega, hc⟩
theorem Loads.grow {w w' : World} {a : Option Addr} {L : List (Int × Int)} (h : Loads w.heap.size w a L) (hb : Below w.heap.size w w') : Loads w'.heap.size w' a L := (h.below hb).mono hb.size
theorem Loads.nil {n₀ : Nat} {w : World} {a : Option Addr} : Loads n₀ w a [] := fun h => absurd h (Nat.not_lt_zero _)
/-- The first n of them. -/
theorem Loads.take {n₀ : Nat} {w : World} {a : Option Addr} {L : List (Int × Int)} (h : Loads n₀ w a L) (n : Nat) : Loads n₀ w a (L.take n) := fun hl => by
  have hl' : 0 < L.length := by rw [List.length_take] at hl; omega
  obtain ⟨b, off, rfl, hlt, hc⟩ := h hl'
  refine ⟨b, off, rfl, hlt, fun i hi => ?_⟩
  rw [List.length_take] at hi
  have e : og (L.take n) i = og L i := by unfold og; rw [List.getElem?_take, if_pos (by omega)]
  rw [e]
  exact hc i (by omega)
theorem load_len (L : List (Int × Int)) : (oflat L).length = L.length * 2 := by
  induction L with
  | nil => rfl
  | cons x r ih =>
    have e : oflat (x :: r) = .int .i64 x.1 :: .int .i64 x.2 :: oflat r := rfl
    rw [e]
    simp only [List.length_cons, ih]
    try omega
theorem load_one (L : List (Int × Int)) : ∀ u ∈ oflat L, u.oneCell' = true := by
  induction L with
  | nil => intro u hu; cases hu
  | cons x r ih =>
    have e : oflat (x :: r) = .int .i64 x.1 :: .int .i64 x.2 :: oflat r := rfl
    rw [e]
    intro u hu
    simp only [List.mem_cons] at hu
    rcases hu with rfl | rfl | hu
    · rfl
    · rfl
    · exact ih u hu
/-- A slice of records: its cells, one behind the other. -/
theorem load_cells {n₀ : Nat} {w : World} {b off : Nat} {L : List (Int × Int)} (h : Loads n₀ w (some ⟨b, off, none⟩) L) : ∀ j u, (oflat L)[j]? = some u → w.cell? ((⟨b, off, none⟩ : Addr).add j) = some u := by
  intro j u hj
  have hlt : j < L.length * 2 := by
    rw [← load_len]
    exact (List.getElem?_eq_some_iff.1 hj).1
  obtain ⟨b', off', e, _, hc⟩ := h (by omega)
  simp only [Option.some.injEq, Addr.mk.injEq, and_true] at e
  obtain ⟨rfl, rfl⟩ := e
  rw [Go.WideShapes.add_plain]
  obtain ⟨f0, f1⟩ := oflat_at L (j / 2) (by omega)
  obtain ⟨c0, c1⟩ := hc (j / 2) (by omega)
  rcases (show j = j / 2 * 2 ∨ j = j / 2 * 2 + 1 by omega) with e | e
  · first | (rw [e, f0] at hj; rw [e, c0]; exact hj) | (rw [e, f0] at hj; rw [e, ← Nat.add_assoc, c0]; exact hj)
  · first | (rw [e, f1] at hj; rw [e, c1]; exact hj) | (rw [e, f1] at hj; rw [e, ← Nat.add_assoc, c1]; exact hj)
/-- A row of the call's own reads so. -/
theorem load_of_row {w : World} {base : Nat} {v : Value} {L : List (Int × Int)} (h : w.ownsRow base 55 2 v L.length (oflat L)) : ∃ a cap, v = .slice a L.length cap ∧ L.length ≤ cap ∧ cap ≤ maxLen ∧ (a = none → cap = 0) ∧ Loads w.heap.size w a L := by
  rcases h.2 with ⟨rfl, h0⟩ | ⟨g, cap, cur, rfl, hb, hg, h1, h2, _⟩
  · exact ⟨none, 0, by rw [h0], by omega, by unfold maxLen; omega, fun _ => rfl, fun hl => by omega⟩
  · refine ⟨_, cap, rfl, h1, h2, (fun e => by cases e), fun _ => ⟨g, 0, rfl, (Array.getElem?_eq_some_iff.1 hg).1, fun i hi => ?_⟩⟩
    obtain ⟨f0, f1⟩ := oflat_at L i hi
    have c0 := h.cellAt (i * 2) (by omega)
    have c1 := h.cellAt (i * 2 + 1) (by omega)
    rw [f0] at c0
    rw [f1] at c1
    rw [Nat.zero_add]
    exact ⟨c0, c1⟩
/-- A closure that asks p of an element, wherever it is called later. -/
def AsksO (g : Nat) (cb : Array Value) (n₀ : Nat) (w : World) (p : Int × Int → Bool) : Prop :=
  ∀ (W : World) (r : Int × Int), Below n₀ w W → Calls Tryz.prog g (#[loadV r] ++ cb) W fun e w' => e = .returned (.bool (p r)) ∧ Below W.heap.size W w'
theorem load_asks_mono {g : Nat} {cb : Array Value} {n₀ n₁ : Nat} {w : World} {p : Int × Int → Bool} (h : AsksO g cb n₀ w p) (hn : n₀ ≤ n₁) : AsksO g cb n₁ w p := fun W r hb => h W r (hb.mono hn)
theorem load_asks_below {g : Nat} {cb : Array Value} {n₀ : Nat} {w w' : World} {p : Int × Int → Bool} (h : AsksO g cb n₀ w p) (hb : Below n₀ w w') : AsksO g cb n₀ w' p := fun W r hb' => h W r (hb.trans hb')
/-- The first index at which p holds; -1 if there is none. -/
def load_first (L : List (Int × Int)) (p : Int × Int → Bool) : Int := match (List.range L.length).find? (fun i => p (og L i)) with
  | some i => i
  | none => -1
theorem load_first_hit (L : List (Int × Int)) (p : Int × Int → Bool) (k : Nat) (hk : k < L.length) (h : p (og L k) = true) (hn : ∀ j, j < k → p (og L j) = false) : load_first L p = k := by
  unfold load_first
  have : (List.range L.length).find? (fun i => p (og L i)) = some k := by
    rw [List.find?_eq_some_iff_getElem]
    refine ⟨by simpa using h, k, by simpa using hk, by simp, fun j hj => ?_⟩
    simpa using hn j hj
  rw [this]
theorem load_first_miss (L : List (Int × Int)) (p : Int × Int → Bool) (hn : ∀ j, j < L.length → p (og L j) = false) : load_first L p = -1 := by
  unfold load_first
  have : (List.range L.length).find? (fun i => p (og L i)) = none := by
    rw [List.find?_eq_none]
    intro x hx
    simpa using hn x (by simpa using hx)
  rw [this]
theorem load_first_cases (L : List (Int × Int)) (p : Int × Int → Bool) : (load_first L p = -1 ∧ ∀ j, j < L.length → p (og L j) = false) ∨ ∃ k : Nat, k < L.length ∧ load_first L p = k ∧ p (og L k) = true ∧ ∀ j, j < k → p (og L j) = false := by
  have main : ∀ n, n ≤ L.length → (∀ j, j < n → p (og L j) = false) ∨ ∃ k, k < n ∧ p (og L k) = true ∧ ∀ j, j < k → p (og L j) = false := by
    intro n
    induction n with
    | zero => exact fun _ => .inl fun j hj => absurd hj (Nat.not_lt_zero _)
    | succ n ih =>
      intro hn
      rcases ih (by omega) with h | ⟨k, hk, h1, h2⟩
      · cases e : p (og L n)
        · refine .inl fun j hj => ?_
          rcases Nat.lt_or_ge j n with l | l
          · exact h j l
          · obtain rfl : j = n := by omega
            exact e
        · exact .inr ⟨n, by omega, e, h⟩
      · exact .inr ⟨k, by omega, h1, h2⟩
  rcases main L.length (Nat.le_refl _) with h | ⟨k, hk, h1, h2⟩
  · exact .inl ⟨load_first_miss L p h, h⟩
  · exact .inr ⟨k, hk, load_first_hit L p k hk h1 h2, h1, h2⟩
def load_any (L : List (Int × Int)) (p : Int × Int → Bool) : Bool := decide (0 ≤ load_first L p)
theorem load_any_eq (L : List (Int × Int)) (p : Int × Int → Bool) : load_any L p = L.any p := by
  unfold load_any
  rw [Bool.eq_iff_iff, List.any_eq_true, decide_eq_true_eq]
  rcases load_first_cases L p with ⟨h, h2⟩ | ⟨k, hk, h, h1, _⟩
  · rw [h]
    refine ⟨fun h => by omega, fun ⟨x, hx, hp⟩ => ?_⟩
    obtain ⟨j, hj, e⟩ := List.getElem_of_mem hx
    have := h2 j hj
    rw [og_eq L j hj, e, hp] at this
    cases this
  · rw [h]
    exact ⟨fun _ => ⟨_, by rw [og_eq L k hk]; exact List.getElem_mem hk, h1⟩, fun _ => by omega⟩

/-! ### Slices of api.Span -/

def sg (L : List (Int × Int)) (i : Nat) : Int × Int := (L[i]?).getD (0, 0)
theorem sg_eq (L : List (Int × Int)) (i : Nat) (h : i < L.length) : sg L i = L[i] := by unfold sg; rw [List.getElem?_eq_getElem h]; rfl
theorem sg_get {L : List (Int × Int)} {i : Nat} (h : i < L.length) : L[i]? = some (sg L i) := by rw [sg_eq L i h, List.getElem?_eq_getElem h]
theorem sg_ext (F1 F2 : List (Int × Int)) (hl : F1.length = F2.length) (h : ∀ j, j < F1.length → sg F1 j = sg F2 j) : F1 = F2 := by
  refine List.ext_getElem hl fun i h1 h2 => ?_
  have := h i h1
  rwa [sg_eq F1 i h1, sg_eq F2 i h2] at this
theorem sg_old (L : List (Int × Int)) (x : Int × Int) (i : Nat) (h : i < L.length) : sg (L ++ [x]) i = sg L i := by unfold sg; rw [List.getElem?_append_left h]
theorem sg_new (L : List (Int × Int)) (x : Int × Int) : sg (L ++ [x]) L.length = x := by unfold sg; simp
def spanV (r : Int × Int) : Value := .agg #[.int .i64 r.1, .int .i64 r.2]
def sflat (L : List (Int × Int)) : List Value := L.flatMap fun r => [.int .i64 r.1, .int .i64 r.2]
theorem sflat_at (L : List (Int × Int)) (i : Nat) (hi : i < L.length) : (sflat L)[i * 2]? = some (.int .i64 (sg L i).1) ∧ (sflat L)[i * 2 + 1]? = some (.int .i64 (sg L i).2) := by
  induction L generalizing i with
  | nil => simp at hi
  | cons x r ih =>
    match i with
    | 0 => exact ⟨rfl, rfl⟩
    | i + 1 =>
      have := ih i (by simpa using hi)
      have e : sflat (x :: r) = .int .i64 x.1 :: .int .i64 x.2 :: sflat r := rfl
      rw [e, show (i + 1) * 2 = i * 2 + 1 + 1 by omega]
      simpa [sg] using this
theorem sflat_snoc (L : List (Int × Int)) (r : Int × Int) : sflat (L ++ [r]) = sflat L ++ [.int .i64 r.1, .int .i64 r.2] := by simp [sflat]
/-- The elements of a slice at address a are L; they lie in a block below n₀. -/
def Spans (n₀ : Nat) (w : World) (a : Option Addr) (L : List (Int × Int)) : Prop :=
  0 < L.length → ∃ b off, a = some ⟨b, off, none⟩ ∧ b < n₀ ∧ ∀ i, i < L.length → w.cell? ⟨b, off + i * 2, none⟩ = some (.int .i64 (sg L i).1) ∧ w.cell? ⟨b, off + i * 2 + 1, none⟩ = some (.int .i64 (sg L i).2)
theorem Spans.below {n₀ : Nat} {w w' : World} {a : Option Addr} {L : List (Int × Int)} (h : Spans n₀ w a L) (hb : Below n₀ w w') : Spans n₀ w' a L := fun hl => by
  obtain ⟨b, off, rfl, hlt, hc⟩ := h hl
  refine ⟨b, off, rfl, hlt, fun i hi => ?_⟩
  obtain ⟨c0, c1⟩ := hc i hi
  exact ⟨(hb.cell (p := ⟨b, _, none⟩) hlt).trans c0, (hb.cell (p := ⟨b, _, none⟩) hlt).trans c1⟩
theorem Spans.mono {n₀ n₁ : Nat} {w : World} {a : Option Addr} {L : List (Int × Int)} (h : Spans n₀ w a L) (hn : n₀ ≤ n₁) : Spans n₁ w a L := fun hl => by
  obtain ⟨b, off, rfl, hlt, hc⟩ := h hl
  exact ⟨b, off, rfl, by omega, hc⟩
theorem Spans.grow {w w' : World} {a : Option Addr} {L : List (Int × Int)} (h : Spans w.heap.size w a L) (hb : Below w.heap.size w w') : Spans w'.heap.size w' a L := (h.below hb).mono hb.size
theorem Spans.nil {n₀ : Nat} {w : World} {a : Option Addr} : Spans n₀ w a [] := fun h => absurd h (Nat.not_lt_zero _)
/-- The first n of them. -/
theorem Spans.take {n₀ : Nat} {w : World} {a : Option Addr} {L : List (Int × Int)} (h : Spans n₀ w a L) (n : Nat) : Spans n₀ w a (L.take n) := fun hl => by
  have hl' : 0 < L.length := by rw [List.length_take] at hl; omega
  obtain ⟨b, off, rfl, hlt, hc⟩ := h hl'
  refine ⟨b, off, rfl, hlt, fun i hi => ?_⟩
  rw [List.length_take] at hi
  have e : sg (L.take n) i = sg L i := by unfold sg; rw [List.getElem?_take, if_pos (by omega)]
  rw [e]
  exact hc i (by omega)
theorem span_len (L : List (Int × Int)) : (sflat L).length = L.length * 2 := by
  induction L with
  | nil => rfl
  | cons x r ih =>
    have e : sflat (x :: r) = .int .i64 x.1 :: .int .i64 x.2 :: sflat r := rfl
    rw [e]
    simp only [List.length_cons, ih]
    try omega
theorem span_one (L : List (Int × Int)) : ∀ u ∈ sflat L, u.oneCell' = true := by
  induction L with
  | nil => intro u hu; cases hu
  | cons x r ih =>
    have e : sflat (x :: r) = .int .i64 x.1 :: .int .i64 x.2 :: sflat r := rfl
    rw [e]
    intro u hu
    simp only [List.mem_cons] at hu
    rcases hu with rfl | rfl | hu
    · rfl
    · rfl
    · exact ih u hu
/-- A slice of records: its cells, one behind the other. -/
theorem span_cells {n₀ : Nat} {w : World} {b off : Nat} {L : List (Int × Int)} (h : Spans n₀ w (some ⟨b, off, none⟩) L) : ∀ j u, (sflat L)[j]? = some u → w.cell? ((⟨b, off, none⟩ : Addr).add j) = some u := by
  intro j u hj
  have hlt : j < L.length * 2 := by
    rw [← span_len]
    exact (List.getElem?_eq_some_iff.1 hj).1
  obtain ⟨b', off', e, _, hc⟩ := h (by omega)
  simp only [Option.some.injEq, Addr.mk.injEq, and_true] at e
  obtain ⟨rfl, rfl⟩ := e
  rw [Go.WideShapes.add_plain]
  obtain ⟨f0, f1⟩ := sflat_at L (j / 2) (by omega)
  obtain ⟨c0, c1⟩ := hc (j / 2) (by omega)
  rcases (show j = j / 2 * 2 ∨ j = j / 2 * 2 + 1 by omega) with e | e
  · first | (rw [e, f0] at hj; rw [e, c0]; exact hj) | (rw [e, f0] at hj; rw [e, ← Nat.add_assoc, c0]; exact hj)
  · first | (rw [e, f1] at hj; rw [e, c1]; exact hj) | (rw [e, f1] at hj; rw [e, ← Nat.add_assoc, c1]; exact hj)
/-- A row of the call's own reads so. -/
theorem span_of_row {w : World} {base : Nat} {v : Value} {L : List (Int × Int)} (h : w.ownsRow base 50 2 v L.length (sflat L)) : ∃ a cap, v = .slice a L.length cap ∧ L.length ≤ cap ∧ cap ≤ maxLen ∧ (a = none → cap = 0) ∧ Spans w.heap.size w a L := by
  rcases h.2 with ⟨rfl, h0⟩ | ⟨g, cap, cur, rfl, hb, hg, h1, h2, _⟩
  · exact ⟨none, 0, by rw [h0], by omega, by unfold maxLen; omega, fun _ => rfl, fun hl => by omega⟩
  · refine ⟨_, cap, rfl, h1, h2, (fun e => by cases e), fun _ => ⟨g, 0, rfl, (Array.getElem?_eq_some_iff.1 hg).1, fun i hi => ?_⟩⟩
    obtain ⟨f0, f1⟩ := sflat_at L i hi
    have c0 := h.cellAt (i * 2) (by omega)
    have c1 := h.cellAt (i * 2 + 1) (by omega)
    rw [f0] at c0
    rw [f1] at c1
    rw [Nat.zero_add]
    exact ⟨c0, c1⟩
/-- A closure that asks p of an element, wherever it is called later. -/
def AsksS (g : Nat) (cb : Array Value) (n₀ : Nat) (w : World) (p : Int × Int → Bool) : Prop :=
  ∀ (W : World) (r : Int × Int), Below n₀ w W → Calls Tryz.prog g (#[spanV r] ++ cb) W fun e w' => e = .returned (.bool (p r)) ∧ Below W.heap.size W w'
theorem span_asks_mono {g : Nat} {cb : Array Value} {n₀ n₁ : Nat} {w : World} {p : Int × Int → Bool} (h : AsksS g cb n₀ w p) (hn : n₀ ≤ n₁) : AsksS g cb n₁ w p := fun W r hb => h W r (hb.mono hn)
theorem span_asks_below {g : Nat} {cb : Array Value} {n₀ : Nat} {w w' : World} {p : Int × Int → Bool} (h : AsksS g cb n₀ w p) (hb : Below n₀ w w') : AsksS g cb n₀ w' p := fun W r hb' => h W r (hb.trans hb')
/-- The first index at which p holds; -1 if there is none. -/
def span_first (L : List (Int × Int)) (p : Int × Int → Bool) : Int := match (List.range L.length).find? (fun i => p (sg L i)) with
  | some i => i
  | none => -1
theorem span_first_hit (L : List (Int × Int)) (p : Int × Int → Bool) (k : Nat) (hk : k < L.length) (h : p (sg L k) = true) (hn : ∀ j, j < k → p (sg L j) = false) : span_first L p = k := by
  unfold span_first
  have : (List.range L.length).find? (fun i => p (sg L i)) = some k := by
    rw [List.find?_eq_some_iff_getElem]
    refine ⟨by simpa using h, k, by simpa using hk, by simp, fun j hj => ?_⟩
    simpa using hn j hj
  rw [this]
theorem span_first_miss (L : List (Int × Int)) (p : Int × Int → Bool) (hn : ∀ j, j < L.length → p (sg L j) = false) : span_first L p = -1 := by
  unfold span_first
  have : (List.range L.length).find? (fun i => p (sg L i)) = none := by
    rw [List.find?_eq_none]
    intro x hx
    simpa using hn x (by simpa using hx)
  rw [this]
theorem span_first_cases (L : List (Int × Int)) (p : Int × Int → Bool) : (span_first L p = -1 ∧ ∀ j, j < L.length → p (sg L j) = false) ∨ ∃ k : Nat, k < L.length ∧ span_first L p = k ∧ p (sg L k) = true ∧ ∀ j, j < k → p (sg L j) = false := by
  have main : ∀ n, n ≤ L.length → (∀ j, j < n → p (sg L j) = false) ∨ ∃ k, k < n ∧ p (sg L k) = true ∧ ∀ j, j < k → p (sg L j) = false := by
    intro n
    induction n with
    | zero => exact fun _ => .inl fun j hj => absurd hj (Nat.not_lt_zero _)
    | succ n ih =>
      intro hn
      rcases ih (by omega) with h | ⟨k, hk, h1, h2⟩
      · cases e : p (sg L n)
        · refine .inl fun j hj => ?_
          rcases Nat.lt_or_ge j n with l | l
          · exact h j l
          · obtain rfl : j = n := by omega
            exact e
        · exact .inr ⟨n, by omega, e, h⟩
      · exact .inr ⟨k, by omega, h1, h2⟩
  rcases main L.length (Nat.le_refl _) with h | ⟨k, hk, h1, h2⟩
  · exact .inl ⟨span_first_miss L p h, h⟩
  · exact .inr ⟨k, hk, span_first_hit L p k hk h1 h2, h1, h2⟩
def span_any (L : List (Int × Int)) (p : Int × Int → Bool) : Bool := decide (0 ≤ span_first L p)
theorem span_any_eq (L : List (Int × Int)) (p : Int × Int → Bool) : span_any L p = L.any p := by
  unfold span_any
  rw [Bool.eq_iff_iff, List.any_eq_true, decide_eq_true_eq]
  rcases span_first_cases L p with ⟨h, h2⟩ | ⟨k, hk, h, h1, _⟩
  · rw [h]
    refine ⟨fun h => by omega, fun ⟨x, hx, hp⟩ => ?_⟩
    obtain ⟨j, hj, e⟩ := List.getElem_of_mem hx
    have := h2 j hj
    rw [sg_eq L j hj, e, hp] at this
    cases this
  · rw [h]
    exact ⟨fun _ => ⟨_, by rw [sg_eq L k hk]; exact List.getElem_mem hk, h1⟩, fun _ => by omega⟩

/-! ### Slices of int -/

def ig (L : List (Int)) (i : Nat) : Int := (L[i]?).getD 0
theorem ig_eq (L : List (Int)) (i : Nat) (h : i < L.length) : ig L i = L[i] := by unfold ig; rw [List.getElem?_eq_getElem h]; rfl
theorem ig_get {L : List (Int)} {i : Nat} (h : i < L.length) : L[i]? = some (ig L i) := by rw [ig_eq L i h, List.getElem?_eq_getElem h]
theorem ig_ext (F1 F2 : List (Int)) (hl : F1.length = F2.length) (h : ∀ j, j < F1.length → ig F1 j = ig F2 j) : F1 = F2 := by
  refine List.ext_getElem hl fun i h1 h2 => ?_
  have := h i h1
  rwa [ig_eq F1 i h1, ig_eq F2 i h2] at this
theorem ig_old (L : List (Int)) (x : Int) (i : Nat) (h : i < L.length) : ig (L ++ [x]) i = ig L i := by unfold ig; rw [List.getElem?_append_left h]
theorem ig_new (L : List (Int)) (x : Int) : ig (L ++ [x]) L.length = x := by unfold ig; simp
def numV (r : Int) : Value := .int .i64 r
def nflat (L : List (Int)) : List Value := L.flatMap fun r => [.int .i64 r]
theorem nflat_at (L : List (Int)) (i : Nat) (hi : i < L.length) : (nflat L)[i]? = some (.int .i64 (ig L i)) := by
  induction L generalizing i with
  | nil => simp at hi
  | cons x r ih =>
    match i with
    | 0 => exact rfl
    | i + 1 =>
      have := ih i (by simpa using hi)
      have e : nflat (x :: r) = .int .i64 x :: nflat r := rfl
      rw [e, show (i + 1) = i + 1 by omega]
      simpa [ig] using this
theorem nflat_snoc (L : List (Int)) (r : Int) : nflat (L ++ [r]) = nflat L ++ [.int .i64 r] := by simp [nflat]
/-- The elements of a slice at address a are L; they lie in a block below n₀. -/
def Nums (n₀ : Nat) (w : World) (a : Option Addr) (L : List (Int)) : Prop :=
  0 < L.length → ∃ b off, a = some ⟨b, off, none⟩ ∧ b < n₀ ∧ ∀ i, i < L.length → w.cell? ⟨b, off + i, none⟩ = some (.int .i64 (ig L i))
theorem Nums.below {n₀ : Nat} {w w' : World} {a : Option Addr} {L : List (Int)} (h : Nums n₀ w a L) (hb : Below n₀ w w') : Nums n₀ w' a L := fun hl => by
  obtain ⟨b, off, rfl, hlt, hc⟩ := h hl
  refine ⟨b, off, rfl, hlt, fun i hi => ?_⟩
  have c0 := hc i hi
  exact (hb.cell (p := ⟨b, _, none⟩) hlt).trans c0
theorem Nums.mono {n₀ n₁ : Nat} {w : World} {a : Option Addr} {L : List (Int)} (h : Nums n₀ w a L) (hn : n₀ ≤ n₁) : Nums n₁ w a L := fun hl => by
  obtain ⟨b, off, rfl, hlt, hc⟩ := h hl
  exact ⟨b, off, rfl, by omega, hc⟩
theorem Nums.grow {w w' : World} {a : Option Addr} {L : List (Int)} (h : Nums w.heap.size w a L) (hb : Below w.heap.size w w') : Nums w'.heap.size w' a L := (h.below hb).mono hb.size
theorem Nums.nil {n₀ : Nat} {w : World} {a : Option Addr} : Nums n₀ w a [] := fun h => absurd h (Nat.not_lt_zero _)
/-- The first n of them. -/
theorem Nums.take {n₀ : Nat} {w : World} {a : Option Addr} {L : List (Int)} (h : Nums n₀ w a L) (n : Nat) : Nums n₀ w a (L.take n) := fun hl => by
  have hl' : 0 < L.length := by rw [List.length_take] at hl; omega
  obtain ⟨b, off, rfl, hlt, hc⟩ := h hl'
  refine ⟨b, off, rfl, hlt, fun i hi => ?_⟩
  rw [List.length_take] at hi
  have e : ig (L.take n) i = ig L i := by unfold ig; rw [List.getElem?_take, if_pos (by omega)]
  rw [e]
  exact hc i (by omega)
theorem num_len (L : List (Int)) : (nflat L).length = L.length := by
  induction L with
  | nil => rfl
  | cons x r ih =>
    have e : nflat (x :: r) = .int .i64 x :: nflat r := rfl
    rw [e]
    simp only [List.length_cons, ih]
    try omega
theorem num_one (L : List (Int)) : ∀ u ∈ nflat L, u.oneCell' = true := by
  induction L with
  | nil => intro u hu; cases hu
  | cons x r ih =>
    have e : nflat (x :: r) = .int .i64 x :: nflat r := rfl
    rw [e]
    intro u hu
    simp only [List.mem_cons] at hu
    rcases hu with rfl | hu
    · rfl
    · exact ih u hu
/-- A slice of records: its cells, one behind the other. -/
theorem num_cells {n₀ : Nat} {w : World} {b off : Nat} {L : List (Int)} (h : Nums n₀ w (some ⟨b, off, none⟩) L) : ∀ j u, (nflat L)[j]? = some u → w.cell? ((⟨b, off, none⟩ : Addr).add j) = some u := by
  intro j u hj
  have hlt : j < L.length := by
    rw [← num_len]
    exact (List.getElem?_eq_some_iff.1 hj).1
  obtain ⟨b', off', e, _, hc⟩ := h (by omega)
  simp only [Option.some.injEq, Addr.mk.injEq, and_true] at e
  obtain ⟨rfl, rfl⟩ := e
  rw [Go.WideShapes.add_plain]
  have f0 := nflat_at L j hlt
  have c0 := hc j hlt
  rw [f0] at hj; rw [c0]; exact hj
/-- A row of the call's own reads so. -/
theorem num_of_row {w : World} {base : Nat} {v : Value} {L : List (Int)} (h : w.ownsRow base 3 1 v L.length (nflat L)) : ∃ a cap, v = .slice a L.length cap ∧ L.length ≤ cap ∧ cap ≤ maxLen ∧ (a = none → cap = 0) ∧ Nums w.heap.size w a L := by
  rcases h.2 with ⟨rfl, h0⟩ | ⟨g, cap, cur, rfl, hb, hg, h1, h2, _⟩
  · exact ⟨none, 0, by rw [h0], by omega, by unfold maxLen; omega, fun _ => rfl, fun hl => by omega⟩
  · refine ⟨_, cap, rfl, h1, h2, (fun e => by cases e), fun _ => ⟨g, 0, rfl, (Array.getElem?_eq_some_iff.1 hg).1, fun i hi => ?_⟩⟩
    have f0 := nflat_at L i hi
    have c0 := h.cellAt (i) (by omega)
    rw [f0] at c0
    rw [Nat.zero_add]
    exact c0
/-- A closure that asks p of an element, wherever it is called later. -/
def AsksN (g : Nat) (cb : Array Value) (n₀ : Nat) (w : World) (p : Int → Bool) : Prop :=
  ∀ (W : World) (r : Int), Below n₀ w W → Calls Tryz.prog g (#[numV r] ++ cb) W fun e w' => e = .returned (.bool (p r)) ∧ Below W.heap.size W w'
theorem num_asks_mono {g : Nat} {cb : Array Value} {n₀ n₁ : Nat} {w : World} {p : Int → Bool} (h : AsksN g cb n₀ w p) (hn : n₀ ≤ n₁) : AsksN g cb n₁ w p := fun W r hb => h W r (hb.mono hn)
theorem num_asks_below {g : Nat} {cb : Array Value} {n₀ : Nat} {w w' : World} {p : Int → Bool} (h : AsksN g cb n₀ w p) (hb : Below n₀ w w') : AsksN g cb n₀ w' p := fun W r hb' => h W r (hb.trans hb')
/-- The first index at which p holds; -1 if there is none. -/
def num_first (L : List (Int)) (p : Int → Bool) : Int := match (List.range L.length).find? (fun i => p (ig L i)) with
  | some i => i
  | none => -1
theorem num_first_hit (L : List (Int)) (p : Int → Bool) (k : Nat) (hk : k < L.length) (h : p (ig L k) = true) (hn : ∀ j, j < k → p (ig L j) = false) : num_first L p = k := by
  unfold num_first
  have : (List.range L.length).find? (fun i => p (ig L i)) = some k := by
    rw [List.find?_eq_some_iff_getElem]
    refine ⟨by simpa using h, k, by simpa using hk, by simp, fun j hj => ?_⟩
    simpa using hn j hj
  rw [this]
theorem num_first_miss (L : List (Int)) (p : Int → Bool) (hn : ∀ j, j < L.length → p (ig L j) = false) : num_first L p = -1 := by
  unfold num_first
  have : (List.range L.length).find? (fun i => p (ig L i)) = none := by
    rw [List.find?_eq_none]
    intro x hx
    simpa using hn x (by simpa using hx)
  rw [this]
theorem num_first_cases (L : List (Int)) (p : Int → Bool) : (num_first L p = -1 ∧ ∀ j, j < L.length → p (ig L j) = false) ∨ ∃ k : Nat, k < L.length ∧ num_first L p = k ∧ p (ig L k) = true ∧ ∀ j, j < k → p (ig L j) = false := by
  have main : ∀ n, n ≤ L.length → (∀ j, j < n → p (ig L j) = false) ∨ ∃ k, k < n ∧ p (ig L k) = true ∧ ∀ j, j < k → p (ig L j) = false := by
    intro n
    induction n with
    | zero => exact fun _ => .inl fun j hj => absurd hj (Nat.not_lt_zero _)
    | succ n ih =>
      intro hn
      rcases ih (by omega) with h | ⟨k, hk, h1, h2⟩
      · cases e : p (ig L n)
        · refine .inl fun j hj => ?_
          rcases Nat.lt_or_ge j n with l | l
          · exact h j l
          · obtain rfl : j = n := by omega
            exact e
        · exact .inr ⟨n, by omega, e, h⟩
      · exact .inr ⟨k, by omega, h1, h2⟩
  rcases main L.length (Nat.le_refl _) with h | ⟨k, hk, h1, h2⟩
  · exact .inl ⟨num_first_miss L p h, h⟩
  · exact .inr ⟨k, hk, num_first_hit L p k hk h1 h2, h1, h2⟩
def num_any (L : List (Int)) (p : Int → Bool) : Bool := decide (0 ≤ num_first L p)
theorem num_any_eq (L : List (Int)) (p : Int → Bool) : num_any L p = L.any p := by
  unfold num_any
  rw [Bool.eq_iff_iff, List.any_eq_true, decide_eq_true_eq]
  rcases num_first_cases L p with ⟨h, h2⟩ | ⟨k, hk, h, h1, _⟩
  · rw [h]
    refine ⟨fun h => by omega, fun ⟨x, hx, hp⟩ => ?_⟩
    obtain ⟨j, hj, e⟩ := List.getElem_of_mem hx
    have := h2 j hj
    rw [ig_eq L j hj, e, hp] at this
    cases this
  · rw [h]
    exact ⟨fun _ => ⟨_, by rw [ig_eq L k hk]; exact List.getElem_mem hk, h1⟩, fun _ => by omega⟩

/-! ### Slices of api.Hold -/
structure HoldR where
  block : ByteArray
  pulls : Int
  ln : Int
  ld : Int

def hg (L : List (HoldR)) (i : Nat) : HoldR := (L[i]?).getD ⟨⟨#[]⟩, 0, 0, 1⟩
theorem hg_eq (L : List (HoldR)) (i : Nat) (h : i < L.length) : hg L i = L[i] := by unfold hg; rw [List.getElem?_eq_getElem h]; rfl
theorem hg_get {L : List (HoldR)} {i : Nat} (h : i < L.length) : L[i]? = some (hg L i) := by rw [hg_eq L i h, List.getElem?_eq_getElem h]
theorem hg_ext (F1 F2 : List (HoldR)) (hl : F1.length = F2.length) (h : ∀ j, j < F1.length → hg F1 j = hg F2 j) : F1 = F2 := by
  refine List.ext_getElem hl fun i h1 h2 => ?_
  have := h i h1
  rwa [hg_eq F1 i h1, hg_eq F2 i h2] at this
theorem hg_old (L : List (HoldR)) (x : HoldR) (i : Nat) (h : i < L.length) : hg (L ++ [x]) i = hg L i := by unfold hg; rw [List.getElem?_append_left h]
theorem hg_new (L : List (HoldR)) (x : HoldR) : hg (L ++ [x]) L.length = x := by unfold hg; simp
def holdV (r : HoldR) : Value := .agg #[.string r.block, .int .i64 r.pulls, .int .i64 r.ln, .int .i64 r.ld]
def hflat (L : List (HoldR)) : List Value := L.flatMap fun r => [.string r.block, .int .i64 r.pulls, .int .i64 r.ln, .int .i64 r.ld]
theorem hflat_at (L : List (HoldR)) (i : Nat) (hi : i < L.length) : (hflat L)[i * 4]? = some (.string (hg L i).block) ∧ (hflat L)[i * 4 + 1]? = some (.int .i64 (hg L i).pulls) ∧ (hflat L)[i * 4 + 2]? = some (.int .i64 (hg L i).ln) ∧ (hflat L)[i * 4 + 3]? = some (.int .i64 (hg L i).ld) := by
  induction L generalizing i with
  | nil => simp at hi
  | cons x r ih =>
    match i with
    | 0 => exact ⟨rfl, rfl, rfl, rfl⟩
    | i + 1 =>
      have := ih i (by simpa using hi)
      have e : hflat (x :: r) = .string x.block :: .int .i64 x.pulls :: .int .i64 x.ln :: .int .i64 x.ld :: hflat r := rfl
      rw [e, show (i + 1) * 4 = i * 4 + 1 + 1 + 1 + 1 by omega]
      simpa [hg] using this
theorem hflat_snoc (L : List (HoldR)) (r : HoldR) : hflat (L ++ [r]) = hflat L ++ [.string r.block, .int .i64 r.pulls, .int .i64 r.ln, .int .i64 r.ld] := by simp [hflat]
/-- The elements of a slice at address a are L; they lie in a block below n₀. -/
def Holds (n₀ : Nat) (w : World) (a : Option Addr) (L : List (HoldR)) : Prop :=
  0 < L.length → ∃ b off, a = some ⟨b, off, none⟩ ∧ b < n₀ ∧ ∀ i, i < L.length → w.cell? ⟨b, off + i * 4, none⟩ = some (.string (hg L i).block) ∧ w.cell? ⟨b, off + i * 4 + 1, none⟩ = some (.int .i64 (hg L i).pulls) ∧ w.cell? ⟨b, off + i * 4 + 2, none⟩ = some (.int .i64 (hg L i).ln) ∧ w.cell? ⟨b, off + i * 4 + 3, none⟩ = some (.int .i64 (hg L i).ld)
theorem Holds.below {n₀ : Nat} {w w' : World} {a : Option Addr} {L : List (HoldR)} (h : Holds n₀ w a L) (hb : Below n₀ w w') : Holds n₀ w' a L := fun hl => by
  obtain ⟨b, off, rfl, hlt, hc⟩ := h hl
  refine ⟨b, off, rfl, hlt, fun i hi => ?_⟩
  obtain ⟨c0, c1, c2, c3⟩ := hc i hi
  exact ⟨(hb.cell (p := ⟨b, _, none⟩) hlt).trans c0, (hb.cell (p := ⟨b, _, none⟩) hlt).trans c1, (hb.cell (p := ⟨b, _, none⟩) hlt).trans c2, (hb.cell (p := ⟨b, _, none⟩) hlt).trans c3⟩
theorem Holds.mono {n₀ n₁ : Nat} {w : World} {a : Option Addr} {L : List (HoldR)} (h : Holds n₀ w a L) (hn : n₀ ≤ n₁) : Holds n₁ w a L := fun hl => by
  obtain ⟨b, off, rfl, hlt, hc⟩ := h hl
  exact ⟨b, off, rfl, by omega, hc⟩
theorem Holds.grow {w w' : World} {a : Option Addr} {L : List (HoldR)} (h : Holds w.heap.size w a L) (hb : Below w.heap.size w w') : Holds w'.heap.size w' a L := (h.below hb).mono hb.size
theorem Holds.nil {n₀ : Nat} {w : World} {a : Option Addr} : Holds n₀ w a [] := fun h => absurd h (Nat.not_lt_zero _)
/-- The first n of them. -/
theorem Holds.take {n₀ : Nat} {w : World} {a : Option Addr} {L : List (HoldR)} (h : Holds n₀ w a L) (n : Nat) : Holds n₀ w a (L.take n) := fun hl => by
  have hl' : 0 < L.length := by rw [List.length_take] at hl; omega
  obtain ⟨b, off, rfl, hlt, hc⟩ := h hl'
  refine ⟨b, off, rfl, hlt, fun i hi => ?_⟩
  rw [List.length_take] at hi
  have e : hg (L.take n) i = hg L i := by unfold hg; rw [List.getElem?_take, if_pos (by omega)]
  rw [e]
  exact hc i (by omega)
theorem hold_len (L : List (HoldR)) : (hflat L).length = L.length * 4 := by
  induction L with
  | nil => rfl
  | cons x r ih =>
    have e : hflat (x :: r) = .string x.block :: .int .i64 x.pulls :: .int .i64 x.ln :: .int .i64 x.ld :: hflat r := rfl
    rw [e]
    simp only [List.length_cons, ih]
    try omega
theorem hold_one (L : List (HoldR)) : ∀ u ∈ hflat L, u.oneCell' = true := by
  induction L with
  | nil => intro u hu; cases hu
  | cons x r ih =>
    have e : hflat (x :: r) = .string x.block :: .int .i64 x.pulls :: .int .i64 x.ln :: .int .i64 x.ld :: hflat r := rfl
    rw [e]
    intro u hu
    simp only [List.mem_cons] at hu
    rcases hu with rfl | rfl | rfl | rfl | hu
    · rfl
    · rfl
    · rfl
    · rfl
    · exact ih u hu
/-- A slice of records: its cells, one behind the other. -/
theorem hold_cells {n₀ : Nat} {w : World} {b off : Nat} {L : List (HoldR)} (h : Holds n₀ w (some ⟨b, off, none⟩) L) : ∀ j u, (hflat L)[j]? = some u → w.cell? ((⟨b, off, none⟩ : Addr).add j) = some u := by
  intro j u hj
  have hlt : j < L.length * 4 := by
    rw [← hold_len]
    exact (List.getElem?_eq_some_iff.1 hj).1
  obtain ⟨b', off', e, _, hc⟩ := h (by omega)
  simp only [Option.some.injEq, Addr.mk.injEq, and_true] at e
  obtain ⟨rfl, rfl⟩ := e
  rw [Go.WideShapes.add_plain]
  obtain ⟨f0, f1, f2, f3⟩ := hflat_at L (j / 4) (by omega)
  obtain ⟨c0, c1, c2, c3⟩ := hc (j / 4) (by omega)
  rcases (show j = j / 4 * 4 ∨ j = j / 4 * 4 + 1 ∨ j = j / 4 * 4 + 2 ∨ j = j / 4 * 4 + 3 by omega) with e | e | e | e
  · first | (rw [e, f0] at hj; rw [e, c0]; exact hj) | (rw [e, f0] at hj; rw [e, ← Nat.add_assoc, c0]; exact hj)
  · first | (rw [e, f1] at hj; rw [e, c1]; exact hj) | (rw [e, f1] at hj; rw [e, ← Nat.add_assoc, c1]; exact hj)
  · first | (rw [e, f2] at hj; rw [e, c2]; exact hj) | (rw [e, f2] at hj; rw [e, ← Nat.add_assoc, c2]; exact hj)
  · first | (rw [e, f3] at hj; rw [e, c3]; exact hj) | (rw [e, f3] at hj; rw [e, ← Nat.add_assoc, c3]; exact hj)
/-- A row of the call's own reads so. -/
theorem hold_of_row {w : World} {base : Nat} {v : Value} {L : List (HoldR)} (h : w.ownsRow base 79 4 v L.length (hflat L)) : ∃ a cap, v = .slice a L.length cap ∧ L.length ≤ cap ∧ cap ≤ maxLen ∧ (a = none → cap = 0) ∧ Holds w.heap.size w a L := by
  rcases h.2 with ⟨rfl, h0⟩ | ⟨g, cap, cur, rfl, hb, hg, h1, h2, _⟩
  · exact ⟨none, 0, by rw [h0], by omega, by unfold maxLen; omega, fun _ => rfl, fun hl => by omega⟩
  · refine ⟨_, cap, rfl, h1, h2, (fun e => by cases e), fun _ => ⟨g, 0, rfl, (Array.getElem?_eq_some_iff.1 hg).1, fun i hi => ?_⟩⟩
    obtain ⟨f0, f1, f2, f3⟩ := hflat_at L i hi
    have c0 := h.cellAt (i * 4) (by omega)
    have c1 := h.cellAt (i * 4 + 1) (by omega)
    have c2 := h.cellAt (i * 4 + 2) (by omega)
    have c3 := h.cellAt (i * 4 + 3) (by omega)
    rw [f0] at c0
    rw [f1] at c1
    rw [f2] at c2
    rw [f3] at c3
    rw [Nat.zero_add]
    exact ⟨c0, c1, c2, c3⟩
/-- A closure that asks p of an element, wherever it is called later. -/
def AsksH (g : Nat) (cb : Array Value) (n₀ : Nat) (w : World) (p : HoldR → Bool) : Prop :=
  ∀ (W : World) (r : HoldR), Below n₀ w W → Calls Tryz.prog g (#[holdV r] ++ cb) W fun e w' => e = .returned (.bool (p r)) ∧ Below W.heap.size W w'
theorem hold_asks_mono {g : Nat} {cb : Array Value} {n₀ n₁ : Nat} {w : World} {p : HoldR → Bool} (h : AsksH g cb n₀ w p) (hn : n₀ ≤ n₁) : AsksH g cb n₁ w p := fun W r hb => h W r (hb.mono hn)
theorem hold_asks_below {g : Nat} {cb : Array Value} {n₀ : Nat} {w w' : World} {p : HoldR → Bool} (h : AsksH g cb n₀ w p) (hb : Below n₀ w w') : AsksH g cb n₀ w' p := fun W r hb' => h W r (hb.trans hb')
/-- The first index at which p holds; -1 if there is none. -/
def hold_first (L : List (HoldR)) (p : HoldR → Bool) : Int := match (List.range L.length).find? (fun i => p (hg L i)) with
  | some i => i
  | none => -1
theorem hold_first_hit (L : List (HoldR)) (p : HoldR → Bool) (k : Nat) (hk : k < L.length) (h : p (hg L k) = true) (hn : ∀ j, j < k → p (hg L j) = false) : hold_first L p = k := by
  unfold hold_first
  have : (List.range L.length).find? (fun i => p (hg L i)) = some k := by
    rw [List.find?_eq_some_iff_getElem]
    refine ⟨by simpa using h, k, by simpa using hk, by simp, fun j hj => ?_⟩
    simpa using hn j hj
  rw [this]
theorem hold_first_miss (L : List (HoldR)) (p : HoldR → Bool) (hn : ∀ j, j < L.length → p (hg L j) = false) : hold_first L p = -1 := by
  unfold hold_first
  have : (List.range L.length).find? (fun i => p (hg L i)) = none := by
    rw [List.find?_eq_none]
    intro x hx
    simpa using hn x (by simpa using hx)
  rw [this]
theorem hold_first_cases (L : List (HoldR)) (p : HoldR → Bool) : (hold_first L p = -1 ∧ ∀ j, j < L.length → p (hg L j) = false) ∨ ∃ k : Nat, k < L.length ∧ hold_first L p = k ∧ p (hg L k) = true ∧ ∀ j, j < k → p (hg L j) = false := by
  have main : ∀ n, n ≤ L.length → (∀ j, j < n → p (hg L j) = false) ∨ ∃ k, k < n ∧ p (hg L k) = true ∧ ∀ j, j < k → p (hg L j) = false := by
    intro n
    induction n with
    | zero => exact fun _ => .inl fun j hj => absurd hj (Nat.not_lt_zero _)
    | succ n ih =>
      intro hn
      rcases ih (by omega) with h | ⟨k, hk, h1, h2⟩
      · cases e : p (hg L n)
        · refine .inl fun j hj => ?_
          rcases Nat.lt_or_ge j n with l | l
          · exact h j l
          · obtain rfl : j = n := by omega
            exact e
        · exact .inr ⟨n, by omega, e, h⟩
      · exact .inr ⟨k, by omega, h1, h2⟩
  rcases main L.length (Nat.le_refl _) with h | ⟨k, hk, h1, h2⟩
  · exact .inl ⟨hold_first_miss L p h, h⟩
  · exact .inr ⟨k, hk, hold_first_hit L p k hk h1 h2, h1, h2⟩
def hold_any (L : List (HoldR)) (p : HoldR → Bool) : Bool := decide (0 ≤ hold_first L p)
theorem hold_any_eq (L : List (HoldR)) (p : HoldR → Bool) : hold_any L p = L.any p := by
  unfold hold_any
  rw [Bool.eq_iff_iff, List.any_eq_true, decide_eq_true_eq]
  rcases hold_first_cases L p with ⟨h, h2⟩ | ⟨k, hk, h, h1, _⟩
  · rw [h]
    refine ⟨fun h => by omega, fun ⟨x, hx, hp⟩ => ?_⟩
    obtain ⟨j, hj, e⟩ := List.getElem_of_mem hx
    have := h2 j hj
    rw [hg_eq L j hj, e, hp] at this
    cases this
  · rw [h]
    exact ⟨fun _ => ⟨_, by rw [hg_eq L k hk]; exact List.getElem_mem hk, h1⟩, fun _ => by omega⟩

/-! ### Slices of api.Frac -/

def frg (L : List (Int × Int)) (i : Nat) : Int × Int := (L[i]?).getD (0, 1)
theorem frg_eq (L : List (Int × Int)) (i : Nat) (h : i < L.length) : frg L i = L[i] := by unfold frg; rw [List.getElem?_eq_getElem h]; rfl
theorem frg_get {L : List (Int × Int)} {i : Nat} (h : i < L.length) : L[i]? = some (frg L i) := by rw [frg_eq L i h, List.getElem?_eq_getElem h]
theorem frg_ext (F1 F2 : List (Int × Int)) (hl : F1.length = F2.length) (h : ∀ j, j < F1.length → frg F1 j = frg F2 j) : F1 = F2 := by
  refine List.ext_getElem hl fun i h1 h2 => ?_
  have := h i h1
  rwa [frg_eq F1 i h1, frg_eq F2 i h2] at this
theorem frg_old (L : List (Int × Int)) (x : Int × Int) (i : Nat) (h : i < L.length) : frg (L ++ [x]) i = frg L i := by unfold frg; rw [List.getElem?_append_left h]
theorem frg_new (L : List (Int × Int)) (x : Int × Int) : frg (L ++ [x]) L.length = x := by unfold frg; simp
def frV (r : Int × Int) : Value := .agg #[.int .i64 r.1, .int .i64 r.2]
def frflat (L : List (Int × Int)) : List Value := L.flatMap fun r => [.int .i64 r.1, .int .i64 r.2]
theorem frflat_at (L : List (Int × Int)) (i : Nat) (hi : i < L.length) : (frflat L)[i * 2]? = some (.int .i64 (frg L i).1) ∧ (frflat L)[i * 2 + 1]? = some (.int .i64 (frg L i).2) := by
  induction L generalizing i with
  | nil => simp at hi
  | cons x r ih =>
    match i with
    | 0 => exact ⟨rfl, rfl⟩
    | i + 1 =>
      have := ih i (by simpa using hi)
      have e : frflat (x :: r) = .int .i64 x.1 :: .int .i64 x.2 :: frflat r := rfl
      rw [e, show (i + 1) * 2 = i * 2 + 1 + 1 by omega]
      simpa [frg] using this
theorem frflat_snoc (L : List (Int × Int)) (r : Int × Int) : frflat (L ++ [r]) = frflat L ++ [.int .i64 r.1, .int .i64 r.2] := by simp [frflat]
/-- The elements of a slice at address a are L; they lie in a block below n₀. -/
def Frs (n₀ : Nat) (w : World) (a : Option Addr) (L : List (Int × Int)) : Prop :=
  0 < L.length → ∃ b off, a = some ⟨b, off, none⟩ ∧ b < n₀ ∧ ∀ i, i < L.length → w.cell? ⟨b, off + i * 2, none⟩ = some (.int .i64 (frg L i).1) ∧ w.cell? ⟨b, off + i * 2 + 1, none⟩ = some (.int .i64 (frg L i).2)
theorem Frs.below {n₀ : Nat} {w w' : World} {a : Option Addr} {L : List (Int × Int)} (h : Frs n₀ w a L) (hb : Below n₀ w w') : Frs n₀ w' a L := fun hl => by
  obtain ⟨b, off, rfl, hlt, hc⟩ := h hl
  refine ⟨b, off, rfl, hlt, fun i hi => ?_⟩
  obtain ⟨c0, c1⟩ := hc i hi
  exact ⟨(hb.cell (p := ⟨b, _, none⟩) hlt).trans c0, (hb.cell (p := ⟨b, _, none⟩) hlt).trans c1⟩
theorem Frs.mono {n₀ n₁ : Nat} {w : World} {a : Option Addr} {L : List (Int × Int)} (h : Frs n₀ w a L) (hn : n₀ ≤ n₁) : Frs n₁ w a L := fun hl => by
  obtain ⟨b, off, rfl, hlt, hc⟩ := h hl
  exact ⟨b, off, rfl, by omega, hc⟩
theorem Frs.grow {w w' : World} {a : Option Addr} {L : List (Int × Int)} (h : Frs w.heap.size w a L) (hb : Below w.heap.size w w') : Frs w'.heap.size w' a L := (h.below hb).mono hb.size
theorem Frs.nil {n₀ : Nat} {w : World} {a : Option Addr} : Frs n₀ w a [] := fun h => absurd h (Nat.not_lt_zero _)
/-- The first n of them. -/
theorem Frs.take {n₀ : Nat} {w : World} {a : Option Addr} {L : List (Int × Int)} (h : Frs n₀ w a L) (n : Nat) : Frs n₀ w a (L.take n) := fun hl => by
  have hl' : 0 < L.length := by rw [List.length_take] at hl; omega
  obtain ⟨b, off, rfl, hlt, hc⟩ := h hl'
  refine ⟨b, off, rfl, hlt, fun i hi => ?_⟩
  rw [List.length_take] at hi
  have e : frg (L.take n) i = frg L i := by unfold frg; rw [List.getElem?_take, if_pos (by omega)]
  rw [e]
  exact hc i (by omega)
theorem fr_len (L : List (Int × Int)) : (frflat L).length = L.length * 2 := by
  induction L with
  | nil => rfl
  | cons x r ih =>
    have e : frflat (x :: r) = .int .i64 x.1 :: .int .i64 x.2 :: frflat r := rfl
    rw [e]
    simp only [List.length_cons, ih]
    try omega
theorem fr_one (L : List (Int × Int)) : ∀ u ∈ frflat L, u.oneCell' = true := by
  induction L with
  | nil => intro u hu; cases hu
  | cons x r ih =>
    have e : frflat (x :: r) = .int .i64 x.1 :: .int .i64 x.2 :: frflat r := rfl
    rw [e]
    intro u hu
    simp only [List.mem_cons] at hu
    rcases hu with rfl | rfl | hu
    · rfl
    · rfl
    · exact ih u hu
/-- A slice of records: its cells, one behind the other. -/
theorem fr_cells {n₀ : Nat} {w : World} {b off : Nat} {L : List (Int × Int)} (h : Frs n₀ w (some ⟨b, off, none⟩) L) : ∀ j u, (frflat L)[j]? = some u → w.cell? ((⟨b, off, none⟩ : Addr).add j) = some u := by
  intro j u hj
  have hlt : j < L.length * 2 := by
    rw [← fr_len]
    exact (List.getElem?_eq_some_iff.1 hj).1
  obtain ⟨b', off', e, _, hc⟩ := h (by omega)
  simp only [Option.some.injEq, Addr.mk.injEq, and_true] at e
  obtain ⟨rfl, rfl⟩ := e
  rw [Go.WideShapes.add_plain]
  obtain ⟨f0, f1⟩ := frflat_at L (j / 2) (by omega)
  obtain ⟨c0, c1⟩ := hc (j / 2) (by omega)
  rcases (show j = j / 2 * 2 ∨ j = j / 2 * 2 + 1 by omega) with e | e
  · first | (rw [e, f0] at hj; rw [e, c0]; exact hj) | (rw [e, f0] at hj; rw [e, ← Nat.add_assoc, c0]; exact hj)
  · first | (rw [e, f1] at hj; rw [e, c1]; exact hj) | (rw [e, f1] at hj; rw [e, ← Nat.add_assoc, c1]; exact hj)
/-- A row of the call's own reads so. -/
theorem fr_of_row {w : World} {base : Nat} {v : Value} {L : List (Int × Int)} (h : w.ownsRow base 76 2 v L.length (frflat L)) : ∃ a cap, v = .slice a L.length cap ∧ L.length ≤ cap ∧ cap ≤ maxLen ∧ (a = none → cap = 0) ∧ Frs w.heap.size w a L := by
  rcases h.2 with ⟨rfl, h0⟩ | ⟨g, cap, cur, rfl, hb, hg, h1, h2, _⟩
  · exact ⟨none, 0, by rw [h0], by omega, by unfold maxLen; omega, fun _ => rfl, fun hl => by omega⟩
  · refine ⟨_, cap, rfl, h1, h2, (fun e => by cases e), fun _ => ⟨g, 0, rfl, (Array.getElem?_eq_some_iff.1 hg).1, fun i hi => ?_⟩⟩
    obtain ⟨f0, f1⟩ := frflat_at L i hi
    have c0 := h.cellAt (i * 2) (by omega)
    have c1 := h.cellAt (i * 2 + 1) (by omega)
    rw [f0] at c0
    rw [f1] at c1
    rw [Nat.zero_add]
    exact ⟨c0, c1⟩
/-- A closure that asks p of an element, wherever it is called later. -/
def AsksFrs (g : Nat) (cb : Array Value) (n₀ : Nat) (w : World) (p : Int × Int → Bool) : Prop :=
  ∀ (W : World) (r : Int × Int), Below n₀ w W → Calls Tryz.prog g (#[frV r] ++ cb) W fun e w' => e = .returned (.bool (p r)) ∧ Below W.heap.size W w'
theorem fr_asks_mono {g : Nat} {cb : Array Value} {n₀ n₁ : Nat} {w : World} {p : Int × Int → Bool} (h : AsksFrs g cb n₀ w p) (hn : n₀ ≤ n₁) : AsksFrs g cb n₁ w p := fun W r hb => h W r (hb.mono hn)
theorem fr_asks_below {g : Nat} {cb : Array Value} {n₀ : Nat} {w w' : World} {p : Int × Int → Bool} (h : AsksFrs g cb n₀ w p) (hb : Below n₀ w w') : AsksFrs g cb n₀ w' p := fun W r hb' => h W r (hb.trans hb')
/-- The first index at which p holds; -1 if there is none. -/
def fr_first (L : List (Int × Int)) (p : Int × Int → Bool) : Int := match (List.range L.length).find? (fun i => p (frg L i)) with
  | some i => i
  | none => -1
theorem fr_first_hit (L : List (Int × Int)) (p : Int × Int → Bool) (k : Nat) (hk : k < L.length) (h : p (frg L k) = true) (hn : ∀ j, j < k → p (frg L j) = false) : fr_first L p = k := by
  unfold fr_first
  have : (List.range L.length).find? (fun i => p (frg L i)) = some k := by
    rw [List.find?_eq_some_iff_getElem]
    refine ⟨by simpa using h, k, by simpa using hk, by simp, fun j hj => ?_⟩
    simpa using hn j hj
  rw [this]
theorem fr_first_miss (L : List (Int × Int)) (p : Int × Int → Bool) (hn : ∀ j, j < L.length → p (frg L j) = false) : fr_first L p = -1 := by
  unfold fr_first
  have : (List.range L.length).find? (fun i => p (frg L i)) = none := by
    rw [List.find?_eq_none]
    intro x hx
    simpa using hn x (by simpa using hx)
  rw [this]
theorem fr_first_cases (L : List (Int × Int)) (p : Int × Int → Bool) : (fr_first L p = -1 ∧ ∀ j, j < L.length → p (frg L j) = false) ∨ ∃ k : Nat, k < L.length ∧ fr_first L p = k ∧ p (frg L k) = true ∧ ∀ j, j < k → p (frg L j) = false := by
  have main : ∀ n, n ≤ L.length → (∀ j, j < n → p (frg L j) = false) ∨ ∃ k, k < n ∧ p (frg L k) = true ∧ ∀ j, j < k → p (frg L j) = false := by
    intro n
    induction n with
    | zero => exact fun _ => .inl fun j hj => absurd hj (Nat.not_lt_zero _)
    | succ n ih =>
      intro hn
      rcases ih (by omega) with h | ⟨k, hk, h1, h2⟩
      · cases e : p (frg L n)
        · refine .inl fun j hj => ?_
          rcases Nat.lt_or_ge j n with l | l
          · exact h j l
          · obtain rfl : j = n := by omega
            exact e
        · exact .inr ⟨n, by omega, e, h⟩
      · exact .inr ⟨k, by omega, h1, h2⟩
  rcases main L.length (Nat.le_refl _) with h | ⟨k, hk, h1, h2⟩
  · exact .inl ⟨fr_first_miss L p h, h⟩
  · exact .inr ⟨k, hk, fr_first_hit L p k hk h1 h2, h1, h2⟩
def fr_any (L : List (Int × Int)) (p : Int × Int → Bool) : Bool := decide (0 ≤ fr_first L p)
theorem fr_any_eq (L : List (Int × Int)) (p : Int × Int → Bool) : fr_any L p = L.any p := by
  unfold fr_any
  rw [Bool.eq_iff_iff, List.any_eq_true, decide_eq_true_eq]
  rcases fr_first_cases L p with ⟨h, h2⟩ | ⟨k, hk, h, h1, _⟩
  · rw [h]
    refine ⟨fun h => by omega, fun ⟨x, hx, hp⟩ => ?_⟩
    obtain ⟨j, hj, e⟩ := List.getElem_of_mem hx
    have := h2 j hj
    rw [frg_eq L j hj, e, hp] at this
    cases this
  · rw [h]
    exact ⟨fun _ => ⟨_, by rw [frg_eq L k hk]; exact List.getElem_mem hk, h1⟩, fun _ => by omega⟩
end Go.Proofs.YthldfijlcoobgaaGreat
