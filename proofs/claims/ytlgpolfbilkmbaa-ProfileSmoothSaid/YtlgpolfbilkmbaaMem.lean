/-
  HOW SLICES LIE IN MEMORY (pieces, fractions).
-/
import Derived.Test.YtlgpolfbilkmbaaRat1
import Derived.WalkKit
import Derived.WalkSpells
import Derived.WalkLawsBesides
import Derived.Deep.QuietTactic
import Derived.BigQuiet
import Derived.Lib.Hide
import Derived.Test.YtlgpolfbilkmbaaRow
import Derived.Test.YtlgpolfbilkmbaaOwn
import Derived.Maps.AppendAt
import Derived.Shelf.Abstract
import Derived.Deep.AppendLies
import Derived.Deep.RegionLaw
import Derived.Deep.RegionLawGrows
namespace Go.Proofs.Ytlgpolfbilkmbaa
open Go.RowKit Go.Shelf
attribute [local go_sem] Oper.semAt_some
theorem ret_int {k : IntKind} {a b : Int} (h : a = b) : Ending.returned (.int k a) = .returned (.int k b) := by rw [h]
theorem ret_bool {a b : Bool} (h : a = b) : Ending.returned (.bool a) = .returned (.bool b) := by rw [h]
theorem mono_in {w w' : World} (o : Obj) (h : Below (w.alloc o).heap.size (w.alloc o) w') : Below w.heap.size w w' := ((Below.refl _ _).alloc (Nat.le_refl _) o).trans (h.mono (by simp))
theorem row_addr {w : World} {base n cap size : Nat} {e : TypeId} {a : Option Addr} {xs : List Value} (h : w.ownsRow base e size (.slice a n cap) n xs) (hn : 0 < n) : ∃ g, a = some ⟨g, 0, none⟩ ∧ base ≤ g ∧ g < w.heap.size := by
  rcases h.2 with ⟨e, h0⟩ | ⟨g, cap', cur, e, hb, hg, _⟩
  · omega
  · cases e; exact ⟨g, rfl, hb, (Array.getElem?_eq_some_iff.1 hg).1⟩

/-! ### Slices of api.Piece3 -/
structure Pc where
  f0 : Int
  f1 : Int
  a0 : Int
  a1 : Int
  b0 : Int
  b1 : Int
  c0 : Int
  c1 : Int
def pcg (L : List (Pc)) (i : Nat) : Pc := (L[i]?).getD ⟨0, 1, 0, 1, 0, 1, 0, 1⟩
theorem pcg_eq (L : List (Pc)) (i : Nat) (h : i < L.length) : pcg L i = L[i] := by unfold pcg; rw [List.getElem?_eq_getElem h]; rfl
theorem pcg_get {L : List (Pc)} {i : Nat} (h : i < L.length) : L[i]? = some (pcg L i) := by rw [pcg_eq L i h, List.getElem?_eq_getElem h]
theorem pcg_ext (F1 F2 : List (Pc)) (hl : F1.length = F2.length) (h : ∀ j, j < F1.length → pcg F1 j = pcg F2 j) : F1 = F2 := by
  refine List.ext_getElem hl fun i h1 h2 => ?_
  have := h i h1
  rwa [pcg_eq F1 i h1, pcg_eq F2 i h2] at this
theorem pcg_old (L : List (Pc)) (x : Pc) (i : Nat) (h : i < L.length) : pcg (L ++ [x]) i = pcg L i := by unfold pcg; rw [List.getElem?_append_left h]
theorem pcg_new (L : List (Pc)) (x : Pc) : pcg (L ++ [x]) L.length = x := by unfold pcg; simp
def pcV (r : Pc) : Value := .agg #[.int .i64 r.f0, .int .i64 r.f1, .int .i64 r.a0, .int .i64 r.a1, .int .i64 r.b0, .int .i64 r.b1, .int .i64 r.c0, .int .i64 r.c1]
def pcflat (L : List (Pc)) : List Value := L.flatMap fun r => [.int .i64 r.f0, .int .i64 r.f1, .int .i64 r.a0, .int .i64 r.a1, .int .i64 r.b0, .int .i64 r.b1, .int .i64 r.c0, .int .i64 r.c1]
theorem pcflat_at (L : List (Pc)) (i : Nat) (hi : i < L.length) : (pcflat L)[i * 8]? = some (.int .i64 (pcg L i).f0) ∧ (pcflat L)[i * 8 + 1]? = some (.int .i64 (pcg L i).f1) ∧ (pcflat L)[i * 8 + 2]? = some (.int .i64 (pcg L i).a0) ∧ (pcflat L)[i * 8 + 3]? = some (.int .i64 (pcg L i).a1) ∧ (pcflat L)[i * 8 + 4]? = some (.int .i64 (pcg L i).b0) ∧ (pcflat L)[i * 8 + 5]? = some (.int .i64 (pcg L i).b1) ∧ (pcflat L)[i * 8 + 6]? = some (.int .i64 (pcg L i).c0) ∧ (pcflat L)[i * 8 + 7]? = some (.int .i64 (pcg L i).c1) := by
  induction L generalizing i with
  | nil => simp at hi
  | cons x r ih =>
    match i with
    | 0 => exact ⟨rfl, rfl, rfl, rfl, rfl, rfl, rfl, rfl⟩
    | i + 1 =>
      have := ih i (by simpa using hi)
      have e : pcflat (x :: r) = .int .i64 x.f0 :: .int .i64 x.f1 :: .int .i64 x.a0 :: .int .i64 x.a1 :: .int .i64 x.b0 :: .int .i64 x.b1 :: .int .i64 x.c0 :: .int .i64 x.c1 :: pcflat r := rfl
      rw [e, show (i + 1) * 8 = i * 8 + 1 + 1 + 1 + 1 + 1 + 1 + 1 + 1 by omega]
      simpa [pcg] using this
theorem pcflat_snoc (L : List (Pc)) (r : Pc) : pcflat (L ++ [r]) = pcflat L ++ [.int .i64 r.f0, .int .i64 r.f1, .int .i64 r.a0, .int .i64 r.a1, .int .i64 r.b0, .int .i64 r.b1, .int .i64 r.c0, .int .i64 r.c1] := by simp [pcflat]
/-- The elements of a slice at address a are L; they lie in a block below n₀. -/
def Pcs (n₀ : Nat) (w : World) (a : Option Addr) (L : List (Pc)) : Prop :=
  0 < L.length → ∃ b off, a = some ⟨b, off, none⟩ ∧ b < n₀ ∧ ∀ i, i < L.length → w.cell? ⟨b, off + i * 8, none⟩ = some (.int .i64 (pcg L i).f0) ∧ w.cell? ⟨b, off + i * 8 + 1, none⟩ = some (.int .i64 (pcg L i).f1) ∧ w.cell? ⟨b, off + i * 8 + 2, none⟩ = some (.int .i64 (pcg L i).a0) ∧ w.cell? ⟨b, off + i * 8 + 3, none⟩ = some (.int .i64 (pcg L i).a1) ∧ w.cell? ⟨b, off + i * 8 + 4, none⟩ = some (.int .i64 (pcg L i).b0) ∧ w.cell? ⟨b, off + i * 8 + 5, none⟩ = some (.int .i64 (pcg L i).b1) ∧ w.cell? ⟨b, off + i * 8 + 6, none⟩ = some (.int .i64 (pcg L i).c0) ∧ w.cell? ⟨b, off + i * 8 + 7, none⟩ = some (.int .i64 (pcg L i).c1)
theorem Pcs.below {n₀ : Nat} {w w' : World} {a : Option Addr} {L : List (Pc)} (h : Pcs n₀ w a L) (hb : Below n₀ w w') : Pcs n₀ w' a L := fun hl => by
  obtain ⟨b, off, rfl, hlt, hc⟩ := h hl
  refine ⟨b, off, rfl, hlt, fun i hi => ?_⟩
  obtain ⟨c0, c1, c2, c3, c4, c5, c6, c7⟩ := hc i hi
  exact ⟨(hb.cell (p := ⟨b, _, none⟩) hlt).trans c0, (hb.cell (p := ⟨b, _, none⟩) hlt).trans c1, (hb.cell (p := ⟨b, _, none⟩) hlt).trans c2, (hb.cell (p := ⟨b, _, none⟩) hlt).trans c3, (hb.cell (p := ⟨b, _, none⟩) hlt).trans c4, (hb.cell (p := ⟨b, _, none⟩) hlt).trans c5, (hb.cell (p := ⟨b, _, none⟩) hlt).trans c6, (hb.cell (p := ⟨b, _, none⟩) hlt).trans c7⟩
theorem Pcs.mono {n₀ n₁ : Nat} {w : World} {a : Option Addr} {L : List (Pc)} (h : Pcs n₀ w a L) (hn : n₀ ≤ n₁) : Pcs n₁ w a L := fun hl => by
  obtain ⟨b, off, rfl, hlt, hc⟩ := h hl
  exact ⟨b, off, rfl, by omega, hc⟩
theorem Pcs.grow {w w' : World} {a : Option Addr} {L : List (Pc)} (h : Pcs w.heap.size w a L) (hb : Below w.heap.size w w') : Pcs w'.heap.size w' a L := (h.below hb).mono hb.size
theorem Pcs.nil {n₀ : Nat} {w : World} {a : Option Addr} : Pcs n₀ w a [] := fun h => absurd h (Nat.not_lt_zero _)
/-- The first n of them. -/
theorem Pcs.take {n₀ : Nat} {w : World} {a : Option Addr} {L : List (Pc)} (h : Pcs n₀ w a L) (n : Nat) : Pcs n₀ w a (L.take n) := fun hl => by
  have hl' : 0 < L.length := by rw [List.length_take] at hl; omega
  obtain ⟨b, off, rfl, hlt, hc⟩ := h hl'
  refine ⟨b, off, rfl, hlt, fun i hi => ?_⟩
  rw [List.length_take] at hi
  have e : pcg (L.take n) i = pcg L i := by unfold pcg; rw [List.getElem?_take, if_pos (by omega)]
  rw [e]
  exact hc i (by omega)
theorem pc_len (L : List (Pc)) : (pcflat L).length = L.length * 8 := by
  induction L with
  | nil => rfl
  | cons x r ih =>
    have e : pcflat (x :: r) = .int .i64 x.f0 :: .int .i64 x.f1 :: .int .i64 x.a0 :: .int .i64 x.a1 :: .int .i64 x.b0 :: .int .i64 x.b1 :: .int .i64 x.c0 :: .int .i64 x.c1 :: pcflat r := rfl
    rw [e]
    simp only [List.length_cons, ih]
    try omega
theorem pc_one (L : List (Pc)) : ∀ u ∈ pcflat L, u.oneCell' = true := by
  induction L with
  | nil => intro u hu; cases hu
  | cons x r ih =>
    have e : pcflat (x :: r) = .int .i64 x.f0 :: .int .i64 x.f1 :: .int .i64 x.a0 :: .int .i64 x.a1 :: .int .i64 x.b0 :: .int .i64 x.b1 :: .int .i64 x.c0 :: .int .i64 x.c1 :: pcflat r := rfl
    rw [e]
    intro u hu
    simp only [List.mem_cons] at hu
    rcases hu with rfl | rfl | rfl | rfl | rfl | rfl | rfl | rfl | hu
    · rfl
    · rfl
    · rfl
    · rfl
    · rfl
    · rfl
    · rfl
    · rfl
    · exact ih u hu
/-- A slice of records: its cells, one behind the other. -/
theorem pc_cells {n₀ : Nat} {w : World} {b off : Nat} {L : List (Pc)} (h : Pcs n₀ w (some ⟨b, off, none⟩) L) : ∀ j u, (pcflat L)[j]? = some u → w.cell? ((⟨b, off, none⟩ : Addr).add j) = some u := by
  intro j u hj
  have hlt : j < L.length * 8 := by
    rw [← pc_len]
    exact (List.getElem?_eq_some_iff.1 hj).1
  obtain ⟨b', off', e, _, hc⟩ := h (by omega)
  simp only [Option.some.injEq, Addr.mk.injEq, and_true] at e
  obtain ⟨rfl, rfl⟩ := e
  rw [Go.WideShapes.add_plain]
  obtain ⟨f0, f1, f2, f3, f4, f5, f6, f7⟩ := pcflat_at L (j / 8) (by omega)
  obtain ⟨c0, c1, c2, c3, c4, c5, c6, c7⟩ := hc (j / 8) (by omega)
  rcases (show j = j / 8 * 8 ∨ j = j / 8 * 8 + 1 ∨ j = j / 8 * 8 + 2 ∨ j = j / 8 * 8 + 3 ∨ j = j / 8 * 8 + 4 ∨ j = j / 8 * 8 + 5 ∨ j = j / 8 * 8 + 6 ∨ j = j / 8 * 8 + 7 by omega) with e | e | e | e | e | e | e | e
  · first | (rw [e, f0] at hj; rw [e, c0]; exact hj) | (rw [e, f0] at hj; rw [e, ← Nat.add_assoc, c0]; exact hj)
  · first | (rw [e, f1] at hj; rw [e, c1]; exact hj) | (rw [e, f1] at hj; rw [e, ← Nat.add_assoc, c1]; exact hj)
  · first | (rw [e, f2] at hj; rw [e, c2]; exact hj) | (rw [e, f2] at hj; rw [e, ← Nat.add_assoc, c2]; exact hj)
  · first | (rw [e, f3] at hj; rw [e, c3]; exact hj) | (rw [e, f3] at hj; rw [e, ← Nat.add_assoc, c3]; exact hj)
  · first | (rw [e, f4] at hj; rw [e, c4]; exact hj) | (rw [e, f4] at hj; rw [e, ← Nat.add_assoc, c4]; exact hj)
  · first | (rw [e, f5] at hj; rw [e, c5]; exact hj) | (rw [e, f5] at hj; rw [e, ← Nat.add_assoc, c5]; exact hj)
  · first | (rw [e, f6] at hj; rw [e, c6]; exact hj) | (rw [e, f6] at hj; rw [e, ← Nat.add_assoc, c6]; exact hj)
  · first | (rw [e, f7] at hj; rw [e, c7]; exact hj) | (rw [e, f7] at hj; rw [e, ← Nat.add_assoc, c7]; exact hj)
/-- A row of the call's own reads so. -/
theorem pc_of_row {w : World} {base : Nat} {v : Value} {L : List (Pc)} (h : w.ownsRow base 70 8 v L.length (pcflat L)) : ∃ a cap, v = .slice a L.length cap ∧ L.length ≤ cap ∧ cap ≤ maxLen ∧ (a = none → cap = 0) ∧ Pcs w.heap.size w a L := by
  rcases h.2 with ⟨rfl, h0⟩ | ⟨g, cap, cur, rfl, hb, hg, h1, h2, _⟩
  · exact ⟨none, 0, by rw [h0], by omega, by unfold maxLen; omega, fun _ => rfl, fun hl => by omega⟩
  · refine ⟨_, cap, rfl, h1, h2, (fun e => by cases e), fun _ => ⟨g, 0, rfl, (Array.getElem?_eq_some_iff.1 hg).1, fun i hi => ?_⟩⟩
    obtain ⟨f0, f1, f2, f3, f4, f5, f6, f7⟩ := pcflat_at L i hi
    have c0 := h.cellAt (i * 8) (by omega)
    have c1 := h.cellAt (i * 8 + 1) (by omega)
    have c2 := h.cellAt (i * 8 + 2) (by omega)
    have c3 := h.cellAt (i * 8 + 3) (by omega)
    have c4 := h.cellAt (i * 8 + 4) (by omega)
    have c5 := h.cellAt (i * 8 + 5) (by omega)
    have c6 := h.cellAt (i * 8 + 6) (by omega)
    have c7 := h.cellAt (i * 8 + 7) (by omega)
    rw [f0] at c0
    rw [f1] at c1
    rw [f2] at c2
    rw [f3] at c3
    rw [f4] at c4
    rw [f5] at c5
    rw [f6] at c6
    rw [f7] at c7
    rw [Nat.zero_add]
    exact ⟨c0, c1, c2, c3, c4, c5, c6, c7⟩
/-- A closure that asks p of an element, wherever it is called later. -/
def AsksPcs (g : Nat) (cb : Array Value) (n₀ : Nat) (w : World) (p : Pc → Bool) : Prop :=
  ∀ (W : World) (r : Pc), Below n₀ w W → Calls Try.prog g (#[pcV r] ++ cb) W fun e w' => e = .returned (.bool (p r)) ∧ Below W.heap.size W w'
theorem pc_asks_mono {g : Nat} {cb : Array Value} {n₀ n₁ : Nat} {w : World} {p : Pc → Bool} (h : AsksPcs g cb n₀ w p) (hn : n₀ ≤ n₁) : AsksPcs g cb n₁ w p := fun W r hb => h W r (hb.mono hn)
theorem pc_asks_below {g : Nat} {cb : Array Value} {n₀ : Nat} {w w' : World} {p : Pc → Bool} (h : AsksPcs g cb n₀ w p) (hb : Below n₀ w w') : AsksPcs g cb n₀ w' p := fun W r hb' => h W r (hb.trans hb')
/-- The first index at which p holds; -1 if there is none. -/
def pc_first (L : List (Pc)) (p : Pc → Bool) : Int := match (List.range L.length).find? (fun i => p (pcg L i)) with
  | some i => i
  | none => -1
theorem pc_first_hit (L : List (Pc)) (p : Pc → Bool) (k : Nat) (hk : k < L.length) (h : p (pcg L k) = true) (hn : ∀ j, j < k → p (pcg L j) = false) : pc_first L p = k := by
  unfold pc_first
  have : (List.range L.length).find? (fun i => p (pcg L i)) = some k := by
    rw [List.find?_eq_some_iff_getElem]
    refine ⟨by simpa using h, k, by simpa using hk, by simp, fun j hj => ?_⟩
    simpa using hn j hj
  rw [this]
theorem pc_first_miss (L : List (Pc)) (p : Pc → Bool) (hn : ∀ j, j < L.length → p (pcg L j) = false) : pc_first L p = -1 := by
  unfold pc_first
  have : (List.range L.length).find? (fun i => p (pcg L i)) = none := by
    rw [List.find?_eq_none]
    intro x hx
    simpa using hn x (by simpa using hx)
  rw [this]
theorem pc_first_cases (L : List (Pc)) (p : Pc → Bool) : (pc_first L p = -1 ∧ ∀ j, j < L.length → p (pcg L j) = false) ∨ ∃ k : Nat, k < L.length ∧ pc_first L p = k ∧ p (pcg L k) = true ∧ ∀ j, j < k → p (pcg L j) = false := by
  have main : ∀ n, n ≤ L.length → (∀ j, j < n → p (pcg L j) = false) ∨ ∃ k, k < n ∧ p (pcg L k) = true ∧ ∀ j, j < k → p (pcg L j) = false := by
    intro n
    induction n with
    | zero => exact fun _ => .inl fun j hj => absurd hj (Nat.not_lt_zero _)
    | succ n ih =>
      intro hn
      rcases ih (by omega) with h | ⟨k, hk, h1, h2⟩
      · cases e : p (pcg L n)
        · refine .inl fun j hj => ?_
          rcases Nat.lt_or_ge j n with l | l
          · exact h j l
          · obtain rfl : j = n := by omega
            exact e
        · exact .inr ⟨n, by omega, e, h⟩
      · exact .inr ⟨k, by omega, h1, h2⟩
  rcases main L.length (Nat.le_refl _) with h | ⟨k, hk, h1, h2⟩
  · exact .inl ⟨pc_first_miss L p h, h⟩
  · exact .inr ⟨k, hk, pc_first_hit L p k hk h1 h2, h1, h2⟩
def pc_any (L : List (Pc)) (p : Pc → Bool) : Bool := decide (0 ≤ pc_first L p)
theorem pc_any_eq (L : List (Pc)) (p : Pc → Bool) : pc_any L p = L.any p := by
  unfold pc_any
  rw [Bool.eq_iff_iff, List.any_eq_true, decide_eq_true_eq]
  rcases pc_first_cases L p with ⟨h, h2⟩ | ⟨k, hk, h, h1, _⟩
  · rw [h]
    refine ⟨fun h => by omega, fun ⟨x, hx, hp⟩ => ?_⟩
    obtain ⟨j, hj, e⟩ := List.getElem_of_mem hx
    have := h2 j hj
    rw [pcg_eq L j hj, e, hp] at this
    cases this
  · rw [h]
    exact ⟨fun _ => ⟨_, by rw [pcg_eq L k hk]; exact List.getElem_mem hk, h1⟩, fun _ => by omega⟩

/-! ### Slices of api.Frac -/

def frg (L : List (Int × Int)) (i : Nat) : Int × Int := (L[i]?).getD (0, 1)
theorem frg_eq (L : List (Int × Int)) (i : Nat) (h : i < L.length) : frg L i = L[i] := by unfold frg; rw [List.getElem?_eq_getElem h]; rfl
theorem frg_get {L : List (Int × Int)} {i : Nat} (h : i < L.length) : L[i]? = some (frg L i) := by rw [frg_eq L i h, List.getElem?_eq_getElem h]
theorem frg_ext (F1 F2 : List (Int × Int)) (hl : F1.length = F2.length) (h : ∀ j, j < F1.length → frg F1 j = frg F2 j) : F1 = F2 := by
  refine List.ext_getElem hl fun i h1 h2 => ?_
  have := h i h1
  rwa [frg_eq F1 i h1, frg_eq F2 i h2] at this
theorem frg_old (L : List (Int × Int)) (x : Int × Int) (i : Nat) (h : i < L.length) : frg (L ++ [x]) i = frg L i := by unfold frg; rw [List.getElem?_append_left h]
theorem frg_new (L : List (Int × Int)) (x : Int × Int) : frg (L ++ [x]) L.length = x := by unfold frg; simp
def frV (r : Int × Int) : Value := .agg #[.int .i64 r.1, .int .i64 r.2]
def frflat (L : List (Int × Int)) : List Value := L.flatMap fun r => [.int .i64 r.1, .int .i64 r.2]
theorem frflat_at (L : List (Int × Int)) (i : Nat) (hi : i < L.length) : (frflat L)[i * 2]? = some (.int .i64 (frg L i).1) ∧ (frflat L)[i * 2 + 1]? = some (.int .i64 (frg L i).2) := by
  induction L generalizing i with
  | nil => simp at hi
  | cons x r ih =>
    match i with
    | 0 => exact ⟨rfl, rfl⟩
    | i + 1 =>
      have := ih i (by simpa using hi)
      have e : frflat (x :: r) = .int .i64 x.1 :: .int .i64 x.2 :: frflat r := rfl
      rw [e, show (i + 1) * 2 = i * 2 + 1 + 1 by omega]
      simpa [frg] using this
theorem frflat_snoc (L : List (Int × Int)) (r : Int × Int) : frflat (L ++ [r]) = frflat L ++ [.int .i64 r.1, .int .i64 r.2] := by simp [frflat]
/-- The elements of a slice at address a are L; they lie in a block below n₀. -/
def Frs (n₀ : Nat) (w : World) (a : Option Addr) (L : List (Int × Int)) : Prop :=
  0 < L.length → ∃ b off, a = some ⟨b, off, none⟩ ∧ b < n₀ ∧ ∀ i, i < L.length → w.cell? ⟨b, off + i * 2, none⟩ = some (.int .i64 (frg L i).1) ∧ w.cell? ⟨b, off + i * 2 + 1, none⟩ = some (.int .i64 (frg L i).2)
theorem Frs.below {n₀ : Nat} {w w' : World} {a : Option Addr} {L : List (Int × Int)} (h : Frs n₀ w a L) (hb : Below n₀ w w') : Frs n₀ w' a L := fun hl => by
  obtain ⟨b, off, rfl, hlt, hc⟩ := h hl
  refine ⟨b, off, rfl, hlt, fun i hi => ?_⟩
  obtain ⟨c0, c1⟩ := hc i hi
  exact ⟨(hb.cell (p := ⟨b, _, none⟩) hlt).trans c0, (hb.cell (p := ⟨b, _, none⟩) hlt).trans c1⟩
theorem Frs.mono {n₀ n₁ : Nat} {w : World} {a : Option Addr} {L : List (Int × Int)} (h : Frs n₀ w a L) (hn : n₀ ≤ n₁) : Frs n₁ w a L := fun hl => by
  obtain ⟨b, off, rfl, hlt, hc⟩ := h hl
  exact ⟨b, off, rfl, by omega, hc⟩
theorem Frs.grow {w w' : World} {a : Option Addr} {L : List (Int × Int)} (h : Frs w.heap.size w a L) (hb : Below w.heap.size w w') : Frs w'.heap.size w' a L := (h.below hb).mono hb.size
theorem Frs.nil {n₀ : Nat} {w : World} {a : Option Addr} : Frs n₀ w a [] := fun h => absurd h (Nat.not_lt_zero _)
/-- The first n of them. -/
theorem Frs.take {n₀ : Nat} {w : World} {a : Option Addr} {L : List (Int × Int)} (h : Frs n₀ w a L) (n : Nat) : Frs n₀ w a (L.take n) := fun hl => by
  have hl' : 0 < L.length := by rw [List.length_take] at hl; omega
  obtain ⟨b, off, rfl, hlt, hc⟩ := h hl'
  refine ⟨b, off, rfl, hlt, fun i hi => ?_⟩
  rw [List.length_take] at hi
  have e : frg (L.take n) i = frg L i := by unfold frg; rw [List.getElem?_take, if_pos (by omega)]
  rw [e]
  exact hc i (by omega)
theorem fr_len (L : List (Int × Int)) : (frflat L).length = L.length * 2 := by
  induction L with
  | nil => rfl
  | cons x r ih =>
    have e : frflat (x :: r) = .int .i64 x.1 :: .int .i64 x.2 :: frflat r := rfl
    rw [e]
    simp only [List.length_cons, ih]
    try omega
theorem fr_one (L : List (Int × Int)) : ∀ u ∈ frflat L, u.oneCell' = true := by
  induction L with
  | nil => intro u hu; cases hu
  | cons x r ih =>
    have e : frflat (x :: r) = .int .i64 x.1 :: .int .i64 x.2 :: frflat r := rfl
    rw [e]
    intro u hu
    simp only [List.mem_cons] at hu
    rcases hu with rfl | rfl | hu
    · rfl
    · rfl
    · exact ih u hu
/-- A slice of records: its cells, one behind the other. -/
theorem fr_cells {n₀ : Nat} {w : World} {b off : Nat} {L : List (Int × Int)} (h : Frs n₀ w (some ⟨b, off, none⟩) L) : ∀ j u, (frflat L)[j]? = some u → w.cell? ((⟨b, off, none⟩ : Addr).add j) = some u := by
  intro j u hj
  have hlt : j < L.length * 2 := by
    rw [← fr_len]
    exact (List.getElem?_eq_some_iff.1 hj).1
  obtain ⟨b', off', e, _, hc⟩ := h (by omega)
  simp only [Option.some.injEq, Addr.mk.injEq, and_true] at e
  obtain ⟨rfl, rfl⟩ := e
  rw [Go.WideShapes.add_plain]
  obtain ⟨f0, f1⟩ := frflat_at L (j / 2) (by omega)
  obtain ⟨c0, c1⟩ := hc (j / 2) (by omega)
  rcases (show j = j / 2 * 2 ∨ j = j / 2 * 2 + 1 by omega) with e | e
  · first | (rw [e, f0] at hj; rw [e, c0]; exact hj) | (rw [e, f0] at hj; rw [e, ← Nat.add_assoc, c0]; exact hj)
  · first | (rw [e, f1] at hj; rw [e, c1]; exact hj) | (rw [e, f1] at hj; rw [e, ← Nat.add_assoc, c1]; exact hj)
/-- A row of the call's own reads so. -/
theorem fr_of_row {w : World} {base : Nat} {v : Value} {L : List (Int × Int)} (h : w.ownsRow base 39 2 v L.length (frflat L)) : ∃ a cap, v = .slice a L.length cap ∧ L.length ≤ cap ∧ cap ≤ maxLen ∧ (a = none → cap = 0) ∧ Frs w.heap.size w a L := by
  rcases h.2 with ⟨rfl, h0⟩ | ⟨g, cap, cur, rfl, hb, hg, h1, h2, _⟩
  · exact ⟨none, 0, by rw [h0], by omega, by unfold maxLen; omega, fun _ => rfl, fun hl => by omega⟩
  · refine ⟨_, cap, rfl, h1, h2, (fun e => by cases e), fun _ => ⟨g, 0, rfl, (Array.getElem?_eq_some_iff.1 hg).1, fun i hi => ?_⟩⟩
    obtain ⟨f0, f1⟩ := frflat_at L i hi
    have c0 := h.cellAt (i * 2) (by omega)
    have c1 := h.cellAt (i * 2 + 1) (by omega)
    rw [f0] at c0
    rw [f1] at c1
    rw [Nat.zero_add]
    exact ⟨c0, c1⟩
/-- A closure that asks p of an element, wherever it is called later. -/
def AsksFrs (g : Nat) (cb : Array Value) (n₀ : Nat) (w : World) (p : Int × Int → Bool) : Prop :=
  ∀ (W : World) (r : Int × Int), Below n₀ w W → Calls Try.prog g (#[frV r] ++ cb) W fun e w' => e = .returned (.bool (p r)) ∧ Below W.heap.size W w'
theorem fr_asks_mono {g : Nat} {cb : Array Value} {n₀ n₁ : Nat} {w : World} {p : Int × Int → Bool} (h : AsksFrs g cb n₀ w p) (hn : n₀ ≤ n₁) : AsksFrs g cb n₁ w p := fun W r hb => h W r (hb.mono hn)
theorem fr_asks_below {g : Nat} {cb : Array Value} {n₀ : Nat} {w w' : World} {p : Int × Int → Bool} (h : AsksFrs g cb n₀ w p) (hb : Below n₀ w w') : AsksFrs g cb n₀ w' p := fun W r hb' => h W r (hb.trans hb')
/-- The first index at which p holds; -1 if there is none. -/
def fr_first (L : List (Int × Int)) (p : Int × Int → Bool) : Int := match (List.range L.length).find? (fun i => p (frg L i)) with
  | some i => i
  | none => -1
theorem fr_first_hit (L : List (Int × Int)) (p : Int × Int → Bool) (k : Nat) (hk : k < L.length) (h : p (frg L k) = true) (hn : ∀ j, j < k → p (frg L j) = false) : fr_first L p = k := by
  unfold fr_first
  have : (List.range L.length).find? (fun i => p (frg L i)) = some k := by
    rw [List.find?_eq_some_iff_getElem]
    refine ⟨by simpa using h, k, by simpa using hk, by simp, fun j hj => ?_⟩
    simpa using hn j hj
  rw [this]
theorem fr_first_miss (L : List (Int × Int)) (p : Int × Int → Bool) (hn : ∀ j, j < L.length → p (frg L j) = false) : fr_first L p = -1 := by
  unfold fr_first
  have : (List.range L.length).find? (fun i => p (frg L i)) = none := by
    rw [List.find?_eq_none]
    intro x hx
    simpa using hn x (by simpa using hx)
  rw [this]
theorem fr_first_cases (L : List (Int × Int)) (p : Int × Int → Bool) : (fr_first L p = -1 ∧ ∀ j, j < L.length → p (frg L j) = false) ∨ ∃ k : Nat, k < L.length ∧ fr_first L p = k ∧ p (frg L k) = true ∧ ∀ j, j < k → p (frg L j) = false := by
  have main : ∀ n, n ≤ L.length → (∀ j, j < n → p (frg L j) = false) ∨ ∃ k, k < n ∧ p (frg L k) = true ∧ ∀ j, j < k → p (frg L j) = false := by
    intro n
    induction n with
    | zero => exact fun _ => .inl fun j hj => absurd hj (Nat.not_lt_zero _)
    | succ n ih =>
      intro hn
      rcases ih (by omega) with h | ⟨k, hk, h1, h2⟩
      · cases e : p (frg L n)
        · refine .inl fun j hj => ?_
          rcases Nat.lt_or_ge j n with l | l
          · exact h j l
          · obtain rfl : j = n := by omega
            exact e
        · exact .inr ⟨n, by omega, e, h⟩
      · exact .inr ⟨k, by omega, h1, h2⟩
  rcases main L.length (Nat.le_refl _) with h | ⟨k, hk, h1, h2⟩
  · exact .inl ⟨fr_first_miss L p h, h⟩
  · exact .inr ⟨k, hk, fr_first_hit L p k hk h1 h2, h1, h2⟩
def fr_any (L : List (Int × Int)) (p : Int × Int → Bool) : Bool := decide (0 ≤ fr_first L p)
theorem fr_any_eq (L : List (Int × Int)) (p : Int × Int → Bool) : fr_any L p = L.any p := by
  unfold fr_any
  rw [Bool.eq_iff_iff, List.any_eq_true, decide_eq_true_eq]
  rcases fr_first_cases L p with ⟨h, h2⟩ | ⟨k, hk, h, h1, _⟩
  · rw [h]
    refine ⟨fun h => by omega, fun ⟨x, hx, hp⟩ => ?_⟩
    obtain ⟨j, hj, e⟩ := List.getElem_of_mem hx
    have := h2 j hj
    rw [frg_eq L j hj, e, hp] at this
    cases this
  · rw [h]
    exact ⟨fun _ => ⟨_, by rw [frg_eq L k hk]; exact List.getElem_mem hk, h1⟩, fun _ => by omega⟩
end Go.Proofs.Ytlgpolfbilkmbaa
