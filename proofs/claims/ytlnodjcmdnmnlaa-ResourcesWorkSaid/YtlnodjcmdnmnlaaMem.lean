/-
  HOW SLICES LIE IN MEMORY (loads, uses, parts, tasks, numbers).
-/
import Derived.Test.YtlnodjcmdnmnlaaRows
import Derived.WalkKit
import Derived.WalkSpells
import Derived.WalkLawsBesides
import Derived.Deep.QuietTactic
import Derived.BigQuiet
import Derived.Lib.Hide
import Derived.Test.YtlnodjcmdnmnlaaRow
import Derived.Test.YtlnodjcmdnmnlaaOwn
import Derived.Maps.AppendAt
import Derived.Shelf.Abstract
import Derived.Deep.AppendLies
import Derived.Deep.RegionLaw
import Derived.Deep.RegionLawGrows
namespace Go.Proofs.Ytlnodjcmdnmnlaa
open Go.RowKit Go.Shelf
attribute [local go_sem] Oper.semAt_some
theorem ret_int {k : IntKind} {a b : Int} (h : a = b) : Ending.returned (.int k a) = .returned (.int k b) := by rw [h]
theorem ret_bool {a b : Bool} (h : a = b) : Ending.returned (.bool a) = .returned (.bool b) := by rw [h]
theorem below_drewN {n₀ : Nat} {w w' : World} (h : Below n₀ w w') (n : Nat) : Below n₀ w (w'.drewN n) := h.trans ⟨rfl, rfl, rfl, Nat.le_refl _, fun _ _ => rfl⟩
theorem mono_in {w w' : World} (o : Obj) (h : Below (w.alloc o).heap.size (w.alloc o) w') : Below w.heap.size w w' := ((Below.refl _ _).alloc (Nat.le_refl _) o).trans (h.mono (by simp))
theorem below_new (w : World) (o : Obj) : Below w.heap.size w (w.alloc o) := (Below.refl _ _).alloc (Nat.le_refl _) o
theorem row_addr {w : World} {base n cap size : Nat} {e : TypeId} {a : Option Addr} {xs : List Value} (h : w.ownsRow base e size (.slice a n cap) n xs) (hn : 0 < n) : ∃ g, a = some ⟨g, 0, none⟩ ∧ base ≤ g ∧ g < w.heap.size := by
  rcases h.2 with ⟨e, h0⟩ | ⟨g, cap', cur, e, hb, hg, _⟩
  · omega
  · cases e; exact ⟨g, rfl, hb, (Array.getElem?_eq_some_iff.1 hg).1⟩

/-! ### Slices of api.Load -/

def og (L : List (Int × Int)) (i : Nat) : Int × Int := (L[i]?).getD (0, 0)
theorem og_eq (L : List (Int × Int)) (i : Nat) (h : i < L.length) : og L i = L[i] := by unfold og; rw [List.getElem?_eq_getElem h]; rfl
theorem og_get {L : List (Int × Int)} {i : Nat} (h : i < L.length) : L[i]? = some (og L i) := by rw [og_eq L i h, List.getElem?_eq_getElem h]
theorem og_ext (F1 F2 : List (Int × Int)) (hl : F1.length = F2.length) (h : ∀ j, j < F1.length → og F1 j = og F2 j) : F1 = F2 := by
  refine List.ext_getElem hl fun i h1 h2 => ?_
  have := h i h1
  rwa [og_eq F1 i h1, og_eq F2 i h2] at this
theorem og_old (L : List (Int × Int)) (x : Int × Int) (i : Nat) (h : i < L.length) : og (L ++ [x]) i = og L i := by unfold og; rw [List.getElem?_append_left h]
theorem og_new (L : List (Int × Int)) (x : Int × Int) : og (L ++ [x]) L.length = x := by unfold og; simp
def loadV (r : Int × Int) : Value := .agg #[.int .i64 r.1, .int .i64 r.2]
def oflat (L : List (Int × Int)) : List Value := L.flatMap fun r => [.int .i64 r.1, .int .i64 r.2]
theorem oflat_at (L : List (Int × Int)) (i : Nat) (hi : i < L.length) : (oflat L)[i * 2]? = some (.int .i64 (og L i).1) ∧ (oflat L)[i * 2 + 1]? = some (.int .i64 (og L i).2) := by
  induction L generalizing i with
  | nil => simp at hi
  | cons x r ih =>
    match i with
    | 0 => exact ⟨rfl, rfl⟩
    | i + 1 =>
      have := ih i (by simpa using hi)
      have e : oflat (x :: r) = .int .i64 x.1 :: .int .i64 x.2 :: oflat r := rfl
      rw [e, show (i + 1) * 2 = i * 2 + 1 + 1 by omega]
      simpa [og] using this
theorem oflat_snoc (L : List (Int × Int)) (r : Int × Int) : oflat (L ++ [r]) = oflat L ++ [.int .i64 r.1, .int .i64 r.2] := by simp [oflat]
/-- The elements of a slice at address a are L; they lie in a block below n₀. -/
def Loads (n₀ : Nat) (w : World) (a : Option Addr) (L : List (Int × Int)) : Prop :=
  0 < L.length → ∃ b off, a = some ⟨b, off, none⟩ ∧ b < n₀ ∧ ∀ i, i < L.length → w.cell? ⟨b, off + i * 2, none⟩ = some (.int .i64 (og L i).1) ∧ w.cell? ⟨b, off + i * 2 + 1, none⟩ = some (.int .i64 (og L i).2)
theorem Loads.below {n₀ : Nat} {w w' : World} {a : Option Addr} {L : List (Int × Int)} (h : Loads n₀ w a L) (hb : Below n₀ w w') : Loads n₀ w' a L := fun hl => by
  obtain ⟨b, off, rfl, hlt, hc⟩ := h hl
  refine ⟨b, off, rfl, hlt, fun i hi => ?_⟩
  obtain ⟨c0, c1⟩ := hc i hi
  exact ⟨(hb.cell (p := ⟨b, _, none⟩) hlt).trans c0, (hb.cell (p := ⟨b, _, none⟩) hlt).trans c1⟩
theorem Loads.mono {n₀ n₁ : Nat} {w : World} {a : Option Addr} {L : List (Int × Int)} (h : Loads n₀ w a L) (hn : n₀ ≤ n₁) : Loads n₁ w a L := fun hl => by
  obtain ⟨b, off, rfl, hlt, hc⟩ := h hl
  exact ⟨b, off, rfl, by omega, hc⟩
theorem Loads.grow {w w' : World} {a : Option Addr} {L : List (Int × Int)} (h : Loads w.heap.size w a L) (hb : Below w.heap.size w w') : Loads w'.heap.size w' a L := (h.below hb).mono hb.size
theorem Loads.nil {n₀ : Nat} {w : World} {a : Option Addr} : Loads n₀ w a [] := fun h => absurd h (Nat.not_lt_zero _)
/-- The first n of them. -/
theorem Loads.take {n₀ : Nat} {w : World} {a : Option Addr} {L : List (Int × Int)} (h : Loads n₀ w a L) (n : Nat) : Loads n₀ w a (L.take n) := fun hl => by
  have hl' : 0 < L.length := by rw [List.length_take] at hl; omega
  obtain ⟨b, off, rfl, hlt, hc⟩ := h hl'
  refine ⟨b, off, rfl, hlt, fun i hi => ?_⟩
  rw [List.length_take] at hi
  have e : og (L.take n) i = og L i := by unfold og; rw [List.getElem?_take, if_pos (by omega)]
  rw [e]
  exact hc i (by omega)
theorem load_len (L : List (Int × Int)) : (oflat L).length = L.length * 2 := by
  induction L with
  | nil => rfl
  | cons x r ih =>
    have e : oflat (x :: r) = .int .i64 x.1 :: .int .i64 x.2 :: oflat r := rfl
    rw [e]
    simp only [List.length_cons, ih]
    try omega
theorem load_one (L : List (Int × Int)) : ∀ u ∈ oflat L, u.oneCell' = true := by
  induction L with
  | nil => intro u hu; cases hu
  | cons x r ih =>
    have e : oflat (x :: r) = .int .i64 x.1 :: .int .i64 x.2 :: oflat r := rfl
    rw [e]
    intro u hu
    simp only [List.mem_cons] at hu
    rcases hu with rfl | rfl | hu
    · rfl
    · rfl
    · exact ih u hu
/-- A slice of records: its cells, one behind the other. -/
theorem load_cells {n₀ : Nat} {w : World} {b off : Nat} {L : List (Int × Int)} (h : Loads n₀ w (some ⟨b, off, none⟩) L) : ∀ j u, (oflat L)[j]? = some u → w.cell? ((⟨b, off, none⟩ : Addr).add j) = some u := by
  intro j u hj
  have hlt : j < L.length * 2 := by
    rw [← load_len]
    exact (List.getElem?_eq_some_iff.1 hj).1
  obtain ⟨b', off', e, _, hc⟩ := h (by omega)
  simp only [Option.some.injEq, Addr.mk.injEq, and_true] at e
  obtain ⟨rfl, rfl⟩ := e
  rw [Go.WideShapes.add_plain]
  obtain ⟨f0, f1⟩ := oflat_at L (j / 2) (by omega)
  obtain ⟨c0, c1⟩ := hc (j / 2) (by omega)
  rcases (show j = j / 2 * 2 ∨ j = j / 2 * 2 + 1 by omega) with e | e
  · first | (rw [e, f0] at hj; rw [e, c0]; exact hj) | (rw [e, f0] at hj; rw [e, ← Nat.add_assoc, c0]; exact hj)
  · first | (rw [e, f1] at hj; rw [e, c1]; exact hj) | (rw [e, f1] at hj; rw [e, ← Nat.add_assoc, c1]; exact hj)
/-- A row of the call's own reads so. -/
theorem load_of_row {w : World} {base : Nat} {v : Value} {L : List (Int × Int)} (h : w.ownsRow base 39 2 v L.length (oflat L)) : ∃ a cap, v = .slice a L.length cap ∧ L.length ≤ cap ∧ cap ≤ maxLen ∧ (a = none → cap = 0) ∧ Loads w.heap.size w a L := by
  rcases h.2 with ⟨rfl, h0⟩ | ⟨g, cap, cur, rfl, hb, hg, h1, h2, _⟩
  · exact ⟨none, 0, by rw [h0], by omega, by unfold maxLen; omega, fun _ => rfl, fun hl => by omega⟩
  · refine ⟨_, cap, rfl, h1, h2, (fun e => by cases e), fun _ => ⟨g, 0, rfl, (Array.getElem?_eq_some_iff.1 hg).1, fun i hi => ?_⟩⟩
    obtain ⟨f0, f1⟩ := oflat_at L i hi
    have c0 := h.cellAt (i * 2) (by omega)
    have c1 := h.cellAt (i * 2 + 1) (by omega)
    rw [f0] at c0
    rw [f1] at c1
    rw [Nat.zero_add]
    exact ⟨c0, c1⟩
/-- A closure that asks p of an element, wherever it is called later. -/
def AsksO (g : Nat) (cb : Array Value) (n₀ : Nat) (w : World) (p : Int × Int → Bool) : Prop :=
  ∀ (W : World) (r : Int × Int), Below n₀ w W → Calls Try.prog g (#[loadV r] ++ cb) W fun e w' => e = .returned (.bool (p r)) ∧ Below W.heap.size W w'
theorem load_asks_mono {g : Nat} {cb : Array Value} {n₀ n₁ : Nat} {w : World} {p : Int × Int → Bool} (h : AsksO g cb n₀ w p) (hn : n₀ ≤ n₁) : AsksO g cb n₁ w p := fun W r hb => h W r (hb.mono hn)
theorem load_asks_below {g : Nat} {cb : Array Value} {n₀ : Nat} {w w' : World} {p : Int × Int → Bool} (h : AsksO g cb n₀ w p) (hb : Below n₀ w w') : AsksO g cb n₀ w' p := fun W r hb' => h W r (hb.trans hb')
/-- The first index at which p holds; -1 if there is none. -/
def load_first (L : List (Int × Int)) (p : Int × Int → Bool) : Int := match (List.range L.length).find? (fun i => p (og L i)) with
  | some i => i
  | none => -1
theorem load_first_hit (L : List (Int × Int)) (p : Int × Int → Bool) (k : Nat) (hk : k < L.length) (h : p (og L k) = true) (hn : ∀ j, j < k → p (og L j) = false) : load_first L p = k := by
  unfold load_first
  have : (List.range L.length).find? (fun i => p (og L i)) = some k := by
    rw [List.find?_eq_some_iff_getElem]
    refine ⟨by simpa using h, k, by simpa using hk, by simp, fun j hj => ?_⟩
    simpa using hn j hj
  rw [this]
theorem load_first_miss (L : List (Int × Int)) (p : Int × Int → Bool) (hn : ∀ j, j < L.length → p (og L j) = false) : load_first L p = -1 := by
  unfold load_first
  have : (List.range L.length).find? (fun i => p (og L i)) = none := by
    rw [List.find?_eq_none]
    intro x hx
    simpa using hn x (by simpa using hx)
  rw [this]
theorem load_first_cases (L : List (Int × Int)) (p : Int × Int → Bool) : (load_first L p = -1 ∧ ∀ j, j < L.length → p (og L j) = false) ∨ ∃ k : Nat, k < L.length ∧ load_first L p = k ∧ p (og L k) = true ∧ ∀ j, j < k → p (og L j) = false := by
  have main : ∀ n, n ≤ L.length → (∀ j, j < n → p (og L j) = false) ∨ ∃ k, k < n ∧ p (og L k) = true ∧ ∀ j, j < k → p (og L j) = false := by
    intro n
    induction n with
    | zero => exact fun _ => .inl fun j hj => absurd hj (Nat.not_lt_zero _)
    | succ n ih =>
      intro hn
      rcases ih (by omega) with h | ⟨k, hk, h1, h2⟩
      · cases e : p (og L n)
        · refine .inl fun j hj => ?_
          rcases Nat.lt_or_ge j n with l | l
          · exact h j l
          · obtain rfl : j = n := by omega
            exact e
        · exact .inr ⟨n, by omega, e, h⟩
      · exact .inr ⟨k, by omega, h1, h2⟩
  rcases main L.length (Nat.le_refl _) with h | ⟨k, hk, h1, h2⟩
  · exact .inl ⟨load_first_miss L p h, h⟩
  · exact .inr ⟨k, hk, load_first_hit L p k hk h1 h2, h1, h2⟩
def load_any (L : List (Int × Int)) (p : Int × Int → Bool) : Bool := decide (0 ≤ load_first L p)
theorem load_any_eq (L : List (Int × Int)) (p : Int × Int → Bool) : load_any L p = L.any p := by
  unfold load_any
  rw [Bool.eq_iff_iff, List.any_eq_true, decide_eq_true_eq]
  rcases load_first_cases L p with ⟨h, h2⟩ | ⟨k, hk, h, h1, _⟩
  · rw [h]
    refine ⟨fun h => by omega, fun ⟨x, hx, hp⟩ => ?_⟩
    obtain ⟨j, hj, e⟩ := List.getElem_of_mem hx
    have := h2 j hj
    rw [og_eq L j hj, e, hp] at this
    cases this
  · rw [h]
    exact ⟨fun _ => ⟨_, by rw [og_eq L k hk]; exact List.getElem_mem hk, h1⟩, fun _ => by omega⟩

/-! ### Slices of resources.use -/

def ug (L : List (Int × Int × Int)) (i : Nat) : Int × Int × Int := (L[i]?).getD (0, 0, 0)
theorem ug_eq (L : List (Int × Int × Int)) (i : Nat) (h : i < L.length) : ug L i = L[i] := by unfold ug; rw [List.getElem?_eq_getElem h]; rfl
theorem ug_get {L : List (Int × Int × Int)} {i : Nat} (h : i < L.length) : L[i]? = some (ug L i) := by rw [ug_eq L i h, List.getElem?_eq_getElem h]
theorem ug_ext (F1 F2 : List (Int × Int × Int)) (hl : F1.length = F2.length) (h : ∀ j, j < F1.length → ug F1 j = ug F2 j) : F1 = F2 := by
  refine List.ext_getElem hl fun i h1 h2 => ?_
  have := h i h1
  rwa [ug_eq F1 i h1, ug_eq F2 i h2] at this
theorem ug_old (L : List (Int × Int × Int)) (x : Int × Int × Int) (i : Nat) (h : i < L.length) : ug (L ++ [x]) i = ug L i := by unfold ug; rw [List.getElem?_append_left h]
theorem ug_new (L : List (Int × Int × Int)) (x : Int × Int × Int) : ug (L ++ [x]) L.length = x := by unfold ug; simp
def useV (r : Int × Int × Int) : Value := .agg #[.int .i64 r.1, .int .i64 r.2.1, .int .i64 r.2.2]
def ugflat (L : List (Int × Int × Int)) : List Value := L.flatMap fun r => [.int .i64 r.1, .int .i64 r.2.1, .int .i64 r.2.2]
theorem ugflat_at (L : List (Int × Int × Int)) (i : Nat) (hi : i < L.length) : (ugflat L)[i * 3]? = some (.int .i64 (ug L i).1) ∧ (ugflat L)[i * 3 + 1]? = some (.int .i64 (ug L i).2.1) ∧ (ugflat L)[i * 3 + 2]? = some (.int .i64 (ug L i).2.2) := by
  induction L generalizing i with
  | nil => simp at hi
  | cons x r ih =>
    match i with
    | 0 => exact ⟨rfl, rfl, rfl⟩
    | i + 1 =>
      have := ih i (by simpa using hi)
      have e : ugflat (x :: r) = .int .i64 x.1 :: .int .i64 x.2.1 :: .int .i64 x.2.2 :: ugflat r := rfl
      rw [e, show (i + 1) * 3 = i * 3 + 1 + 1 + 1 by omega]
      simpa [ug] using this
theorem ugflat_snoc (L : List (Int × Int × Int)) (r : Int × Int × Int) : ugflat (L ++ [r]) = ugflat L ++ [.int .i64 r.1, .int .i64 r.2.1, .int .i64 r.2.2] := by simp [ugflat]
/-- The elements of a slice at address a are L; they lie in a block below n₀. -/
def Uses (n₀ : Nat) (w : World) (a : Option Addr) (L : List (Int × Int × Int)) : Prop :=
  0 < L.length → ∃ b off, a = some ⟨b, off, none⟩ ∧ b < n₀ ∧ ∀ i, i < L.length → w.cell? ⟨b, off + i * 3, none⟩ = some (.int .i64 (ug L i).1) ∧ w.cell? ⟨b, off + i * 3 + 1, none⟩ = some (.int .i64 (ug L i).2.1) ∧ w.cell? ⟨b, off + i * 3 + 2, none⟩ = some (.int .i64 (ug L i).2.2)
theorem Uses.below {n₀ : Nat} {w w' : World} {a : Option Addr} {L : List (Int × Int × Int)} (h : Uses n₀ w a L) (hb : Below n₀ w w') : Uses n₀ w' a L := fun hl => by
  obtain ⟨b, off, rfl, hlt, hc⟩ := h hl
  refine ⟨b, off, rfl, hlt, fun i hi => ?_⟩
  obtain ⟨c0, c1, c2⟩ := hc i hi
  exact ⟨(hb.cell (p := ⟨b, _, none⟩) hlt).trans c0, (hb.cell (p := ⟨b, _, none⟩) hlt).trans c1, (hb.cell (p := ⟨b, _, none⟩) hlt).trans c2⟩
theorem Uses.mono {n₀ n₁ : Nat} {w : World} {a : Option Addr} {L : List (Int × Int × Int)} (h : Uses n₀ w a L) (hn : n₀ ≤ n₁) : Uses n₁ w a L := fun hl => by
  obtain ⟨b, off, rfl, hlt, hc⟩ := h hl
  exact ⟨b, off, rfl, by omega, hc⟩
theorem Uses.grow {w w' : World} {a : Option Addr} {L : List (Int × Int × Int)} (h : Uses w.heap.size w a L) (hb : Below w.heap.size w w') : Uses w'.heap.size w' a L := (h.below hb).mono hb.size
theorem Uses.nil {n₀ : Nat} {w : World} {a : Option Addr} : Uses n₀ w a [] := fun h => absurd h (Nat.not_lt_zero _)
/-- The first n of them. -/
theorem Uses.take {n₀ : Nat} {w : World} {a : Option Addr} {L : List (Int × Int × Int)} (h : Uses n₀ w a L) (n : Nat) : Uses n₀ w a (L.take n) := fun hl => by
  have hl' : 0 < L.length := by rw [List.length_take] at hl; omega
  obtain ⟨b, off, rfl, hlt, hc⟩ := h hl'
  refine ⟨b, off, rfl, hlt, fun i hi => ?_⟩
  rw [List.length_take] at hi
  have e : ug (L.take n) i = ug L i := by unfold ug; rw [List.getElem?_take, if_pos (by omega)]
  rw [e]
  exact hc i (by omega)
theorem use_len (L : List (Int × Int × Int)) : (ugflat L).length = L.length * 3 := by
  induction L with
  | nil => rfl
  | cons x r ih =>
    have e : ugflat (x :: r) = .int .i64 x.1 :: .int .i64 x.2.1 :: .int .i64 x.2.2 :: ugflat r := rfl
    rw [e]
    simp only [List.length_cons, ih]
    try omega
theorem use_one (L : List (Int × Int × Int)) : ∀ u ∈ ugflat L, u.oneCell' = true := by
  induction L with
  | nil => intro u hu; cases hu
  | cons x r ih =>
    have e : ugflat (x :: r) = .int .i64 x.1 :: .int .i64 x.2.1 :: .int .i64 x.2.2 :: ugflat r := rfl
    rw [e]
    intro u hu
    simp only [List.mem_cons] at hu
    rcases hu with rfl | rfl | rfl | hu
    · rfl
    · rfl
    · rfl
    · exact ih u hu
/-- A slice of records: its cells, one behind the other. -/
theorem use_cells {n₀ : Nat} {w : World} {b off : Nat} {L : List (Int × Int × Int)} (h : Uses n₀ w (some ⟨b, off, none⟩) L) : ∀ j u, (ugflat L)[j]? = some u → w.cell? ((⟨b, off, none⟩ : Addr).add j) = some u := by
  intro j u hj
  have hlt : j < L.length * 3 := by
    rw [← use_len]
    exact (List.getElem?_eq_some_iff.1 hj).1
  obtain ⟨b', off', e, _, hc⟩ := h (by omega)
  simp only [Option.some.injEq, Addr.mk.injEq, and_true] at e
  obtain ⟨rfl, rfl⟩ := e
  rw [Go.WideShapes.add_plain]
  obtain ⟨f0, f1, f2⟩ := ugflat_at L (j / 3) (by omega)
  obtain ⟨c0, c1, c2⟩ := hc (j / 3) (by omega)
  rcases (show j = j / 3 * 3 ∨ j = j / 3 * 3 + 1 ∨ j = j / 3 * 3 + 2 by omega) with e | e | e
  · first | (rw [e, f0] at hj; rw [e, c0]; exact hj) | (rw [e, f0] at hj; rw [e, ← Nat.add_assoc, c0]; exact hj)
  · first | (rw [e, f1] at hj; rw [e, c1]; exact hj) | (rw [e, f1] at hj; rw [e, ← Nat.add_assoc, c1]; exact hj)
  · first | (rw [e, f2] at hj; rw [e, c2]; exact hj) | (rw [e, f2] at hj; rw [e, ← Nat.add_assoc, c2]; exact hj)
/-- A row of the call's own reads so. -/
theorem use_of_row {w : World} {base : Nat} {v : Value} {L : List (Int × Int × Int)} (h : w.ownsRow base 60 3 v L.length (ugflat L)) : ∃ a cap, v = .slice a L.length cap ∧ L.length ≤ cap ∧ cap ≤ maxLen ∧ (a = none → cap = 0) ∧ Uses w.heap.size w a L := by
  rcases h.2 with ⟨rfl, h0⟩ | ⟨g, cap, cur, rfl, hb, hg, h1, h2, _⟩
  · exact ⟨none, 0, by rw [h0], by omega, by unfold maxLen; omega, fun _ => rfl, fun hl => by omega⟩
  · refine ⟨_, cap, rfl, h1, h2, (fun e => by cases e), fun _ => ⟨g, 0, rfl, (Array.getElem?_eq_some_iff.1 hg).1, fun i hi => ?_⟩⟩
    obtain ⟨f0, f1, f2⟩ := ugflat_at L i hi
    have c0 := h.cellAt (i * 3) (by omega)
    have c1 := h.cellAt (i * 3 + 1) (by omega)
    have c2 := h.cellAt (i * 3 + 2) (by omega)
    rw [f0] at c0
    rw [f1] at c1
    rw [f2] at c2
    rw [Nat.zero_add]
    exact ⟨c0, c1, c2⟩
/-- A closure that asks p of an element, wherever it is called later. -/
def AsksUses (g : Nat) (cb : Array Value) (n₀ : Nat) (w : World) (p : Int × Int × Int → Bool) : Prop :=
  ∀ (W : World) (r : Int × Int × Int), Below n₀ w W → Calls Try.prog g (#[useV r] ++ cb) W fun e w' => e = .returned (.bool (p r)) ∧ Below W.heap.size W w'
theorem use_asks_mono {g : Nat} {cb : Array Value} {n₀ n₁ : Nat} {w : World} {p : Int × Int × Int → Bool} (h : AsksUses g cb n₀ w p) (hn : n₀ ≤ n₁) : AsksUses g cb n₁ w p := fun W r hb => h W r (hb.mono hn)
theorem use_asks_below {g : Nat} {cb : Array Value} {n₀ : Nat} {w w' : World} {p : Int × Int × Int → Bool} (h : AsksUses g cb n₀ w p) (hb : Below n₀ w w') : AsksUses g cb n₀ w' p := fun W r hb' => h W r (hb.trans hb')
/-- The first index at which p holds; -1 if there is none. -/
def use_first (L : List (Int × Int × Int)) (p : Int × Int × Int → Bool) : Int := match (List.range L.length).find? (fun i => p (ug L i)) with
  | some i => i
  | none => -1
theorem use_first_hit (L : List (Int × Int × Int)) (p : Int × Int × Int → Bool) (k : Nat) (hk : k < L.length) (h : p (ug L k) = true) (hn : ∀ j, j < k → p (ug L j) = false) : use_first L p = k := by
  unfold use_first
  have : (List.range L.length).find? (fun i => p (ug L i)) = some k := by
    rw [List.find?_eq_some_iff_getElem]
    refine ⟨by simpa using h, k, by simpa using hk, by simp, fun j hj => ?_⟩
    simpa using hn j hj
  rw [this]
theorem use_first_miss (L : List (Int × Int × Int)) (p : Int × Int × Int → Bool) (hn : ∀ j, j < L.length → p (ug L j) = false) : use_first L p = -1 := by
  unfold use_first
  have : (List.range L.length).find? (fun i => p (ug L i)) = none := by
    rw [List.find?_eq_none]
    intro x hx
    simpa using hn x (by simpa using hx)
  rw [this]
theorem use_first_cases (L : List (Int × Int × Int)) (p : Int × Int × Int → Bool) : (use_first L p = -1 ∧ ∀ j, j < L.length → p (ug L j) = false) ∨ ∃ k : Nat, k < L.length ∧ use_first L p = k ∧ p (ug L k) = true ∧ ∀ j, j < k → p (ug L j) = false := by
  have main : ∀ n, n ≤ L.length → (∀ j, j < n → p (ug L j) = false) ∨ ∃ k, k < n ∧ p (ug L k) = true ∧ ∀ j, j < k → p (ug L j) = false := by
    intro n
    induction n with
    | zero => exact fun _ => .inl fun j hj => absurd hj (Nat.not_lt_zero _)
    | succ n ih =>
      intro hn
      rcases ih (by omega) with h | ⟨k, hk, h1, h2⟩
      · cases e : p (ug L n)
        · refine .inl fun j hj => ?_
          rcases Nat.lt_or_ge j n with l | l
          · exact h j l
          · obtain rfl : j = n := by omega
            exact e
        · exact .inr ⟨n, by omega, e, h⟩
      · exact .inr ⟨k, by omega, h1, h2⟩
  rcases main L.length (Nat.le_refl _) with h | ⟨k, hk, h1, h2⟩
  · exact .inl ⟨use_first_miss L p h, h⟩
  · exact .inr ⟨k, hk, use_first_hit L p k hk h1 h2, h1, h2⟩
def use_any (L : List (Int × Int × Int)) (p : Int × Int × Int → Bool) : Bool := decide (0 ≤ use_first L p)
theorem use_any_eq (L : List (Int × Int × Int)) (p : Int × Int × Int → Bool) : use_any L p = L.any p := by
  unfold use_any
  rw [Bool.eq_iff_iff, List.any_eq_true, decide_eq_true_eq]
  rcases use_first_cases L p with ⟨h, h2⟩ | ⟨k, hk, h, h1, _⟩
  · rw [h]
    refine ⟨fun h => by omega, fun ⟨x, hx, hp⟩ => ?_⟩
    obtain ⟨j, hj, e⟩ := List.getElem_of_mem hx
    have := h2 j hj
    rw [ug_eq L j hj, e, hp] at this
    cases this
  · rw [h]
    exact ⟨fun _ => ⟨_, by rw [ug_eq L k hk]; exact List.getElem_mem hk, h1⟩, fun _ => by omega⟩

/-! ### Slices of loftblockref42.Part -/

def qg (L : List (Int × Int × Int)) (i : Nat) : Int × Int × Int := (L[i]?).getD (0, 0, 0)
theorem qg_eq (L : List (Int × Int × Int)) (i : Nat) (h : i < L.length) : qg L i = L[i] := by unfold qg; rw [List.getElem?_eq_getElem h]; rfl
theorem qg_get {L : List (Int × Int × Int)} {i : Nat} (h : i < L.length) : L[i]? = some (qg L i) := by rw [qg_eq L i h, List.getElem?_eq_getElem h]
theorem qg_ext (F1 F2 : List (Int × Int × Int)) (hl : F1.length = F2.length) (h : ∀ j, j < F1.length → qg F1 j = qg F2 j) : F1 = F2 := by
  refine List.ext_getElem hl fun i h1 h2 => ?_
  have := h i h1
  rwa [qg_eq F1 i h1, qg_eq F2 i h2] at this
theorem qg_old (L : List (Int × Int × Int)) (x : Int × Int × Int) (i : Nat) (h : i < L.length) : qg (L ++ [x]) i = qg L i := by unfold qg; rw [List.getElem?_append_left h]
theorem qg_new (L : List (Int × Int × Int)) (x : Int × Int × Int) : qg (L ++ [x]) L.length = x := by unfold qg; simp
def partV (r : Int × Int × Int) : Value := .agg #[.int .i64 r.1, .int .i64 r.2.1, .int .i64 r.2.2]
def qgflat (L : List (Int × Int × Int)) : List Value := L.flatMap fun r => [.int .i64 r.1, .int .i64 r.2.1, .int .i64 r.2.2]
theorem qgflat_at (L : List (Int × Int × Int)) (i : Nat) (hi : i < L.length) : (qgflat L)[i * 3]? = some (.int .i64 (qg L i).1) ∧ (qgflat L)[i * 3 + 1]? = some (.int .i64 (qg L i).2.1) ∧ (qgflat L)[i * 3 + 2]? = some (.int .i64 (qg L i).2.2) := by
  induction L generalizing i with
  | nil => simp at hi
  | cons x r ih =>
    match i with
    | 0 => exact ⟨rfl, rfl, rfl⟩
    | i + 1 =>
      have := ih i (by simpa using hi)
      have e : qgflat (x :: r) = .int .i64 x.1 :: .int .i64 x.2.1 :: .int .i64 x.2.2 :: qgflat r := rfl
      rw [e, show (i + 1) * 3 = i * 3 + 1 + 1 + 1 by omega]
      simpa [qg] using this
theorem qgflat_snoc (L : List (Int × Int × Int)) (r : Int × Int × Int) : qgflat (L ++ [r]) = qgflat L ++ [.int .i64 r.1, .int .i64 r.2.1, .int .i64 r.2.2] := by simp [qgflat]
/-- The elements of a slice at address a are L; they lie in a block below n₀. -/
def Parts (n₀ : Nat) (w : World) (a : Option Addr) (L : List (Int × Int × Int)) : Prop :=
  0 < L.length → ∃ b off, a = some ⟨b, off, none⟩ ∧ b < n₀ ∧ ∀ i, i < L.length → w.cell? ⟨b, off + i * 3, none⟩ = some (.int .i64 (qg L i).1) ∧ w.cell? ⟨b, off + i * 3 + 1, none⟩ = some (.int .i64 (qg L i).2.1) ∧ w.cell? ⟨b, off + i * 3 + 2, none⟩ = some (.int .i64 (qg L i).2.2)
theorem Parts.below {n₀ : Nat} {w w' : World} {a : Option Addr} {L : List (Int × Int × Int)} (h : Parts n₀ w a L) (hb : Below n₀ w w') : Parts n₀ w' a L := fun hl => by
  obtain ⟨b, off, rfl, hlt, hc⟩ := h hl
  refine ⟨b, off, rfl, hlt, fun i hi => ?_⟩
  obtain ⟨c0, c1, c2⟩ := hc i hi
  exact ⟨(hb.cell (p := ⟨b, _, none⟩) hlt).trans c0, (hb.cell (p := ⟨b, _, none⟩) hlt).trans c1, (hb.cell (p := ⟨b, _, none⟩) hlt).trans c2⟩
theorem Parts.mono {n₀ n₁ : Nat} {w : World} {a : Option Addr} {L : List (Int × Int × Int)} (h : Parts n₀ w a L) (hn : n₀ ≤ n₁) : Parts n₁ w a L := fun hl => by
  obtain ⟨b, off, rfl, hlt, hc⟩ := h hl
  exact ⟨b, off, rfl, by omega, hc⟩
theorem Parts.grow {w w' : World} {a : Option Addr} {L : List (Int × Int × Int)} (h : Parts w.heap.size w a L) (hb : Below w.heap.size w w') : Parts w'.heap.size w' a L := (h.below hb).mono hb.size
theorem Parts.nil {n₀ : Nat} {w : World} {a : Option Addr} : Parts n₀ w a [] := fun h => absurd h (Nat.not_lt_zero _)
/-- The first n of them. -/
theorem Parts.take {n₀ : Nat} {w : World} {a : Option Addr} {L : List (Int × Int × Int)} (h : Parts n₀ w a L) (n : Nat) : Parts n₀ w a (L.take n) := fun hl => by
  have hl' : 0 < L.length := by rw [List.length_take] at hl; omega
  obtain ⟨b, off, rfl, hlt, hc⟩ := h hl'
  refine ⟨b, off, rfl, hlt, fun i hi => ?_⟩
  rw [List.length_take] at hi
  have e : qg (L.take n) i = qg L i := by unfold qg; rw [List.getElem?_take, if_pos (by omega)]
  rw [e]
  exact hc i (by omega)
theorem part_len (L : List (Int × Int × Int)) : (qgflat L).length = L.length * 3 := by
  induction L with
  | nil => rfl
  | cons x r ih =>
    have e : qgflat (x :: r) = .int .i64 x.1 :: .int .i64 x.2.1 :: .int .i64 x.2.2 :: qgflat r := rfl
    rw [e]
    simp only [List.length_cons, ih]
    try omega
theorem part_one (L : List (Int × Int × Int)) : ∀ u ∈ qgflat L, u.oneCell' = true := by
  induction L with
  | nil => intro u hu; cases hu
  | cons x r ih =>
    have e : qgflat (x :: r) = .int .i64 x.1 :: .int .i64 x.2.1 :: .int .i64 x.2.2 :: qgflat r := rfl
    rw [e]
    intro u hu
    simp only [List.mem_cons] at hu
    rcases hu with rfl | rfl | rfl | hu
    · rfl
    · rfl
    · rfl
    · exact ih u hu
/-- A slice of records: its cells, one behind the other. -/
theorem part_cells {n₀ : Nat} {w : World} {b off : Nat} {L : List (Int × Int × Int)} (h : Parts n₀ w (some ⟨b, off, none⟩) L) : ∀ j u, (qgflat L)[j]? = some u → w.cell? ((⟨b, off, none⟩ : Addr).add j) = some u := by
  intro j u hj
  have hlt : j < L.length * 3 := by
    rw [← part_len]
    exact (List.getElem?_eq_some_iff.1 hj).1
  obtain ⟨b', off', e, _, hc⟩ := h (by omega)
  simp only [Option.some.injEq, Addr.mk.injEq, and_true] at e
  obtain ⟨rfl, rfl⟩ := e
  rw [Go.WideShapes.add_plain]
  obtain ⟨f0, f1, f2⟩ := qgflat_at L (j / 3) (by omega)
  obtain ⟨c0, c1, c2⟩ := hc (j / 3) (by omega)
  rcases (show j = j / 3 * 3 ∨ j = j / 3 * 3 + 1 ∨ j = j / 3 * 3 + 2 by omega) with e | e | e
  · first | (rw [e, f0] at hj; rw [e, c0]; exact hj) | (rw [e, f0] at hj; rw [e, ← Nat.add_assoc, c0]; exact hj)
  · first | (rw [e, f1] at hj; rw [e, c1]; exact hj) | (rw [e, f1] at hj; rw [e, ← Nat.add_assoc, c1]; exact hj)
  · first | (rw [e, f2] at hj; rw [e, c2]; exact hj) | (rw [e, f2] at hj; rw [e, ← Nat.add_assoc, c2]; exact hj)
/-- A row of the call's own reads so. -/
theorem part_of_row {w : World} {base : Nat} {v : Value} {L : List (Int × Int × Int)} (h : w.ownsRow base 64 3 v L.length (qgflat L)) : ∃ a cap, v = .slice a L.length cap ∧ L.length ≤ cap ∧ cap ≤ maxLen ∧ (a = none → cap = 0) ∧ Parts w.heap.size w a L := by
  rcases h.2 with ⟨rfl, h0⟩ | ⟨g, cap, cur, rfl, hb, hg, h1, h2, _⟩
  · exact ⟨none, 0, by rw [h0], by omega, by unfold maxLen; omega, fun _ => rfl, fun hl => by omega⟩
  · refine ⟨_, cap, rfl, h1, h2, (fun e => by cases e), fun _ => ⟨g, 0, rfl, (Array.getElem?_eq_some_iff.1 hg).1, fun i hi => ?_⟩⟩
    obtain ⟨f0, f1, f2⟩ := qgflat_at L i hi
    have c0 := h.cellAt (i * 3) (by omega)
    have c1 := h.cellAt (i * 3 + 1) (by omega)
    have c2 := h.cellAt (i * 3 + 2) (by omega)
    rw [f0] at c0
    rw [f1] at c1
    rw [f2] at c2
    rw [Nat.zero_add]
    exact ⟨c0, c1, c2⟩
/-- A closure that asks p of an element, wherever it is called later. -/
def AsksParts (g : Nat) (cb : Array Value) (n₀ : Nat) (w : World) (p : Int × Int × Int → Bool) : Prop :=
  ∀ (W : World) (r : Int × Int × Int), Below n₀ w W → Calls Try.prog g (#[partV r] ++ cb) W fun e w' => e = .returned (.bool (p r)) ∧ Below W.heap.size W w'
theorem part_asks_mono {g : Nat} {cb : Array Value} {n₀ n₁ : Nat} {w : World} {p : Int × Int × Int → Bool} (h : AsksParts g cb n₀ w p) (hn : n₀ ≤ n₁) : AsksParts g cb n₁ w p := fun W r hb => h W r (hb.mono hn)
theorem part_asks_below {g : Nat} {cb : Array Value} {n₀ : Nat} {w w' : World} {p : Int × Int × Int → Bool} (h : AsksParts g cb n₀ w p) (hb : Below n₀ w w') : AsksParts g cb n₀ w' p := fun W r hb' => h W r (hb.trans hb')
/-- The first index at which p holds; -1 if there is none. -/
def part_first (L : List (Int × Int × Int)) (p : Int × Int × Int → Bool) : Int := match (List.range L.length).find? (fun i => p (qg L i)) with
  | some i => i
  | none => -1
theorem part_first_hit (L : List (Int × Int × Int)) (p : Int × Int × Int → Bool) (k : Nat) (hk : k < L.length) (h : p (qg L k) = true) (hn : ∀ j, j < k → p (qg L j) = false) : part_first L p = k := by
  unfold part_first
  have : (List.range L.length).find? (fun i => p (qg L i)) = some k := by
    rw [List.find?_eq_some_iff_getElem]
    refine ⟨by simpa using h, k, by simpa using hk, by simp, fun j hj => ?_⟩
    simpa using hn j hj
  rw [this]
theorem part_first_miss (L : List (Int × Int × Int)) (p : Int × Int × Int → Bool) (hn : ∀ j, j < L.length → p (qg L j) = false) : part_first L p = -1 := by
  unfold part_first
  have : (List.range L.length).find? (fun i => p (qg L i)) = none := by
    rw [List.find?_eq_none]
    intro x hx
    simpa using hn x (by simpa using hx)
  rw [this]
theorem part_first_cases (L : List (Int × Int × Int)) (p : Int × Int × Int → Bool) : (part_first L p = -1 ∧ ∀ j, j < L.length → p (qg L j) = false) ∨ ∃ k : Nat, k < L.length ∧ part_first L p = k ∧ p (qg L k) = true ∧ ∀ j, j < k → p (qg L j) = false := by
  have main : ∀ n, n ≤ L.length → (∀ j, j < n → p (qg L j) = false) ∨ ∃ k, k < n ∧ p (qg L k) = true ∧ ∀ j, j < k → p (qg L j) = false := by
    intro n
    induction n with
    | zero => exact fun _ => .inl fun j hj => absurd hj (Nat.not_lt_zero _)
    | succ n ih =>
      intro hn
      rcases ih (by omega) with h | ⟨k, hk, h1, h2⟩
      · cases e : p (qg L n)
        · refine .inl fun j hj => ?_
          rcases Nat.lt_or_ge j n with l | l
          · exact h j l
          · obtain rfl : j = n := by omega
            exact e
        · exact .inr ⟨n, by omega, e, h⟩
      · exact .inr ⟨k, by omega, h1, h2⟩
  rcases main L.length (Nat.le_refl _) with h | ⟨k, hk, h1, h2⟩
  · exact .inl ⟨part_first_miss L p h, h⟩
  · exact .inr ⟨k, hk, part_first_hit L p k hk h1 h2, h1, h2⟩
def part_any (L : List (Int × Int × Int)) (p : Int × Int × Int → Bool) : Bool := decide (0 ≤ part_first L p)
theorem part_any_eq (L : List (Int × Int × Int)) (p : Int × Int × Int → Bool) : part_any L p = L.any p := by
  unfold part_any
  rw [Bool.eq_iff_iff, List.any_eq_true, decide_eq_true_eq]
  rcases part_first_cases L p with ⟨h, h2⟩ | ⟨k, hk, h, h1, _⟩
  · rw [h]
    refine ⟨fun h => by omega, fun ⟨x, hx, hp⟩ => ?_⟩
    obtain ⟨j, hj, e⟩ := List.getElem_of_mem hx
    have := h2 j hj
    rw [qg_eq L j hj, e, hp] at this
    cases this
  · rw [h]
    exact ⟨fun _ => ⟨_, by rw [qg_eq L k hk]; exact List.getElem_mem hk, h1⟩, fun _ => by omega⟩

/-! ### Slices of api.Task -/
structure TaskR where
  name : ByteArray
  length : Int
  crew : Int
  power : Int
  ba : Option Addr
  bl : Nat
  bc : Nat

def tg (L : List (TaskR)) (i : Nat) : TaskR := (L[i]?).getD ⟨⟨#[]⟩, 0, 0, 0, none, 0, 0⟩
theorem tg_eq (L : List (TaskR)) (i : Nat) (h : i < L.length) : tg L i = L[i] := by unfold tg; rw [List.getElem?_eq_getElem h]; rfl
theorem tg_get {L : List (TaskR)} {i : Nat} (h : i < L.length) : L[i]? = some (tg L i) := by rw [tg_eq L i h, List.getElem?_eq_getElem h]
theorem tg_ext (F1 F2 : List (TaskR)) (hl : F1.length = F2.length) (h : ∀ j, j < F1.length → tg F1 j = tg F2 j) : F1 = F2 := by
  refine List.ext_getElem hl fun i h1 h2 => ?_
  have := h i h1
  rwa [tg_eq F1 i h1, tg_eq F2 i h2] at this
theorem tg_old (L : List (TaskR)) (x : TaskR) (i : Nat) (h : i < L.length) : tg (L ++ [x]) i = tg L i := by unfold tg; rw [List.getElem?_append_left h]
theorem tg_new (L : List (TaskR)) (x : TaskR) : tg (L ++ [x]) L.length = x := by unfold tg; simp
def taskV (r : TaskR) : Value := .agg #[.string r.name, .int .i64 r.length, .int .i64 r.crew, .int .i64 r.power, .slice r.ba r.bl r.bc]
def tflat (L : List (TaskR)) : List Value := L.flatMap fun r => [.string r.name, .int .i64 r.length, .int .i64 r.crew, .int .i64 r.power, .slice r.ba r.bl r.bc]
theorem tflat_at (L : List (TaskR)) (i : Nat) (hi : i < L.length) : (tflat L)[i * 5]? = some (.string (tg L i).name) ∧ (tflat L)[i * 5 + 1]? = some (.int .i64 (tg L i).length) ∧ (tflat L)[i * 5 + 2]? = some (.int .i64 (tg L i).crew) ∧ (tflat L)[i * 5 + 3]? = some (.int .i64 (tg L i).power) ∧ (tflat L)[i * 5 + 4]? = some (.slice (tg L i).ba (tg L i).bl (tg L i).bc) := by
  induction L generalizing i with
  | nil => simp at hi
  | cons x r ih =>
    match i with
    | 0 => exact ⟨rfl, rfl, rfl, rfl, rfl⟩
    | i + 1 =>
      have := ih i (by simpa using hi)
      have e : tflat (x :: r) = .string x.name :: .int .i64 x.length :: .int .i64 x.crew :: .int .i64 x.power :: .slice x.ba x.bl x.bc :: tflat r := rfl
      rw [e, show (i + 1) * 5 = i * 5 + 1 + 1 + 1 + 1 + 1 by omega]
      simpa [tg] using this
theorem tflat_snoc (L : List (TaskR)) (r : TaskR) : tflat (L ++ [r]) = tflat L ++ [.string r.name, .int .i64 r.length, .int .i64 r.crew, .int .i64 r.power, .slice r.ba r.bl r.bc] := by simp [tflat]
/-- The elements of a slice at address a are L; they lie in a block below n₀. -/
def Tasks (n₀ : Nat) (w : World) (a : Option Addr) (L : List (TaskR)) : Prop :=
  0 < L.length → ∃ b off, a = some ⟨b, off, none⟩ ∧ b < n₀ ∧ ∀ i, i < L.length → w.cell? ⟨b, off + i * 5, none⟩ = some (.string (tg L i).name) ∧ w.cell? ⟨b, off + i * 5 + 1, none⟩ = some (.int .i64 (tg L i).length) ∧ w.cell? ⟨b, off + i * 5 + 2, none⟩ = some (.int .i64 (tg L i).crew) ∧ w.cell? ⟨b, off + i * 5 + 3, none⟩ = some (.int .i64 (tg L i).power) ∧ w.cell? ⟨b, off + i * 5 + 4, none⟩ = some (.slice (tg L i).ba (tg L i).bl (tg L i).bc)
theorem Tasks.below {n₀ : Nat} {w w' : World} {a : Option Addr} {L : List (TaskR)} (h : Tasks n₀ w a L) (hb : Below n₀ w w') : Tasks n₀ w' a L := fun hl => by
  obtain ⟨b, off, rfl, hlt, hc⟩ := h hl
  refine ⟨b, off, rfl, hlt, fun i hi => ?_⟩
  obtain ⟨c0, c1, c2, c3, c4⟩ := hc i hi
  exact ⟨(hb.cell (p := ⟨b, _, none⟩) hlt).trans c0, (hb.cell (p := ⟨b, _, none⟩) hlt).trans c1, (hb.cell (p := ⟨b, _, none⟩) hlt).trans c2, (hb.cell (p := ⟨b, _, none⟩) hlt).trans c3, (hb.cell (p := ⟨b, _, none⟩) hlt).trans c4⟩
theorem Tasks.mono {n₀ n₁ : Nat} {w : World} {a : Option Addr} {L : List (TaskR)} (h : Tasks n₀ w a L) (hn : n₀ ≤ n₁) : Tasks n₁ w a L := fun hl => by
  obtain ⟨b, off, rfl, hlt, hc⟩ := h hl
  exact ⟨b, off, rfl, by omega, hc⟩
theorem Tasks.grow {w w' : World} {a : Option Addr} {L : List (TaskR)} (h : Tasks w.heap.size w a L) (hb : Below w.heap.size w w') : Tasks w'.heap.size w' a L := (h.below hb).mono hb.size
theorem Tasks.nil {n₀ : Nat} {w : World} {a : Option Addr} : Tasks n₀ w a [] := fun h => absurd h (Nat.not_lt_zero _)
/-- The first n of them. -/
theorem Tasks.take {n₀ : Nat} {w : World} {a : Option Addr} {L : List (TaskR)} (h : Tasks n₀ w a L) (n : Nat) : Tasks n₀ w a (L.take n) := fun hl => by
  have hl' : 0 < L.length := by rw [List.length_take] at hl; omega
  obtain ⟨b, off, rfl, hlt, hc⟩ := h hl'
  refine ⟨b, off, rfl, hlt, fun i hi => ?_⟩
  rw [List.length_take] at hi
  have e : tg (L.take n) i = tg L i := by unfold tg; rw [List.getElem?_take, if_pos (by omega)]
  rw [e]
  exact hc i (by omega)
theorem task_len (L : List (TaskR)) : (tflat L).length = L.length * 5 := by
  induction L with
  | nil => rfl
  | cons x r ih =>
    have e : tflat (x :: r) = .string x.name :: .int .i64 x.length :: .int .i64 x.crew :: .int .i64 x.power :: .slice x.ba x.bl x.bc :: tflat r := rfl
    rw [e]
    simp only [List.length_cons, ih]
    try omega
theorem task_one (L : List (TaskR)) : ∀ u ∈ tflat L, u.oneCell' = true := by
  induction L with
  | nil => intro u hu; cases hu
  | cons x r ih =>
    have e : tflat (x :: r) = .string x.name :: .int .i64 x.length :: .int .i64 x.crew :: .int .i64 x.power :: .slice x.ba x.bl x.bc :: tflat r := rfl
    rw [e]
    intro u hu
    simp only [List.mem_cons] at hu
    rcases hu with rfl | rfl | rfl | rfl | rfl | hu
    · rfl
    · rfl
    · rfl
    · rfl
    · rfl
    · exact ih u hu
/-- A slice of records: its cells, one behind the other. -/
theorem task_cells {n₀ : Nat} {w : World} {b off : Nat} {L : List (TaskR)} (h : Tasks n₀ w (some ⟨b, off, none⟩) L) : ∀ j u, (tflat L)[j]? = some u → w.cell? ((⟨b, off, none⟩ : Addr).add j) = some u := by
  intro j u hj
  have hlt : j < L.length * 5 := by
    rw [← task_len]
    exact (List.getElem?_eq_some_iff.1 hj).1
  obtain ⟨b', off', e, _, hc⟩ := h (by omega)
  simp only [Option.some.injEq, Addr.mk.injEq, and_true] at e
  obtain ⟨rfl, rfl⟩ := e
  rw [Go.WideShapes.add_plain]
  obtain ⟨f0, f1, f2, f3, f4⟩ := tflat_at L (j / 5) (by omega)
  obtain ⟨c0, c1, c2, c3, c4⟩ := hc (j / 5) (by omega)
  rcases (show j = j / 5 * 5 ∨ j = j / 5 * 5 + 1 ∨ j = j / 5 * 5 + 2 ∨ j = j / 5 * 5 + 3 ∨ j = j / 5 * 5 + 4 by omega) with e | e | e | e | e
  · first | (rw [e, f0] at hj; rw [e, c0]; exact hj) | (rw [e, f0] at hj; rw [e, ← Nat.add_assoc, c0]; exact hj)
  · first | (rw [e, f1] at hj; rw [e, c1]; exact hj) | (rw [e, f1] at hj; rw [e, ← Nat.add_assoc, c1]; exact hj)
  · first | (rw [e, f2] at hj; rw [e, c2]; exact hj) | (rw [e, f2] at hj; rw [e, ← Nat.add_assoc, c2]; exact hj)
  · first | (rw [e, f3] at hj; rw [e, c3]; exact hj) | (rw [e, f3] at hj; rw [e, ← Nat.add_assoc, c3]; exact hj)
  · first | (rw [e, f4] at hj; rw [e, c4]; exact hj) | (rw [e, f4] at hj; rw [e, ← Nat.add_assoc, c4]; exact hj)
/-- A row of the call's own reads so. -/
theorem task_of_row {w : World} {base : Nat} {v : Value} {L : List (TaskR)} (h : w.ownsRow base 45 5 v L.length (tflat L)) : ∃ a cap, v = .slice a L.length cap ∧ L.length ≤ cap ∧ cap ≤ maxLen ∧ (a = none → cap = 0) ∧ Tasks w.heap.size w a L := by
  rcases h.2 with ⟨rfl, h0⟩ | ⟨g, cap, cur, rfl, hb, hg, h1, h2, _⟩
  · exact ⟨none, 0, by rw [h0], by omega, by unfold maxLen; omega, fun _ => rfl, fun hl => by omega⟩
  · refine ⟨_, cap, rfl, h1, h2, (fun e => by cases e), fun _ => ⟨g, 0, rfl, (Array.getElem?_eq_some_iff.1 hg).1, fun i hi => ?_⟩⟩
    obtain ⟨f0, f1, f2, f3, f4⟩ := tflat_at L i hi
    have c0 := h.cellAt (i * 5) (by omega)
    have c1 := h.cellAt (i * 5 + 1) (by omega)
    have c2 := h.cellAt (i * 5 + 2) (by omega)
    have c3 := h.cellAt (i * 5 + 3) (by omega)
    have c4 := h.cellAt (i * 5 + 4) (by omega)
    rw [f0] at c0
    rw [f1] at c1
    rw [f2] at c2
    rw [f3] at c3
    rw [f4] at c4
    rw [Nat.zero_add]
    exact ⟨c0, c1, c2, c3, c4⟩
/-- A closure that asks p of an element, wherever it is called later. -/
def AsksTasks (g : Nat) (cb : Array Value) (n₀ : Nat) (w : World) (p : TaskR → Bool) : Prop :=
  ∀ (W : World) (r : TaskR), Below n₀ w W → Calls Try.prog g (#[taskV r] ++ cb) W fun e w' => e = .returned (.bool (p r)) ∧ Below W.heap.size W w'
theorem task_asks_mono {g : Nat} {cb : Array Value} {n₀ n₁ : Nat} {w : World} {p : TaskR → Bool} (h : AsksTasks g cb n₀ w p) (hn : n₀ ≤ n₁) : AsksTasks g cb n₁ w p := fun W r hb => h W r (hb.mono hn)
theorem task_asks_below {g : Nat} {cb : Array Value} {n₀ : Nat} {w w' : World} {p : TaskR → Bool} (h : AsksTasks g cb n₀ w p) (hb : Below n₀ w w') : AsksTasks g cb n₀ w' p := fun W r hb' => h W r (hb.trans hb')
/-- The first index at which p holds; -1 if there is none. -/
def task_first (L : List (TaskR)) (p : TaskR → Bool) : Int := match (List.range L.length).find? (fun i => p (tg L i)) with
  | some i => i
  | none => -1
theorem task_first_hit (L : List (TaskR)) (p : TaskR → Bool) (k : Nat) (hk : k < L.length) (h : p (tg L k) = true) (hn : ∀ j, j < k → p (tg L j) = false) : task_first L p = k := by
  unfold task_first
  have : (List.range L.length).find? (fun i => p (tg L i)) = some k := by
    rw [List.find?_eq_some_iff_getElem]
    refine ⟨by simpa using h, k, by simpa using hk, by simp, fun j hj => ?_⟩
    simpa using hn j hj
  rw [this]
theorem task_first_miss (L : List (TaskR)) (p : TaskR → Bool) (hn : ∀ j, j < L.length → p (tg L j) = false) : task_first L p = -1 := by
  unfold task_first
  have : (List.range L.length).find? (fun i => p (tg L i)) = none := by
    rw [List.find?_eq_none]
    intro x hx
    simpa using hn x (by simpa using hx)
  rw [this]
theorem task_first_cases (L : List (TaskR)) (p : TaskR → Bool) : (task_first L p = -1 ∧ ∀ j, j < L.length → p (tg L j) = false) ∨ ∃ k : Nat, k < L.length ∧ task_first L p = k ∧ p (tg L k) = true ∧ ∀ j, j < k → p (tg L j) = false := by
  have main : ∀ n, n ≤ L.length → (∀ j, j < n → p (tg L j) = false) ∨ ∃ k, k < n ∧ p (tg L k) = true ∧ ∀ j, j < k → p (tg L j) = false := by
    intro n
    induction n with
    | zero => exact fun _ => .inl fun j hj => absurd hj (Nat.not_lt_zero _)
    | succ n ih =>
      intro hn
      rcases ih (by omega) with h | ⟨k, hk, h1, h2⟩
      · cases e : p (tg L n)
        · refine .inl fun j hj => ?_
          rcases Nat.lt_or_ge j n with l | l
          · exact h j l
          · obtain rfl : j = n := by omega
            exact e
        · exact .inr ⟨n, by omega, e, h⟩
      · exact .inr ⟨k, by omega, h1, h2⟩
  rcases main L.length (Nat.le_refl _) with h | ⟨k, hk, h1, h2⟩
  · exact .inl ⟨task_first_miss L p h, h⟩
  · exact .inr ⟨k, hk, task_first_hit L p k hk h1 h2, h1, h2⟩
def task_any (L : List (TaskR)) (p : TaskR → Bool) : Bool := decide (0 ≤ task_first L p)
theorem task_any_eq (L : List (TaskR)) (p : TaskR → Bool) : task_any L p = L.any p := by
  unfold task_any
  rw [Bool.eq_iff_iff, List.any_eq_true, decide_eq_true_eq]
  rcases task_first_cases L p with ⟨h, h2⟩ | ⟨k, hk, h, h1, _⟩
  · rw [h]
    refine ⟨fun h => by omega, fun ⟨x, hx, hp⟩ => ?_⟩
    obtain ⟨j, hj, e⟩ := List.getElem_of_mem hx
    have := h2 j hj
    rw [tg_eq L j hj, e, hp] at this
    cases this
  · rw [h]
    exact ⟨fun _ => ⟨_, by rw [tg_eq L k hk]; exact List.getElem_mem hk, h1⟩, fun _ => by omega⟩

/-! ### Slices of int -/

def ig (L : List (Int)) (i : Nat) : Int := (L[i]?).getD 0
theorem ig_eq (L : List (Int)) (i : Nat) (h : i < L.length) : ig L i = L[i] := by unfold ig; rw [List.getElem?_eq_getElem h]; rfl
theorem ig_get {L : List (Int)} {i : Nat} (h : i < L.length) : L[i]? = some (ig L i) := by rw [ig_eq L i h, List.getElem?_eq_getElem h]
theorem ig_ext (F1 F2 : List (Int)) (hl : F1.length = F2.length) (h : ∀ j, j < F1.length → ig F1 j = ig F2 j) : F1 = F2 := by
  refine List.ext_getElem hl fun i h1 h2 => ?_
  have := h i h1
  rwa [ig_eq F1 i h1, ig_eq F2 i h2] at this
theorem ig_old (L : List (Int)) (x : Int) (i : Nat) (h : i < L.length) : ig (L ++ [x]) i = ig L i := by unfold ig; rw [List.getElem?_append_left h]
theorem ig_new (L : List (Int)) (x : Int) : ig (L ++ [x]) L.length = x := by unfold ig; simp
def numV (r : Int) : Value := .int .i64 r
def nflat (L : List (Int)) : List Value := L.flatMap fun r => [.int .i64 r]
theorem nflat_at (L : List (Int)) (i : Nat) (hi : i < L.length) : (nflat L)[i]? = some (.int .i64 (ig L i)) := by
  induction L generalizing i with
  | nil => simp at hi
  | cons x r ih =>
    match i with
    | 0 => exact rfl
    | i + 1 =>
      have := ih i (by simpa using hi)
      have e : nflat (x :: r) = .int .i64 x :: nflat r := rfl
      rw [e, show (i + 1) = i + 1 by omega]
      simpa [ig] using this
theorem nflat_snoc (L : List (Int)) (r : Int) : nflat (L ++ [r]) = nflat L ++ [.int .i64 r] := by simp [nflat]
/-- The elements of a slice at address a are L; they lie in a block below n₀. -/
def Nums (n₀ : Nat) (w : World) (a : Option Addr) (L : List (Int)) : Prop :=
  0 < L.length → ∃ b off, a = some ⟨b, off, none⟩ ∧ b < n₀ ∧ ∀ i, i < L.length → w.cell? ⟨b, off + i, none⟩ = some (.int .i64 (ig L i))
theorem Nums.below {n₀ : Nat} {w w' : World} {a : Option Addr} {L : List (Int)} (h : Nums n₀ w a L) (hb : Below n₀ w w') : Nums n₀ w' a L := fun hl => by
  obtain ⟨b, off, rfl, hlt, hc⟩ := h hl
  refine ⟨b, off, rfl, hlt, fun i hi => ?_⟩
  have c0 := hc i hi
  exact (hb.cell (p := ⟨b, _, none⟩) hlt).trans c0
theorem Nums.mono {n₀ n₁ : Nat} {w : World} {a : Option Addr} {L : List (Int)} (h : Nums n₀ w a L) (hn : n₀ ≤ n₁) : Nums n₁ w a L := fun hl => by
  obtain ⟨b, off, rfl, hlt, hc⟩ := h hl
  exact ⟨b, off, rfl, by omega, hc⟩
theorem Nums.grow {w w' : World} {a : Option Addr} {L : List (Int)} (h : Nums w.heap.size w a L) (hb : Below w.heap.size w w') : Nums w'.heap.size w' a L := (h.below hb).mono hb.size
theorem Nums.nil {n₀ : Nat} {w : World} {a : Option Addr} : Nums n₀ w a [] := fun h => absurd h (Nat.not_lt_zero _)
/-- The first n of them. -/
theorem Nums.take {n₀ : Nat} {w : World} {a : Option Addr} {L : List (Int)} (h : Nums n₀ w a L) (n : Nat) : Nums n₀ w a (L.take n) := fun hl => by
  have hl' : 0 < L.length := by rw [List.length_take] at hl; omega
  obtain ⟨b, off, rfl, hlt, hc⟩ := h hl'
  refine ⟨b, off, rfl, hlt, fun i hi => ?_⟩
  rw [List.length_take] at hi
  have e : ig (L.take n) i = ig L i := by unfold ig; rw [List.getElem?_take, if_pos (by omega)]
  rw [e]
  exact hc i (by omega)
theorem num_len (L : List (Int)) : (nflat L).length = L.length := by
  induction L with
  | nil => rfl
  | cons x r ih =>
    have e : nflat (x :: r) = .int .i64 x :: nflat r := rfl
    rw [e]
    simp only [List.length_cons, ih]
    try omega
theorem num_one (L : List (Int)) : ∀ u ∈ nflat L, u.oneCell' = true := by
  induction L with
  | nil => intro u hu; cases hu
  | cons x r ih =>
    have e : nflat (x :: r) = .int .i64 x :: nflat r := rfl
    rw [e]
    intro u hu
    simp only [List.mem_cons] at hu
    rcases hu with rfl | hu
    · rfl
    · exact ih u hu
/-- A slice of records: its cells, one behind the other. -/
theorem num_cells {n₀ : Nat} {w : World} {b off : Nat} {L : List (Int)} (h : Nums n₀ w (some ⟨b, off, none⟩) L) : ∀ j u, (nflat L)[j]? = some u → w.cell? ((⟨b, off, none⟩ : Addr).add j) = some u := by
  intro j u hj
  have hlt : j < L.length := by
    rw [← num_len]
    exact (List.getElem?_eq_some_iff.1 hj).1
  obtain ⟨b', off', e, _, hc⟩ := h (by omega)
  simp only [Option.some.injEq, Addr.mk.injEq, and_true] at e
  obtain ⟨rfl, rfl⟩ := e
  rw [Go.WideShapes.add_plain]
  have f0 := nflat_at L j hlt
  have c0 := hc j hlt
  rw [f0] at hj; rw [c0]; exact hj
/-- A row of the call's own reads so. -/
theorem num_of_row {w : World} {base : Nat} {v : Value} {L : List (Int)} (h : w.ownsRow base 3 1 v L.length (nflat L)) : ∃ a cap, v = .slice a L.length cap ∧ L.length ≤ cap ∧ cap ≤ maxLen ∧ (a = none → cap = 0) ∧ Nums w.heap.size w a L := by
  rcases h.2 with ⟨rfl, h0⟩ | ⟨g, cap, cur, rfl, hb, hg, h1, h2, _⟩
  · exact ⟨none, 0, by rw [h0], by omega, by unfold maxLen; omega, fun _ => rfl, fun hl => by omega⟩
  · refine ⟨_, cap, rfl, h1, h2, (fun e => by cases e), fun _ => ⟨g, 0, rfl, (Array.getElem?_eq_some_iff.1 hg).1, fun i hi => ?_⟩⟩
    have f0 := nflat_at L i hi
    have c0 := h.cellAt (i) (by omega)
    rw [f0] at c0
    rw [Nat.zero_add]
    exact c0
/-- A closure that asks p of an element, wherever it is called later. -/
def AsksN (g : Nat) (cb : Array Value) (n₀ : Nat) (w : World) (p : Int → Bool) : Prop :=
  ∀ (W : World) (r : Int), Below n₀ w W → Calls Try.prog g (#[numV r] ++ cb) W fun e w' => e = .returned (.bool (p r)) ∧ Below W.heap.size W w'
theorem num_asks_mono {g : Nat} {cb : Array Value} {n₀ n₁ : Nat} {w : World} {p : Int → Bool} (h : AsksN g cb n₀ w p) (hn : n₀ ≤ n₁) : AsksN g cb n₁ w p := fun W r hb => h W r (hb.mono hn)
theorem num_asks_below {g : Nat} {cb : Array Value} {n₀ : Nat} {w w' : World} {p : Int → Bool} (h : AsksN g cb n₀ w p) (hb : Below n₀ w w') : AsksN g cb n₀ w' p := fun W r hb' => h W r (hb.trans hb')
/-- The first index at which p holds; -1 if there is none. -/
def num_first (L : List (Int)) (p : Int → Bool) : Int := match (List.range L.length).find? (fun i => p (ig L i)) with
  | some i => i
  | none => -1
theorem num_first_hit (L : List (Int)) (p : Int → Bool) (k : Nat) (hk : k < L.length) (h : p (ig L k) = true) (hn : ∀ j, j < k → p (ig L j) = false) : num_first L p = k := by
  unfold num_first
  have : (List.range L.length).find? (fun i => p (ig L i)) = some k := by
    rw [List.find?_eq_some_iff_getElem]
    refine ⟨by simpa using h, k, by simpa using hk, by simp, fun j hj => ?_⟩
    simpa using hn j hj
  rw [this]
theorem num_first_miss (L : List (Int)) (p : Int → Bool) (hn : ∀ j, j < L.length → p (ig L j) = false) : num_first L p = -1 := by
  unfold num_first
  have : (List.range L.length).find? (fun i => p (ig L i)) = none := by
    rw [List.find?_eq_none]
    intro x hx
    simpa using hn x (by simpa using hx)
  rw [this]
theorem num_first_cases (L : List (Int)) (p : Int → Bool) : (num_first L p = -1 ∧ ∀ j, j < L.length → p (ig L j) = false) ∨ ∃ k : Nat, k < L.length ∧ num_first L p = k ∧ p (ig L k) = true ∧ ∀ j, j < k → p (ig L j) = false := by
  have main : ∀ n, n ≤ L.length → (∀ j, j < n → p (ig L j) = false) ∨ ∃ k, k < n ∧ p (ig L k) = true ∧ ∀ j, j < k → p (ig L j) = false := by
    intro n
    induction n with
    | zero => exact fun _ => .inl fun j hj => absurd hj (Nat.not_lt_zero _)
    | succ n ih =>
      intro hn
      rcases ih (by omega) with h | ⟨k, hk, h1, h2⟩
      · cases e : p (ig L n)
        · refine .inl fun j hj => ?_
          rcases Nat.lt_or_ge j n with l | l
          · exact h j l
          · obtain rfl : j = n := by omega
            exact e
        · exact .inr ⟨n, by omega, e, h⟩
      · exact .inr ⟨k, by omega, h1, h2⟩
  rcases main L.length (Nat.le_refl _) with h | ⟨k, hk, h1, h2⟩
  · exact .inl ⟨num_first_miss L p h, h⟩
  · exact .inr ⟨k, hk, num_first_hit L p k hk h1 h2, h1, h2⟩
def num_any (L : List (Int)) (p : Int → Bool) : Bool := decide (0 ≤ num_first L p)
theorem num_any_eq (L : List (Int)) (p : Int → Bool) : num_any L p = L.any p := by
  unfold num_any
  rw [Bool.eq_iff_iff, List.any_eq_true, decide_eq_true_eq]
  rcases num_first_cases L p with ⟨h, h2⟩ | ⟨k, hk, h, h1, _⟩
  · rw [h]
    refine ⟨fun h => by omega, fun ⟨x, hx, hp⟩ => ?_⟩
    obtain ⟨j, hj, e⟩ := List.getElem_of_mem hx
    have := h2 j hj
    rw [ig_eq L j hj, e, hp] at this
    cases this
  · rw [h]
    exact ⟨fun _ => ⟨_, by rw [ig_eq L k hk]; exact List.getElem_mem hk, h1⟩, fun _ => by omega⟩
end Go.Proofs.Ytlnodjcmdnmnlaa
