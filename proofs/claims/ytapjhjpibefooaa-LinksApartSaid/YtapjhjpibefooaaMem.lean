/-
  HOW SLICES LIE IN MEMORY (cues, pairs, numbers, names, findings), and the walks of package slices over them.
-/
import Derived.Test.YtapjhjpibefooaaDec
import Derived.Test.YtapjhjpibefooaaRow
import Derived.Maps.AppendAt
import Derived.Shelf.Abstract
import Derived.Deep.AppendLies
import Derived.Deep.RegionLaw
import Derived.Deep.RegionLawGrows
namespace Go.Proofs.Ytapjhjpibefooaa
open Go.RowKit Go.Shelf
attribute [local go_sem] Oper.semAt_some
theorem ret_int {k : IntKind} {a b : Int} (h : a = b) : Ending.returned (.int k a) = .returned (.int k b) := by rw [h]
theorem ret_bool {a b : Bool} (h : a = b) : Ending.returned (.bool a) = .returned (.bool b) := by rw [h]
theorem str_eq (a b : ByteArray) : (a.toList == b.toList) = decide (a = b) := by
  rw [Bool.eq_iff_iff, beq_iff_eq, decide_eq_true_eq]
  constructor
  · intro h
    rw [ByteArray.toList_eq, ByteArray.toList_eq] at h
    obtain ⟨⟨x⟩⟩ := a
    obtain ⟨⟨y⟩⟩ := b
    simpa using h
  · exact fun h => by rw [h]

/-! ### Slices of api.Cue -/
structure CueR where
  name : ByteArray
  after : ByteArray
  link : Int
  delay : Int
  ma : Option Addr
  ml : Nat
  mc : Nat
  crew : Int
  power : Int

def cg (L : List (CueR)) (i : Nat) : CueR := (L[i]?).getD ⟨⟨#[]⟩, ⟨#[]⟩, 0, 0, none, 0, 0, 0, 0⟩
theorem cg_eq (L : List (CueR)) (i : Nat) (h : i < L.length) : cg L i = L[i] := by unfold cg; rw [List.getElem?_eq_getElem h]; rfl
theorem cg_get {L : List (CueR)} {i : Nat} (h : i < L.length) : L[i]? = some (cg L i) := by rw [cg_eq L i h, List.getElem?_eq_getElem h]
theorem cg_ext (F1 F2 : List (CueR)) (hl : F1.length = F2.length) (h : ∀ j, j < F1.length → cg F1 j = cg F2 j) : F1 = F2 := by
  refine List.ext_getElem hl fun i h1 h2 => ?_
  have := h i h1
  rwa [cg_eq F1 i h1, cg_eq F2 i h2] at this
theorem cg_old (L : List (CueR)) (x : CueR) (i : Nat) (h : i < L.length) : cg (L ++ [x]) i = cg L i := by unfold cg; rw [List.getElem?_append_left h]
theorem cg_new (L : List (CueR)) (x : CueR) : cg (L ++ [x]) L.length = x := by unfold cg; simp
def cueV (r : CueR) : Value := .agg #[.string r.name, .string r.after, .int .i64 r.link, .int .i64 r.delay, .slice r.ma r.ml r.mc, .int .i64 r.crew, .int .i64 r.power]
def cflat (L : List (CueR)) : List Value := L.flatMap fun r => [.string r.name, .string r.after, .int .i64 r.link, .int .i64 r.delay, .slice r.ma r.ml r.mc, .int .i64 r.crew, .int .i64 r.power]
theorem cflat_at (L : List (CueR)) (i : Nat) (hi : i < L.length) : (cflat L)[i * 7]? = some (.string (cg L i).name) ∧ (cflat L)[i * 7 + 1]? = some (.string (cg L i).after) ∧ (cflat L)[i * 7 + 2]? = some (.int .i64 (cg L i).link) ∧ (cflat L)[i * 7 + 3]? = some (.int .i64 (cg L i).delay) ∧ (cflat L)[i * 7 + 4]? = some (.slice (cg L i).ma (cg L i).ml (cg L i).mc) ∧ (cflat L)[i * 7 + 5]? = some (.int .i64 (cg L i).crew) ∧ (cflat L)[i * 7 + 6]? = some (.int .i64 (cg L i).power) := by
  induction L generalizing i with
  | nil => simp at hi
  | cons x r ih =>
    match i with
    | 0 => exact ⟨rfl, rfl, rfl, rfl, rfl, rfl, rfl⟩
    | i + 1 =>
      have := ih i (by simpa using hi)
      have e : cflat (x :: r) = .string x.name :: .string x.after :: .int .i64 x.link :: .int .i64 x.delay :: .slice x.ma x.ml x.mc :: .int .i64 x.crew :: .int .i64 x.power :: cflat r := rfl
      rw [e, show (i + 1) * 7 = i * 7 + 1 + 1 + 1 + 1 + 1 + 1 + 1 by omega]
      simpa [cg] using this
theorem cflat_snoc (L : List (CueR)) (r : CueR) : cflat (L ++ [r]) = cflat L ++ [.string r.name, .string r.after, .int .i64 r.link, .int .i64 r.delay, .slice r.ma r.ml r.mc, .int .i64 r.crew, .int .i64 r.power] := by simp [cflat]
/-- The elements of a slice at address a are L; they lie in a block below n₀. -/
def Cues (n₀ : Nat) (w : World) (a : Option Addr) (L : List (CueR)) : Prop :=
  0 < L.length → ∃ b off, a = some ⟨b, off, none⟩ ∧ b < n₀ ∧ ∀ i, i < L.length → w.cell? ⟨b, off + i * 7, none⟩ = some (.string (cg L i).name) ∧ w.cell? ⟨b, off + i * 7 + 1, none⟩ = some (.string (cg L i).after) ∧ w.cell? ⟨b, off + i * 7 + 2, none⟩ = some (.int .i64 (cg L i).link) ∧ w.cell? ⟨b, off + i * 7 + 3, none⟩ = some (.int .i64 (cg L i).delay) ∧ w.cell? ⟨b, off + i * 7 + 4, none⟩ = some (.slice (cg L i).ma (cg L i).ml (cg L i).mc) ∧ w.cell? ⟨b, off + i * 7 + 5, none⟩ = some (.int .i64 (cg L i).crew) ∧ w.cell? ⟨b, off + i * 7 + 6, none⟩ = some (.int .i64 (cg L i).power)
theorem Cues.below {n₀ : Nat} {w w' : World} {a : Option Addr} {L : List (CueR)} (h : Cues n₀ w a L) (hb : Below n₀ w w') : Cues n₀ w' a L := fun hl => by
  obtain ⟨b, off, rfl, hlt, hc⟩ := h hl
  refine ⟨b, off, rfl, hlt, fun i hi => ?_⟩
  obtain ⟨c0, c1, c2, c3, c4, c5, c6⟩ := hc i hi
  exact ⟨(hb.cell (p := ⟨b, _, none⟩) hlt).trans c0, (hb.cell (p := ⟨b, _, none⟩) hlt).trans c1, (hb.cell (p := ⟨b, _, none⟩) hlt).trans c2, (hb.cell (p := ⟨b, _, none⟩) hlt).trans c3, (hb.cell (p := ⟨b, _, none⟩) hlt).trans c4, (hb.cell (p := ⟨b, _, none⟩) hlt).trans c5, (hb.cell (p := ⟨b, _, none⟩) hlt).trans c6⟩
theorem Cues.mono {n₀ n₁ : Nat} {w : World} {a : Option Addr} {L : List (CueR)} (h : Cues n₀ w a L) (hn : n₀ ≤ n₁) : Cues n₁ w a L := fun hl => by
  obtain ⟨b, off, rfl, hlt, hc⟩ := h hl
  exact ⟨b, off, rfl, by omega, hc⟩
theorem Cues.grow {w w' : World} {a : Option Addr} {L : List (CueR)} (h : Cues w.heap.size w a L) (hb : Below w.heap.size w w') : Cues w'.heap.size w' a L := (h.below hb).mono hb.size
theorem Cues.nil {n₀ : Nat} {w : World} {a : Option Addr} : Cues n₀ w a [] := fun h => absurd h (Nat.not_lt_zero _)
/-- The first n of them. -/
theorem Cues.take {n₀ : Nat} {w : World} {a : Option Addr} {L : List (CueR)} (h : Cues n₀ w a L) (n : Nat) : Cues n₀ w a (L.take n) := fun hl => by
  have hl' : 0 < L.length := by rw [List.length_take] at hl; omega
  obtain ⟨b, off, rfl, hlt, hc⟩ := h hl'
  refine ⟨b, off, rfl, hlt, fun i hi => ?_⟩
  rw [List.length_take] at hi
  have e : cg (L.take n) i = cg L i := by unfold cg; rw [List.getElem?_take, if_pos (by omega)]
  rw [e]
  exact hc i (by omega)
theorem cue_len (L : List (CueR)) : (cflat L).length = L.length * 7 := by
  induction L with
  | nil => rfl
  | cons x r ih =>
    have e : cflat (x :: r) = .string x.name :: .string x.after :: .int .i64 x.link :: .int .i64 x.delay :: .slice x.ma x.ml x.mc :: .int .i64 x.crew :: .int .i64 x.power :: cflat r := rfl
    rw [e]
    simp only [List.length_cons, ih]
    try omega
theorem cue_one (L : List (CueR)) : ∀ u ∈ cflat L, u.oneCell' = true := by
  induction L with
  | nil => intro u hu; cases hu
  | cons x r ih =>
    have e : cflat (x :: r) = .string x.name :: .string x.after :: .int .i64 x.link :: .int .i64 x.delay :: .slice x.ma x.ml x.mc :: .int .i64 x.crew :: .int .i64 x.power :: cflat r := rfl
    rw [e]
    intro u hu
    simp only [List.mem_cons] at hu
    rcases hu with rfl | rfl | rfl | rfl | rfl | rfl | rfl | hu
    · rfl
    · rfl
    · rfl
    · rfl
    · rfl
    · rfl
    · rfl
    · exact ih u hu
/-- A slice of records: its cells, one behind the other. -/
theorem cue_cells {n₀ : Nat} {w : World} {b off : Nat} {L : List (CueR)} (h : Cues n₀ w (some ⟨b, off, none⟩) L) : ∀ j u, (cflat L)[j]? = some u → w.cell? ((⟨b, off, none⟩ : Addr).add j) = some u := by
  intro j u hj
  have hlt : j < L.length * 7 := by
    rw [← cue_len]
    exact (List.getElem?_eq_some_iff.1 hj).1
  obtain ⟨b', off', e, _, hc⟩ := h (by omega)
  simp only [Option.some.injEq, Addr.mk.injEq, and_true] at e
  obtain ⟨rfl, rfl⟩ := e
  rw [Go.WideShapes.add_plain]
  obtain ⟨f0, f1, f2, f3, f4, f5, f6⟩ := cflat_at L (j / 7) (by omega)
  obtain ⟨c0, c1, c2, c3, c4, c5, c6⟩ := hc (j / 7) (by omega)
  rcases (show j = j / 7 * 7 ∨ j = j / 7 * 7 + 1 ∨ j = j / 7 * 7 + 2 ∨ j = j / 7 * 7 + 3 ∨ j = j / 7 * 7 + 4 ∨ j = j / 7 * 7 + 5 ∨ j = j / 7 * 7 + 6 by omega) with e | e | e | e | e | e | e
  · first | (rw [e, f0] at hj; rw [e, c0]; exact hj) | (rw [e, f0] at hj; rw [e, ← Nat.add_assoc, c0]; exact hj)
  · first | (rw [e, f1] at hj; rw [e, c1]; exact hj) | (rw [e, f1] at hj; rw [e, ← Nat.add_assoc, c1]; exact hj)
  · first | (rw [e, f2] at hj; rw [e, c2]; exact hj) | (rw [e, f2] at hj; rw [e, ← Nat.add_assoc, c2]; exact hj)
  · first | (rw [e, f3] at hj; rw [e, c3]; exact hj) | (rw [e, f3] at hj; rw [e, ← Nat.add_assoc, c3]; exact hj)
  · first | (rw [e, f4] at hj; rw [e, c4]; exact hj) | (rw [e, f4] at hj; rw [e, ← Nat.add_assoc, c4]; exact hj)
  · first | (rw [e, f5] at hj; rw [e, c5]; exact hj) | (rw [e, f5] at hj; rw [e, ← Nat.add_assoc, c5]; exact hj)
  · first | (rw [e, f6] at hj; rw [e, c6]; exact hj) | (rw [e, f6] at hj; rw [e, ← Nat.add_assoc, c6]; exact hj)
/-- A row of the call's own reads so. -/
theorem cue_of_row {w : World} {base : Nat} {v : Value} {L : List (CueR)} (h : w.ownsRow base 56 7 v L.length (cflat L)) : ∃ a cap, v = .slice a L.length cap ∧ L.length ≤ cap ∧ cap ≤ maxLen ∧ (a = none → cap = 0) ∧ Cues w.heap.size w a L := by
  rcases h.2 with ⟨rfl, h0⟩ | ⟨g, cap, cur, rfl, hb, hg, h1, h2, _⟩
  · exact ⟨none, 0, by rw [h0], by omega, by unfold maxLen; omega, fun _ => rfl, fun hl => by omega⟩
  · refine ⟨_, cap, rfl, h1, h2, (fun e => by cases e), fun _ => ⟨g, 0, rfl, (Array.getElem?_eq_some_iff.1 hg).1, fun i hi => ?_⟩⟩
    obtain ⟨f0, f1, f2, f3, f4, f5, f6⟩ := cflat_at L i hi
    have c0 := h.cellAt (i * 7) (by omega)
    have c1 := h.cellAt (i * 7 + 1) (by omega)
    have c2 := h.cellAt (i * 7 + 2) (by omega)
    have c3 := h.cellAt (i * 7 + 3) (by omega)
    have c4 := h.cellAt (i * 7 + 4) (by omega)
    have c5 := h.cellAt (i * 7 + 5) (by omega)
    have c6 := h.cellAt (i * 7 + 6) (by omega)
    rw [f0] at c0
    rw [f1] at c1
    rw [f2] at c2
    rw [f3] at c3
    rw [f4] at c4
    rw [f5] at c5
    rw [f6] at c6
    rw [Nat.zero_add]
    exact ⟨c0, c1, c2, c3, c4, c5, c6⟩
/-- A closure that asks p of an element, wherever it is called later. -/
def AsksC (g : Nat) (cb : Array Value) (n₀ : Nat) (w : World) (p : CueR → Bool) : Prop :=
  ∀ (W : World) (r : CueR), Below n₀ w W → Calls Try.prog g (#[cueV r] ++ cb) W fun e w' => e = .returned (.bool (p r)) ∧ Below W.heap.size W w'
theorem cue_asks_mono {g : Nat} {cb : Array Value} {n₀ n₁ : Nat} {w : World} {p : CueR → Bool} (h : AsksC g cb n₀ w p) (hn : n₀ ≤ n₁) : AsksC g cb n₁ w p := fun W r hb => h W r (hb.mono hn)
theorem cue_asks_below {g : Nat} {cb : Array Value} {n₀ : Nat} {w w' : World} {p : CueR → Bool} (h : AsksC g cb n₀ w p) (hb : Below n₀ w w') : AsksC g cb n₀ w' p := fun W r hb' => h W r (hb.trans hb')
/-- The first index at which p holds; -1 if there is none. -/
def cue_first (L : List (CueR)) (p : CueR → Bool) : Int := match (List.range L.length).find? (fun i => p (cg L i)) with
  | some i => i
  | none => -1
theorem cue_first_hit (L : List (CueR)) (p : CueR → Bool) (k : Nat) (hk : k < L.length) (h : p (cg L k) = true) (hn : ∀ j, j < k → p (cg L j) = false) : cue_first L p = k := by
  unfold cue_first
  have : (List.range L.length).find? (fun i => p (cg L i)) = some k := by
    rw [List.find?_eq_some_iff_getElem]
    refine ⟨by simpa using h, k, by simpa using hk, by simp, fun j hj => ?_⟩
    simpa using hn j hj
  rw [this]
theorem cue_first_miss (L : List (CueR)) (p : CueR → Bool) (hn : ∀ j, j < L.length → p (cg L j) = false) : cue_first L p = -1 := by
  unfold cue_first
  have : (List.range L.length).find? (fun i => p (cg L i)) = none := by
    rw [List.find?_eq_none]
    intro x hx
    simpa using hn x (by simpa using hx)
  rw [this]
theorem cue_first_cases (L : List (CueR)) (p : CueR → Bool) : (cue_first L p = -1 ∧ ∀ j, j < L.length → p (cg L j) = false) ∨ ∃ k : Nat, k < L.length ∧ cue_first L p = k ∧ p (cg L k) = true ∧ ∀ j, j < k → p (cg L j) = false := by
  have main : ∀ n, n ≤ L.length → (∀ j, j < n → p (cg L j) = false) ∨ ∃ k, k < n ∧ p (cg L k) = true ∧ ∀ j, j < k → p (cg L j) = false := by
    intro n
    induction n with
    | zero => exact fun _ => .inl fun j hj => absurd hj (Nat.not_lt_zero _)
    | succ n ih =>
      intro hn
      rcases ih (by omega) with h | ⟨k, hk, h1, h2⟩
      · cases e : p (cg L n)
        · refine .inl fun j hj => ?_
          rcases Nat.lt_or_ge j n with l | l
          · exact h j l
          · obtain rfl : j = n := by omega
            exact e
        · exact .inr ⟨n, by omega, e, h⟩
      · exact .inr ⟨k, by omega, h1, h2⟩
  rcases main L.length (Nat.le_refl _) with h | ⟨k, hk, h1, h2⟩
  · exact .inl ⟨cue_first_miss L p h, h⟩
  · exact .inr ⟨k, hk, cue_first_hit L p k hk h1 h2, h1, h2⟩
def cue_any (L : List (CueR)) (p : CueR → Bool) : Bool := decide (0 ≤ cue_first L p)
theorem cue_any_eq (L : List (CueR)) (p : CueR → Bool) : cue_any L p = L.any p := by
  unfold cue_any
  rw [Bool.eq_iff_iff, List.any_eq_true, decide_eq_true_eq]
  rcases cue_first_cases L p with ⟨h, h2⟩ | ⟨k, hk, h, h1, _⟩
  · rw [h]
    refine ⟨fun h => by omega, fun ⟨x, hx, hp⟩ => ?_⟩
    obtain ⟨j, hj, e⟩ := List.getElem_of_mem hx
    have := h2 j hj
    rw [cg_eq L j hj, e, hp] at this
    cases this
  · rw [h]
    exact ⟨fun _ => ⟨_, by rw [cg_eq L k hk]; exact List.getElem_mem hk, h1⟩, fun _ => by omega⟩

/-! ### Slices of [2]string -/

def pg (L : List (ByteArray × ByteArray)) (i : Nat) : ByteArray × ByteArray := (L[i]?).getD (⟨#[]⟩, ⟨#[]⟩)
theorem pg_eq (L : List (ByteArray × ByteArray)) (i : Nat) (h : i < L.length) : pg L i = L[i] := by unfold pg; rw [List.getElem?_eq_getElem h]; rfl
theorem pg_get {L : List (ByteArray × ByteArray)} {i : Nat} (h : i < L.length) : L[i]? = some (pg L i) := by rw [pg_eq L i h, List.getElem?_eq_getElem h]
theorem pg_ext (F1 F2 : List (ByteArray × ByteArray)) (hl : F1.length = F2.length) (h : ∀ j, j < F1.length → pg F1 j = pg F2 j) : F1 = F2 := by
  refine List.ext_getElem hl fun i h1 h2 => ?_
  have := h i h1
  rwa [pg_eq F1 i h1, pg_eq F2 i h2] at this
theorem pg_old (L : List (ByteArray × ByteArray)) (x : ByteArray × ByteArray) (i : Nat) (h : i < L.length) : pg (L ++ [x]) i = pg L i := by unfold pg; rw [List.getElem?_append_left h]
theorem pg_new (L : List (ByteArray × ByteArray)) (x : ByteArray × ByteArray) : pg (L ++ [x]) L.length = x := by unfold pg; simp
def pairV (r : ByteArray × ByteArray) : Value := .agg #[.string r.1, .string r.2]
def pflat (L : List (ByteArray × ByteArray)) : List Value := L.flatMap fun r => [.string r.1, .string r.2]
theorem pflat_at (L : List (ByteArray × ByteArray)) (i : Nat) (hi : i < L.length) : (pflat L)[i * 2]? = some (.string (pg L i).1) ∧ (pflat L)[i * 2 + 1]? = some (.string (pg L i).2) := by
  induction L generalizing i with
  | nil => simp at hi
  | cons x r ih =>
    match i with
    | 0 => exact ⟨rfl, rfl⟩
    | i + 1 =>
      have := ih i (by simpa using hi)
      have e : pflat (x :: r) = .string x.1 :: .string x.2 :: pflat r := rfl
      rw [e, show (i + 1) * 2 = i * 2 + 1 + 1 by omega]
      simpa [pg] using this
theorem pflat_snoc (L : List (ByteArray × ByteArray)) (r : ByteArray × ByteArray) : pflat (L ++ [r]) = pflat L ++ [.string r.1, .string r.2] := by simp [pflat]
/-- The elements of a slice at address a are L; they lie in a block below n₀. -/
def Pairs (n₀ : Nat) (w : World) (a : Option Addr) (L : List (ByteArray × ByteArray)) : Prop :=
  0 < L.length → ∃ b off, a = some ⟨b, off, none⟩ ∧ b < n₀ ∧ ∀ i, i < L.length → w.cell? ⟨b, off + i * 2, none⟩ = some (.string (pg L i).1) ∧ w.cell? ⟨b, off + i * 2 + 1, none⟩ = some (.string (pg L i).2)
theorem Pairs.below {n₀ : Nat} {w w' : World} {a : Option Addr} {L : List (ByteArray × ByteArray)} (h : Pairs n₀ w a L) (hb : Below n₀ w w') : Pairs n₀ w' a L := fun hl => by
  obtain ⟨b, off, rfl, hlt, hc⟩ := h hl
  refine ⟨b, off, rfl, hlt, fun i hi => ?_⟩
  obtain ⟨c0, c1⟩ := hc i hi
  exact ⟨(hb.cell (p := ⟨b, _, none⟩) hlt).trans c0, (hb.cell (p := ⟨b, _, none⟩) hlt).trans c1⟩
theorem Pairs.mono {n₀ n₁ : Nat} {w : World} {a : Option Addr} {L : List (ByteArray × ByteArray)} (h : Pairs n₀ w a L) (hn : n₀ ≤ n₁) : Pairs n₁ w a L := fun hl => by
  obtain ⟨b, off, rfl, hlt, hc⟩ := h hl
  exact ⟨b, off, rfl, by omega, hc⟩
theorem Pairs.grow {w w' : World} {a : Option Addr} {L : List (ByteArray × ByteArray)} (h : Pairs w.heap.size w a L) (hb : Below w.heap.size w w') : Pairs w'.heap.size w' a L := (h.below hb).mono hb.size
theorem Pairs.nil {n₀ : Nat} {w : World} {a : Option Addr} : Pairs n₀ w a [] := fun h => absurd h (Nat.not_lt_zero _)
/-- The first n of them. -/
theorem Pairs.take {n₀ : Nat} {w : World} {a : Option Addr} {L : List (ByteArray × ByteArray)} (h : Pairs n₀ w a L) (n : Nat) : Pairs n₀ w a (L.take n) := fun hl => by
  have hl' : 0 < L.length := by rw [List.length_take] at hl; omega
  obtain ⟨b, off, rfl, hlt, hc⟩ := h hl'
  refine ⟨b, off, rfl, hlt, fun i hi => ?_⟩
  rw [List.length_take] at hi
  have e : pg (L.take n) i = pg L i := by unfold pg; rw [List.getElem?_take, if_pos (by omega)]
  rw [e]
  exact hc i (by omega)
theorem pair_len (L : List (ByteArray × ByteArray)) : (pflat L).length = L.length * 2 := by
  induction L with
  | nil => rfl
  | cons x r ih =>
    have e : pflat (x :: r) = .string x.1 :: .string x.2 :: pflat r := rfl
    rw [e]
    simp only [List.length_cons, ih]
    try omega
theorem pair_one (L : List (ByteArray × ByteArray)) : ∀ u ∈ pflat L, u.oneCell' = true := by
  induction L with
  | nil => intro u hu; cases hu
  | cons x r ih =>
    have e : pflat (x :: r) = .string x.1 :: .string x.2 :: pflat r := rfl
    rw [e]
    intro u hu
    simp only [List.mem_cons] at hu
    rcases hu with rfl | rfl | hu
    · rfl
    · rfl
    · exact ih u hu
/-- A slice of records: its cells, one behind the other. -/
theorem pair_cells {n₀ : Nat} {w : World} {b off : Nat} {L : List (ByteArray × ByteArray)} (h : Pairs n₀ w (some ⟨b, off, none⟩) L) : ∀ j u, (pflat L)[j]? = some u → w.cell? ((⟨b, off, none⟩ : Addr).add j) = some u := by
  intro j u hj
  have hlt : j < L.length * 2 := by
    rw [← pair_len]
    exact (List.getElem?_eq_some_iff.1 hj).1
  obtain ⟨b', off', e, _, hc⟩ := h (by omega)
  simp only [Option.some.injEq, Addr.mk.injEq, and_true] at e
  obtain ⟨rfl, rfl⟩ := e
  rw [Go.WideShapes.add_plain]
  obtain ⟨f0, f1⟩ := pflat_at L (j / 2) (by omega)
  obtain ⟨c0, c1⟩ := hc (j / 2) (by omega)
  rcases (show j = j / 2 * 2 ∨ j = j / 2 * 2 + 1 by omega) with e | e
  · first | (rw [e, f0] at hj; rw [e, c0]; exact hj) | (rw [e, f0] at hj; rw [e, ← Nat.add_assoc, c0]; exact hj)
  · first | (rw [e, f1] at hj; rw [e, c1]; exact hj) | (rw [e, f1] at hj; rw [e, ← Nat.add_assoc, c1]; exact hj)
/-- A row of the call's own reads so. -/
theorem pair_of_row {w : World} {base : Nat} {v : Value} {L : List (ByteArray × ByteArray)} (h : w.ownsRow base 52 2 v L.length (pflat L)) : ∃ a cap, v = .slice a L.length cap ∧ L.length ≤ cap ∧ cap ≤ maxLen ∧ (a = none → cap = 0) ∧ Pairs w.heap.size w a L := by
  rcases h.2 with ⟨rfl, h0⟩ | ⟨g, cap, cur, rfl, hb, hg, h1, h2, _⟩
  · exact ⟨none, 0, by rw [h0], by omega, by unfold maxLen; omega, fun _ => rfl, fun hl => by omega⟩
  · refine ⟨_, cap, rfl, h1, h2, (fun e => by cases e), fun _ => ⟨g, 0, rfl, (Array.getElem?_eq_some_iff.1 hg).1, fun i hi => ?_⟩⟩
    obtain ⟨f0, f1⟩ := pflat_at L i hi
    have c0 := h.cellAt (i * 2) (by omega)
    have c1 := h.cellAt (i * 2 + 1) (by omega)
    rw [f0] at c0
    rw [f1] at c1
    rw [Nat.zero_add]
    exact ⟨c0, c1⟩
/-- A closure that asks p of an element, wherever it is called later. -/
def AsksP (g : Nat) (cb : Array Value) (n₀ : Nat) (w : World) (p : ByteArray × ByteArray → Bool) : Prop :=
  ∀ (W : World) (r : ByteArray × ByteArray), Below n₀ w W → Calls Try.prog g (#[pairV r] ++ cb) W fun e w' => e = .returned (.bool (p r)) ∧ Below W.heap.size W w'
theorem pair_asks_mono {g : Nat} {cb : Array Value} {n₀ n₁ : Nat} {w : World} {p : ByteArray × ByteArray → Bool} (h : AsksP g cb n₀ w p) (hn : n₀ ≤ n₁) : AsksP g cb n₁ w p := fun W r hb => h W r (hb.mono hn)
theorem pair_asks_below {g : Nat} {cb : Array Value} {n₀ : Nat} {w w' : World} {p : ByteArray × ByteArray → Bool} (h : AsksP g cb n₀ w p) (hb : Below n₀ w w') : AsksP g cb n₀ w' p := fun W r hb' => h W r (hb.trans hb')
/-- The first index at which p holds; -1 if there is none. -/
def pair_first (L : List (ByteArray × ByteArray)) (p : ByteArray × ByteArray → Bool) : Int := match (List.range L.length).find? (fun i => p (pg L i)) with
  | some i => i
  | none => -1
theorem pair_first_hit (L : List (ByteArray × ByteArray)) (p : ByteArray × ByteArray → Bool) (k : Nat) (hk : k < L.length) (h : p (pg L k) = true) (hn : ∀ j, j < k → p (pg L j) = false) : pair_first L p = k := by
  unfold pair_first
  have : (List.range L.length).find? (fun i => p (pg L i)) = some k := by
    rw [List.find?_eq_some_iff_getElem]
    refine ⟨by simpa using h, k, by simpa using hk, by simp, fun j hj => ?_⟩
    simpa using hn j hj
  rw [this]
theorem pair_first_miss (L : List (ByteArray × ByteArray)) (p : ByteArray × ByteArray → Bool) (hn : ∀ j, j < L.length → p (pg L j) = false) : pair_first L p = -1 := by
  unfold pair_first
  have : (List.range L.length).find? (fun i => p (pg L i)) = none := by
    rw [List.find?_eq_none]
    intro x hx
    simpa using hn x (by simpa using hx)
  rw [this]
theorem pair_first_cases (L : List (ByteArray × ByteArray)) (p : ByteArray × ByteArray → Bool) : (pair_first L p = -1 ∧ ∀ j, j < L.length → p (pg L j) = false) ∨ ∃ k : Nat, k < L.length ∧ pair_first L p = k ∧ p (pg L k) = true ∧ ∀ j, j < k → p (pg L j) = false := by
  have main : ∀ n, n ≤ L.length → (∀ j, j < n → p (pg L j) = false) ∨ ∃ k, k < n ∧ p (pg L k) = true ∧ ∀ j, j < k → p (pg L j) = false := by
    intro n
    induction n with
    | zero => exact fun _ => .inl fun j hj => absurd hj (Nat.not_lt_zero _)
    | succ n ih =>
      intro hn
      rcases ih (by omega) with h | ⟨k, hk, h1, h2⟩
      · cases e : p (pg L n)
        · refine .inl fun j hj => ?_
          rcases Nat.lt_or_ge j n with l | l
          · exact h j l
          · obtain rfl : j = n := by omega
            exact e
        · exact .inr ⟨n, by omega, e, h⟩
      · exact .inr ⟨k, by omega, h1, h2⟩
  rcases main L.length (Nat.le_refl _) with h | ⟨k, hk, h1, h2⟩
  · exact .inl ⟨pair_first_miss L p h, h⟩
  · exact .inr ⟨k, hk, pair_first_hit L p k hk h1 h2, h1, h2⟩
def pair_any (L : List (ByteArray × ByteArray)) (p : ByteArray × ByteArray → Bool) : Bool := decide (0 ≤ pair_first L p)
theorem pair_any_eq (L : List (ByteArray × ByteArray)) (p : ByteArray × ByteArray → Bool) : pair_any L p = L.any p := by
  unfold pair_any
  rw [Bool.eq_iff_iff, List.any_eq_true, decide_eq_true_eq]
  rcases pair_first_cases L p with ⟨h, h2⟩ | ⟨k, hk, h, h1, _⟩
  · rw [h]
    refine ⟨fun h => by omega, fun ⟨x, hx, hp⟩ => ?_⟩
    obtain ⟨j, hj, e⟩ := List.getElem_of_mem hx
    have := h2 j hj
    rw [pg_eq L j hj, e, hp] at this
    cases this
  · rw [h]
    exact ⟨fun _ => ⟨_, by rw [pg_eq L k hk]; exact List.getElem_mem hk, h1⟩, fun _ => by omega⟩

/-! ### Slices of int -/

def ig (L : List (Int)) (i : Nat) : Int := (L[i]?).getD 0
theorem ig_eq (L : List (Int)) (i : Nat) (h : i < L.length) : ig L i = L[i] := by unfold ig; rw [List.getElem?_eq_getElem h]; rfl
theorem ig_get {L : List (Int)} {i : Nat} (h : i < L.length) : L[i]? = some (ig L i) := by rw [ig_eq L i h, List.getElem?_eq_getElem h]
theorem ig_ext (F1 F2 : List (Int)) (hl : F1.length = F2.length) (h : ∀ j, j < F1.length → ig F1 j = ig F2 j) : F1 = F2 := by
  refine List.ext_getElem hl fun i h1 h2 => ?_
  have := h i h1
  rwa [ig_eq F1 i h1, ig_eq F2 i h2] at this
theorem ig_old (L : List (Int)) (x : Int) (i : Nat) (h : i < L.length) : ig (L ++ [x]) i = ig L i := by unfold ig; rw [List.getElem?_append_left h]
theorem ig_new (L : List (Int)) (x : Int) : ig (L ++ [x]) L.length = x := by unfold ig; simp
def numV (r : Int) : Value := .int .i64 r
def nflat (L : List (Int)) : List Value := L.flatMap fun r => [.int .i64 r]
theorem nflat_at (L : List (Int)) (i : Nat) (hi : i < L.length) : (nflat L)[i]? = some (.int .i64 (ig L i)) := by
  induction L generalizing i with
  | nil => simp at hi
  | cons x r ih =>
    match i with
    | 0 => exact rfl
    | i + 1 =>
      have := ih i (by simpa using hi)
      have e : nflat (x :: r) = .int .i64 x :: nflat r := rfl
      rw [e, show (i + 1) = i + 1 by omega]
      simpa [ig] using this
theorem nflat_snoc (L : List (Int)) (r : Int) : nflat (L ++ [r]) = nflat L ++ [.int .i64 r] := by simp [nflat]
/-- The elements of a slice at address a are L; they lie in a block below n₀. -/
def Nums (n₀ : Nat) (w : World) (a : Option Addr) (L : List (Int)) : Prop :=
  0 < L.length → ∃ b off, a = some ⟨b, off, none⟩ ∧ b < n₀ ∧ ∀ i, i < L.length → w.cell? ⟨b, off + i, none⟩ = some (.int .i64 (ig L i))
theorem Nums.below {n₀ : Nat} {w w' : World} {a : Option Addr} {L : List (Int)} (h : Nums n₀ w a L) (hb : Below n₀ w w') : Nums n₀ w' a L := fun hl => by
  obtain ⟨b, off, rfl, hlt, hc⟩ := h hl
  refine ⟨b, off, rfl, hlt, fun i hi => ?_⟩
  have c0 := hc i hi
  exact (hb.cell (p := ⟨b, _, none⟩) hlt).trans c0
theorem Nums.mono {n₀ n₁ : Nat} {w : World} {a : Option Addr} {L : List (Int)} (h : Nums n₀ w a L) (hn : n₀ ≤ n₁) : Nums n₁ w a L := fun hl => by
  obtain ⟨b, off, rfl, hlt, hc⟩ := h hl
  exact ⟨b, off, rfl, by omega, hc⟩
theorem Nums.grow {w w' : World} {a : Option Addr} {L : List (Int)} (h : Nums w.heap.size w a L) (hb : Below w.heap.size w w') : Nums w'.heap.size w' a L := (h.below hb).mono hb.size
theorem Nums.nil {n₀ : Nat} {w : World} {a : Option Addr} : Nums n₀ w a [] := fun h => absurd h (Nat.not_lt_zero _)
/-- The first n of them. -/
theorem Nums.take {n₀ : Nat} {w : World} {a : Option Addr} {L : List (Int)} (h : Nums n₀ w a L) (n : Nat) : Nums n₀ w a (L.take n) := fun hl => by
  have hl' : 0 < L.length := by rw [List.length_take] at hl; omega
  obtain ⟨b, off, rfl, hlt, hc⟩ := h hl'
  refine ⟨b, off, rfl, hlt, fun i hi => ?_⟩
  rw [List.length_take] at hi
  have e : ig (L.take n) i = ig L i := by unfold ig; rw [List.getElem?_take, if_pos (by omega)]
  rw [e]
  exact hc i (by omega)
theorem num_len (L : List (Int)) : (nflat L).length = L.length := by
  induction L with
  | nil => rfl
  | cons x r ih =>
    have e : nflat (x :: r) = .int .i64 x :: nflat r := rfl
    rw [e]
    simp only [List.length_cons, ih]
    try omega
theorem num_one (L : List (Int)) : ∀ u ∈ nflat L, u.oneCell' = true := by
  induction L with
  | nil => intro u hu; cases hu
  | cons x r ih =>
    have e : nflat (x :: r) = .int .i64 x :: nflat r := rfl
    rw [e]
    intro u hu
    simp only [List.mem_cons] at hu
    rcases hu with rfl | hu
    · rfl
    · exact ih u hu
/-- A slice of records: its cells, one behind the other. -/
theorem num_cells {n₀ : Nat} {w : World} {b off : Nat} {L : List (Int)} (h : Nums n₀ w (some ⟨b, off, none⟩) L) : ∀ j u, (nflat L)[j]? = some u → w.cell? ((⟨b, off, none⟩ : Addr).add j) = some u := by
  intro j u hj
  have hlt : j < L.length := by
    rw [← num_len]
    exact (List.getElem?_eq_some_iff.1 hj).1
  obtain ⟨b', off', e, _, hc⟩ := h (by omega)
  simp only [Option.some.injEq, Addr.mk.injEq, and_true] at e
  obtain ⟨rfl, rfl⟩ := e
  rw [Go.WideShapes.add_plain]
  have f0 := nflat_at L j hlt
  have c0 := hc j hlt
  rw [f0] at hj; rw [c0]; exact hj
/-- A row of the call's own reads so. -/
theorem num_of_row {w : World} {base : Nat} {v : Value} {L : List (Int)} (h : w.ownsRow base 3 1 v L.length (nflat L)) : ∃ a cap, v = .slice a L.length cap ∧ L.length ≤ cap ∧ cap ≤ maxLen ∧ (a = none → cap = 0) ∧ Nums w.heap.size w a L := by
  rcases h.2 with ⟨rfl, h0⟩ | ⟨g, cap, cur, rfl, hb, hg, h1, h2, _⟩
  · exact ⟨none, 0, by rw [h0], by omega, by unfold maxLen; omega, fun _ => rfl, fun hl => by omega⟩
  · refine ⟨_, cap, rfl, h1, h2, (fun e => by cases e), fun _ => ⟨g, 0, rfl, (Array.getElem?_eq_some_iff.1 hg).1, fun i hi => ?_⟩⟩
    have f0 := nflat_at L i hi
    have c0 := h.cellAt (i) (by omega)
    rw [f0] at c0
    rw [Nat.zero_add]
    exact c0
/-- A closure that asks p of an element, wherever it is called later. -/
def AsksN (g : Nat) (cb : Array Value) (n₀ : Nat) (w : World) (p : Int → Bool) : Prop :=
  ∀ (W : World) (r : Int), Below n₀ w W → Calls Try.prog g (#[numV r] ++ cb) W fun e w' => e = .returned (.bool (p r)) ∧ Below W.heap.size W w'
theorem num_asks_mono {g : Nat} {cb : Array Value} {n₀ n₁ : Nat} {w : World} {p : Int → Bool} (h : AsksN g cb n₀ w p) (hn : n₀ ≤ n₁) : AsksN g cb n₁ w p := fun W r hb => h W r (hb.mono hn)
theorem num_asks_below {g : Nat} {cb : Array Value} {n₀ : Nat} {w w' : World} {p : Int → Bool} (h : AsksN g cb n₀ w p) (hb : Below n₀ w w') : AsksN g cb n₀ w' p := fun W r hb' => h W r (hb.trans hb')
/-- The first index at which p holds; -1 if there is none. -/
def num_first (L : List (Int)) (p : Int → Bool) : Int := match (List.range L.length).find? (fun i => p (ig L i)) with
  | some i => i
  | none => -1
theorem num_first_hit (L : List (Int)) (p : Int → Bool) (k : Nat) (hk : k < L.length) (h : p (ig L k) = true) (hn : ∀ j, j < k → p (ig L j) = false) : num_first L p = k := by
  unfold num_first
  have : (List.range L.length).find? (fun i => p (ig L i)) = some k := by
    rw [List.find?_eq_some_iff_getElem]
    refine ⟨by simpa using h, k, by simpa using hk, by simp, fun j hj => ?_⟩
    simpa using hn j hj
  rw [this]
theorem num_first_miss (L : List (Int)) (p : Int → Bool) (hn : ∀ j, j < L.length → p (ig L j) = false) : num_first L p = -1 := by
  unfold num_first
  have : (List.range L.length).find? (fun i => p (ig L i)) = none := by
    rw [List.find?_eq_none]
    intro x hx
    simpa using hn x (by simpa using hx)
  rw [this]
theorem num_first_cases (L : List (Int)) (p : Int → Bool) : (num_first L p = -1 ∧ ∀ j, j < L.length → p (ig L j) = false) ∨ ∃ k : Nat, k < L.length ∧ num_first L p = k ∧ p (ig L k) = true ∧ ∀ j, j < k → p (ig L j) = false := by
  have main : ∀ n, n ≤ L.length → (∀ j, j < n → p (ig L j) = false) ∨ ∃ k, k < n ∧ p (ig L k) = true ∧ ∀ j, j < k → p (ig L j) = false := by
    intro n
    induction n with
    | zero => exact fun _ => .inl fun j hj => absurd hj (Nat.not_lt_zero _)
    | succ n ih =>
      intro hn
      rcases ih (by omega) with h | ⟨k, hk, h1, h2⟩
      · cases e : p (ig L n)
        · refine .inl fun j hj => ?_
          rcases Nat.lt_or_ge j n with l | l
          · exact h j l
          · obtain rfl : j = n := by omega
            exact e
        · exact .inr ⟨n, by omega, e, h⟩
      · exact .inr ⟨k, by omega, h1, h2⟩
  rcases main L.length (Nat.le_refl _) with h | ⟨k, hk, h1, h2⟩
  · exact .inl ⟨num_first_miss L p h, h⟩
  · exact .inr ⟨k, hk, num_first_hit L p k hk h1 h2, h1, h2⟩
def num_any (L : List (Int)) (p : Int → Bool) : Bool := decide (0 ≤ num_first L p)
theorem num_any_eq (L : List (Int)) (p : Int → Bool) : num_any L p = L.any p := by
  unfold num_any
  rw [Bool.eq_iff_iff, List.any_eq_true, decide_eq_true_eq]
  rcases num_first_cases L p with ⟨h, h2⟩ | ⟨k, hk, h, h1, _⟩
  · rw [h]
    refine ⟨fun h => by omega, fun ⟨x, hx, hp⟩ => ?_⟩
    obtain ⟨j, hj, e⟩ := List.getElem_of_mem hx
    have := h2 j hj
    rw [ig_eq L j hj, e, hp] at this
    cases this
  · rw [h]
    exact ⟨fun _ => ⟨_, by rw [ig_eq L k hk]; exact List.getElem_mem hk, h1⟩, fun _ => by omega⟩

/-! ### Slices of string -/

def sg (L : List (ByteArray)) (i : Nat) : ByteArray := (L[i]?).getD ⟨#[]⟩
theorem sg_eq (L : List (ByteArray)) (i : Nat) (h : i < L.length) : sg L i = L[i] := by unfold sg; rw [List.getElem?_eq_getElem h]; rfl
theorem sg_get {L : List (ByteArray)} {i : Nat} (h : i < L.length) : L[i]? = some (sg L i) := by rw [sg_eq L i h, List.getElem?_eq_getElem h]
theorem sg_ext (F1 F2 : List (ByteArray)) (hl : F1.length = F2.length) (h : ∀ j, j < F1.length → sg F1 j = sg F2 j) : F1 = F2 := by
  refine List.ext_getElem hl fun i h1 h2 => ?_
  have := h i h1
  rwa [sg_eq F1 i h1, sg_eq F2 i h2] at this
theorem sg_old (L : List (ByteArray)) (x : ByteArray) (i : Nat) (h : i < L.length) : sg (L ++ [x]) i = sg L i := by unfold sg; rw [List.getElem?_append_left h]
theorem sg_new (L : List (ByteArray)) (x : ByteArray) : sg (L ++ [x]) L.length = x := by unfold sg; simp
def strV (r : ByteArray) : Value := .string r
def sflat (L : List (ByteArray)) : List Value := L.flatMap fun r => [.string r]
theorem sflat_at (L : List (ByteArray)) (i : Nat) (hi : i < L.length) : (sflat L)[i]? = some (.string (sg L i)) := by
  induction L generalizing i with
  | nil => simp at hi
  | cons x r ih =>
    match i with
    | 0 => exact rfl
    | i + 1 =>
      have := ih i (by simpa using hi)
      have e : sflat (x :: r) = .string x :: sflat r := rfl
      rw [e, show (i + 1) = i + 1 by omega]
      simpa [sg] using this
theorem sflat_snoc (L : List (ByteArray)) (r : ByteArray) : sflat (L ++ [r]) = sflat L ++ [.string r] := by simp [sflat]
/-- The elements of a slice at address a are L; they lie in a block below n₀. -/
def Strs (n₀ : Nat) (w : World) (a : Option Addr) (L : List (ByteArray)) : Prop :=
  0 < L.length → ∃ b off, a = some ⟨b, off, none⟩ ∧ b < n₀ ∧ ∀ i, i < L.length → w.cell? ⟨b, off + i, none⟩ = some (.string (sg L i))
theorem Strs.below {n₀ : Nat} {w w' : World} {a : Option Addr} {L : List (ByteArray)} (h : Strs n₀ w a L) (hb : Below n₀ w w') : Strs n₀ w' a L := fun hl => by
  obtain ⟨b, off, rfl, hlt, hc⟩ := h hl
  refine ⟨b, off, rfl, hlt, fun i hi => ?_⟩
  have c0 := hc i hi
  exact (hb.cell (p := ⟨b, _, none⟩) hlt).trans c0
theorem Strs.mono {n₀ n₁ : Nat} {w : World} {a : Option Addr} {L : List (ByteArray)} (h : Strs n₀ w a L) (hn : n₀ ≤ n₁) : Strs n₁ w a L := fun hl => by
  obtain ⟨b, off, rfl, hlt, hc⟩ := h hl
  exact ⟨b, off, rfl, by omega, hc⟩
theorem Strs.grow {w w' : World} {a : Option Addr} {L : List (ByteArray)} (h : Strs w.heap.size w a L) (hb : Below w.heap.size w w') : Strs w'.heap.size w' a L := (h.below hb).mono hb.size
theorem Strs.nil {n₀ : Nat} {w : World} {a : Option Addr} : Strs n₀ w a [] := fun h => absurd h (Nat.not_lt_zero _)
/-- The first n of them. -/
theorem Strs.take {n₀ : Nat} {w : World} {a : Option Addr} {L : List (ByteArray)} (h : Strs n₀ w a L) (n : Nat) : Strs n₀ w a (L.take n) := fun hl => by
  have hl' : 0 < L.length := by rw [List.length_take] at hl; omega
  obtain ⟨b, off, rfl, hlt, hc⟩ := h hl'
  refine ⟨b, off, rfl, hlt, fun i hi => ?_⟩
  rw [List.length_take] at hi
  have e : sg (L.take n) i = sg L i := by unfold sg; rw [List.getElem?_take, if_pos (by omega)]
  rw [e]
  exact hc i (by omega)
theorem str_len (L : List (ByteArray)) : (sflat L).length = L.length := by
  induction L with
  | nil => rfl
  | cons x r ih =>
    have e : sflat (x :: r) = .string x :: sflat r := rfl
    rw [e]
    simp only [List.length_cons, ih]
    try omega
theorem str_one (L : List (ByteArray)) : ∀ u ∈ sflat L, u.oneCell' = true := by
  induction L with
  | nil => intro u hu; cases hu
  | cons x r ih =>
    have e : sflat (x :: r) = .string x :: sflat r := rfl
    rw [e]
    intro u hu
    simp only [List.mem_cons] at hu
    rcases hu with rfl | hu
    · rfl
    · exact ih u hu
/-- A slice of records: its cells, one behind the other. -/
theorem str_cells {n₀ : Nat} {w : World} {b off : Nat} {L : List (ByteArray)} (h : Strs n₀ w (some ⟨b, off, none⟩) L) : ∀ j u, (sflat L)[j]? = some u → w.cell? ((⟨b, off, none⟩ : Addr).add j) = some u := by
  intro j u hj
  have hlt : j < L.length := by
    rw [← str_len]
    exact (List.getElem?_eq_some_iff.1 hj).1
  obtain ⟨b', off', e, _, hc⟩ := h (by omega)
  simp only [Option.some.injEq, Addr.mk.injEq, and_true] at e
  obtain ⟨rfl, rfl⟩ := e
  rw [Go.WideShapes.add_plain]
  have f0 := sflat_at L j hlt
  have c0 := hc j hlt
  rw [f0] at hj; rw [c0]; exact hj
/-- A row of the call's own reads so. -/
theorem str_of_row {w : World} {base : Nat} {v : Value} {L : List (ByteArray)} (h : w.ownsRow base 9 1 v L.length (sflat L)) : ∃ a cap, v = .slice a L.length cap ∧ L.length ≤ cap ∧ cap ≤ maxLen ∧ (a = none → cap = 0) ∧ Strs w.heap.size w a L := by
  rcases h.2 with ⟨rfl, h0⟩ | ⟨g, cap, cur, rfl, hb, hg, h1, h2, _⟩
  · exact ⟨none, 0, by rw [h0], by omega, by unfold maxLen; omega, fun _ => rfl, fun hl => by omega⟩
  · refine ⟨_, cap, rfl, h1, h2, (fun e => by cases e), fun _ => ⟨g, 0, rfl, (Array.getElem?_eq_some_iff.1 hg).1, fun i hi => ?_⟩⟩
    have f0 := sflat_at L i hi
    have c0 := h.cellAt (i) (by omega)
    rw [f0] at c0
    rw [Nat.zero_add]
    exact c0
/-- A closure that asks p of an element, wherever it is called later. -/
def AsksS (g : Nat) (cb : Array Value) (n₀ : Nat) (w : World) (p : ByteArray → Bool) : Prop :=
  ∀ (W : World) (r : ByteArray), Below n₀ w W → Calls Try.prog g (#[strV r] ++ cb) W fun e w' => e = .returned (.bool (p r)) ∧ Below W.heap.size W w'
theorem str_asks_mono {g : Nat} {cb : Array Value} {n₀ n₁ : Nat} {w : World} {p : ByteArray → Bool} (h : AsksS g cb n₀ w p) (hn : n₀ ≤ n₁) : AsksS g cb n₁ w p := fun W r hb => h W r (hb.mono hn)
theorem str_asks_below {g : Nat} {cb : Array Value} {n₀ : Nat} {w w' : World} {p : ByteArray → Bool} (h : AsksS g cb n₀ w p) (hb : Below n₀ w w') : AsksS g cb n₀ w' p := fun W r hb' => h W r (hb.trans hb')
/-- The first index at which p holds; -1 if there is none. -/
def str_first (L : List (ByteArray)) (p : ByteArray → Bool) : Int := match (List.range L.length).find? (fun i => p (sg L i)) with
  | some i => i
  | none => -1
theorem str_first_hit (L : List (ByteArray)) (p : ByteArray → Bool) (k : Nat) (hk : k < L.length) (h : p (sg L k) = true) (hn : ∀ j, j < k → p (sg L j) = false) : str_first L p = k := by
  unfold str_first
  have : (List.range L.length).find? (fun i => p (sg L i)) = some k := by
    rw [List.find?_eq_some_iff_getElem]
    refine ⟨by simpa using h, k, by simpa using hk, by simp, fun j hj => ?_⟩
    simpa using hn j hj
  rw [this]
theorem str_first_miss (L : List (ByteArray)) (p : ByteArray → Bool) (hn : ∀ j, j < L.length → p (sg L j) = false) : str_first L p = -1 := by
  unfold str_first
  have : (List.range L.length).find? (fun i => p (sg L i)) = none := by
    rw [List.find?_eq_none]
    intro x hx
    simpa using hn x (by simpa using hx)
  rw [this]
theorem str_first_cases (L : List (ByteArray)) (p : ByteArray → Bool) : (str_first L p = -1 ∧ ∀ j, j < L.length → p (sg L j) = false) ∨ ∃ k : Nat, k < L.length ∧ str_first L p = k ∧ p (sg L k) = true ∧ ∀ j, j < k → p (sg L j) = false := by
  have main : ∀ n, n ≤ L.length → (∀ j, j < n → p (sg L j) = false) ∨ ∃ k, k < n ∧ p (sg L k) = true ∧ ∀ j, j < k → p (sg L j) = false := by
    intro n
    induction n with
    | zero => exact fun _ => .inl fun j hj => absurd hj (Nat.not_lt_zero _)
    | succ n ih =>
      intro hn
      rcases ih (by omega) with h | ⟨k, hk, h1, h2⟩
      · cases e : p (sg L n)
        · refine .inl fun j hj => ?_
          rcases Nat.lt_or_ge j n with l | l
          · exact h j l
          · obtain rfl : j = n := by omega
            exact e
        · exact .inr ⟨n, by omega, e, h⟩
      · exact .inr ⟨k, by omega, h1, h2⟩
  rcases main L.length (Nat.le_refl _) with h | ⟨k, hk, h1, h2⟩
  · exact .inl ⟨str_first_miss L p h, h⟩
  · exact .inr ⟨k, hk, str_first_hit L p k hk h1 h2, h1, h2⟩
def str_any (L : List (ByteArray)) (p : ByteArray → Bool) : Bool := decide (0 ≤ str_first L p)
theorem str_any_eq (L : List (ByteArray)) (p : ByteArray → Bool) : str_any L p = L.any p := by
  unfold str_any
  rw [Bool.eq_iff_iff, List.any_eq_true, decide_eq_true_eq]
  rcases str_first_cases L p with ⟨h, h2⟩ | ⟨k, hk, h, h1, _⟩
  · rw [h]
    refine ⟨fun h => by omega, fun ⟨x, hx, hp⟩ => ?_⟩
    obtain ⟨j, hj, e⟩ := List.getElem_of_mem hx
    have := h2 j hj
    rw [sg_eq L j hj, e, hp] at this
    cases this
  · rw [h]
    exact ⟨fun _ => ⟨_, by rw [sg_eq L k hk]; exact List.getElem_mem hk, h1⟩, fun _ => by omega⟩

/-! ### Slices of api.Finding -/

def fg (L : List (Int × ByteArray)) (i : Nat) : Int × ByteArray := (L[i]?).getD (0, ⟨#[]⟩)
theorem fg_eq (L : List (Int × ByteArray)) (i : Nat) (h : i < L.length) : fg L i = L[i] := by unfold fg; rw [List.getElem?_eq_getElem h]; rfl
theorem fg_get {L : List (Int × ByteArray)} {i : Nat} (h : i < L.length) : L[i]? = some (fg L i) := by rw [fg_eq L i h, List.getElem?_eq_getElem h]
theorem fg_ext (F1 F2 : List (Int × ByteArray)) (hl : F1.length = F2.length) (h : ∀ j, j < F1.length → fg F1 j = fg F2 j) : F1 = F2 := by
  refine List.ext_getElem hl fun i h1 h2 => ?_
  have := h i h1
  rwa [fg_eq F1 i h1, fg_eq F2 i h2] at this
theorem fg_old (L : List (Int × ByteArray)) (x : Int × ByteArray) (i : Nat) (h : i < L.length) : fg (L ++ [x]) i = fg L i := by unfold fg; rw [List.getElem?_append_left h]
theorem fg_new (L : List (Int × ByteArray)) (x : Int × ByteArray) : fg (L ++ [x]) L.length = x := by unfold fg; simp
def finV (r : Int × ByteArray) : Value := .agg #[.int .i64 r.1, .string r.2]
def flat (L : List (Int × ByteArray)) : List Value := L.flatMap fun r => [.int .i64 r.1, .string r.2]
theorem flat_at (L : List (Int × ByteArray)) (i : Nat) (hi : i < L.length) : (flat L)[i * 2]? = some (.int .i64 (fg L i).1) ∧ (flat L)[i * 2 + 1]? = some (.string (fg L i).2) := by
  induction L generalizing i with
  | nil => simp at hi
  | cons x r ih =>
    match i with
    | 0 => exact ⟨rfl, rfl⟩
    | i + 1 =>
      have := ih i (by simpa using hi)
      have e : flat (x :: r) = .int .i64 x.1 :: .string x.2 :: flat r := rfl
      rw [e, show (i + 1) * 2 = i * 2 + 1 + 1 by omega]
      simpa [fg] using this
theorem flat_snoc (L : List (Int × ByteArray)) (r : Int × ByteArray) : flat (L ++ [r]) = flat L ++ [.int .i64 r.1, .string r.2] := by simp [flat]
/-- The elements of a slice at address a are L; they lie in a block below n₀. -/
def Finds (n₀ : Nat) (w : World) (a : Option Addr) (L : List (Int × ByteArray)) : Prop :=
  0 < L.length → ∃ b off, a = some ⟨b, off, none⟩ ∧ b < n₀ ∧ ∀ i, i < L.length → w.cell? ⟨b, off + i * 2, none⟩ = some (.int .i64 (fg L i).1) ∧ w.cell? ⟨b, off + i * 2 + 1, none⟩ = some (.string (fg L i).2)
theorem Finds.below {n₀ : Nat} {w w' : World} {a : Option Addr} {L : List (Int × ByteArray)} (h : Finds n₀ w a L) (hb : Below n₀ w w') : Finds n₀ w' a L := fun hl => by
  obtain ⟨b, off, rfl, hlt, hc⟩ := h hl
  refine ⟨b, off, rfl, hlt, fun i hi => ?_⟩
  obtain ⟨c0, c1⟩ := hc i hi
  exact ⟨(hb.cell (p := ⟨b, _, none⟩) hlt).trans c0, (hb.cell (p := ⟨b, _, none⟩) hlt).trans c1⟩
theorem Finds.mono {n₀ n₁ : Nat} {w : World} {a : Option Addr} {L : List (Int × ByteArray)} (h : Finds n₀ w a L) (hn : n₀ ≤ n₁) : Finds n₁ w a L := fun hl => by
  obtain ⟨b, off, rfl, hlt, hc⟩ := h hl
  exact ⟨b, off, rfl, by omega, hc⟩
theorem Finds.grow {w w' : World} {a : Option Addr} {L : List (Int × ByteArray)} (h : Finds w.heap.size w a L) (hb : Below w.heap.size w w') : Finds w'.heap.size w' a L := (h.below hb).mono hb.size
theorem Finds.nil {n₀ : Nat} {w : World} {a : Option Addr} : Finds n₀ w a [] := fun h => absurd h (Nat.not_lt_zero _)
/-- The first n of them. -/
theorem Finds.take {n₀ : Nat} {w : World} {a : Option Addr} {L : List (Int × ByteArray)} (h : Finds n₀ w a L) (n : Nat) : Finds n₀ w a (L.take n) := fun hl => by
  have hl' : 0 < L.length := by rw [List.length_take] at hl; omega
  obtain ⟨b, off, rfl, hlt, hc⟩ := h hl'
  refine ⟨b, off, rfl, hlt, fun i hi => ?_⟩
  rw [List.length_take] at hi
  have e : fg (L.take n) i = fg L i := by unfold fg; rw [List.getElem?_take, if_pos (by omega)]
  rw [e]
  exact hc i (by omega)
theorem fin_len (L : List (Int × ByteArray)) : (flat L).length = L.length * 2 := by
  induction L with
  | nil => rfl
  | cons x r ih =>
    have e : flat (x :: r) = .int .i64 x.1 :: .string x.2 :: flat r := rfl
    rw [e]
    simp only [List.length_cons, ih]
    try omega
theorem fin_one (L : List (Int × ByteArray)) : ∀ u ∈ flat L, u.oneCell' = true := by
  induction L with
  | nil => intro u hu; cases hu
  | cons x r ih =>
    have e : flat (x :: r) = .int .i64 x.1 :: .string x.2 :: flat r := rfl
    rw [e]
    intro u hu
    simp only [List.mem_cons] at hu
    rcases hu with rfl | rfl | hu
    · rfl
    · rfl
    · exact ih u hu
/-- A slice of records: its cells, one behind the other. -/
theorem fin_cells {n₀ : Nat} {w : World} {b off : Nat} {L : List (Int × ByteArray)} (h : Finds n₀ w (some ⟨b, off, none⟩) L) : ∀ j u, (flat L)[j]? = some u → w.cell? ((⟨b, off, none⟩ : Addr).add j) = some u := by
  intro j u hj
  have hlt : j < L.length * 2 := by
    rw [← fin_len]
    exact (List.getElem?_eq_some_iff.1 hj).1
  obtain ⟨b', off', e, _, hc⟩ := h (by omega)
  simp only [Option.some.injEq, Addr.mk.injEq, and_true] at e
  obtain ⟨rfl, rfl⟩ := e
  rw [Go.WideShapes.add_plain]
  obtain ⟨f0, f1⟩ := flat_at L (j / 2) (by omega)
  obtain ⟨c0, c1⟩ := hc (j / 2) (by omega)
  rcases (show j = j / 2 * 2 ∨ j = j / 2 * 2 + 1 by omega) with e | e
  · first | (rw [e, f0] at hj; rw [e, c0]; exact hj) | (rw [e, f0] at hj; rw [e, ← Nat.add_assoc, c0]; exact hj)
  · first | (rw [e, f1] at hj; rw [e, c1]; exact hj) | (rw [e, f1] at hj; rw [e, ← Nat.add_assoc, c1]; exact hj)
/-- A row of the call's own reads so. -/
theorem fin_of_row {w : World} {base : Nat} {v : Value} {L : List (Int × ByteArray)} (h : w.ownsRow base 50 2 v L.length (flat L)) : ∃ a cap, v = .slice a L.length cap ∧ L.length ≤ cap ∧ cap ≤ maxLen ∧ (a = none → cap = 0) ∧ Finds w.heap.size w a L := by
  rcases h.2 with ⟨rfl, h0⟩ | ⟨g, cap, cur, rfl, hb, hg, h1, h2, _⟩
  · exact ⟨none, 0, by rw [h0], by omega, by unfold maxLen; omega, fun _ => rfl, fun hl => by omega⟩
  · refine ⟨_, cap, rfl, h1, h2, (fun e => by cases e), fun _ => ⟨g, 0, rfl, (Array.getElem?_eq_some_iff.1 hg).1, fun i hi => ?_⟩⟩
    obtain ⟨f0, f1⟩ := flat_at L i hi
    have c0 := h.cellAt (i * 2) (by omega)
    have c1 := h.cellAt (i * 2 + 1) (by omega)
    rw [f0] at c0
    rw [f1] at c1
    rw [Nat.zero_add]
    exact ⟨c0, c1⟩
/-- A closure that asks p of an element, wherever it is called later. -/
def AsksF (g : Nat) (cb : Array Value) (n₀ : Nat) (w : World) (p : Int × ByteArray → Bool) : Prop :=
  ∀ (W : World) (r : Int × ByteArray), Below n₀ w W → Calls Try.prog g (#[finV r] ++ cb) W fun e w' => e = .returned (.bool (p r)) ∧ Below W.heap.size W w'
theorem fin_asks_mono {g : Nat} {cb : Array Value} {n₀ n₁ : Nat} {w : World} {p : Int × ByteArray → Bool} (h : AsksF g cb n₀ w p) (hn : n₀ ≤ n₁) : AsksF g cb n₁ w p := fun W r hb => h W r (hb.mono hn)
theorem fin_asks_below {g : Nat} {cb : Array Value} {n₀ : Nat} {w w' : World} {p : Int × ByteArray → Bool} (h : AsksF g cb n₀ w p) (hb : Below n₀ w w') : AsksF g cb n₀ w' p := fun W r hb' => h W r (hb.trans hb')
/-- The first index at which p holds; -1 if there is none. -/
def fin_first (L : List (Int × ByteArray)) (p : Int × ByteArray → Bool) : Int := match (List.range L.length).find? (fun i => p (fg L i)) with
  | some i => i
  | none => -1
theorem fin_first_hit (L : List (Int × ByteArray)) (p : Int × ByteArray → Bool) (k : Nat) (hk : k < L.length) (h : p (fg L k) = true) (hn : ∀ j, j < k → p (fg L j) = false) : fin_first L p = k := by
  unfold fin_first
  have : (List.range L.length).find? (fun i => p (fg L i)) = some k := by
    rw [List.find?_eq_some_iff_getElem]
    refine ⟨by simpa using h, k, by simpa using hk, by simp, fun j hj => ?_⟩
    simpa using hn j hj
  rw [this]
theorem fin_first_miss (L : List (Int × ByteArray)) (p : Int × ByteArray → Bool) (hn : ∀ j, j < L.length → p (fg L j) = false) : fin_first L p = -1 := by
  unfold fin_first
  have : (List.range L.length).find? (fun i => p (fg L i)) = none := by
    rw [List.find?_eq_none]
    intro x hx
    simpa using hn x (by simpa using hx)
  rw [this]
theorem fin_first_cases (L : List (Int × ByteArray)) (p : Int × ByteArray → Bool) : (fin_first L p = -1 ∧ ∀ j, j < L.length → p (fg L j) = false) ∨ ∃ k : Nat, k < L.length ∧ fin_first L p = k ∧ p (fg L k) = true ∧ ∀ j, j < k → p (fg L j) = false := by
  have main : ∀ n, n ≤ L.length → (∀ j, j < n → p (fg L j) = false) ∨ ∃ k, k < n ∧ p (fg L k) = true ∧ ∀ j, j < k → p (fg L j) = false := by
    intro n
    induction n with
    | zero => exact fun _ => .inl fun j hj => absurd hj (Nat.not_lt_zero _)
    | succ n ih =>
      intro hn
      rcases ih (by omega) with h | ⟨k, hk, h1, h2⟩
      · cases e : p (fg L n)
        · refine .inl fun j hj => ?_
          rcases Nat.lt_or_ge j n with l | l
          · exact h j l
          · obtain rfl : j = n := by omega
            exact e
        · exact .inr ⟨n, by omega, e, h⟩
      · exact .inr ⟨k, by omega, h1, h2⟩
  rcases main L.length (Nat.le_refl _) with h | ⟨k, hk, h1, h2⟩
  · exact .inl ⟨fin_first_miss L p h, h⟩
  · exact .inr ⟨k, hk, fin_first_hit L p k hk h1 h2, h1, h2⟩
def fin_any (L : List (Int × ByteArray)) (p : Int × ByteArray → Bool) : Bool := decide (0 ≤ fin_first L p)
theorem fin_any_eq (L : List (Int × ByteArray)) (p : Int × ByteArray → Bool) : fin_any L p = L.any p := by
  unfold fin_any
  rw [Bool.eq_iff_iff, List.any_eq_true, decide_eq_true_eq]
  rcases fin_first_cases L p with ⟨h, h2⟩ | ⟨k, hk, h, h1, _⟩
  · rw [h]
    refine ⟨fun h => by omega, fun ⟨x, hx, hp⟩ => ?_⟩
    obtain ⟨j, hj, e⟩ := List.getElem_of_mem hx
    have := h2 j hj
    rw [fg_eq L j hj, e, hp] at this
    cases this
  · rw [h]
    exact ⟨fun _ => ⟨_, by rw [fg_eq L k hk]; exact List.getElem_mem hk, h1⟩, fun _ => by omega⟩
end Go.Proofs.Ytapjhjpibefooaa
