/-
  THE WALK of timeline.Busy at a time that is allowed.
-/
import Derived.Lib.SlicesCompact
import Derived.Test.YtlnodjcmdnmnlaaGreatV17
import Derived.Test.YtlnodjcmdnmnlaaGreatV21
namespace Go.Proofs.YtlnodjcmdnmnlaaGreat
set_option maxRecDepth 100000
set_option maxHeartbeats 80000000
section
open Go.RowKit Go.Shelf
attribute [local go_sem] Oper.semAt_some
def Runs (S N : List Int) (ms : Int) (i : Nat) : Prop := ig S i ≤ ms ∧ ms < ig S i + ig N i
instance (S N : List Int) (ms : Int) (i : Nat) : Decidable (Runs S N ms i) := by unfold Runs; infer_instance
/-! ### Slices of api.Load -/

def og (L : List (Int × Int)) (i : Nat) : Int × Int := (L[i]?).getD (0, 0)
theorem og_eq (L : List (Int × Int)) (i : Nat) (h : i < L.length) : og L i = L[i] := by unfold og; rw [List.getElem?_eq_getElem h]; rfl
theorem og_ext (F1 F2 : List (Int × Int)) (hl : F1.length = F2.length) (h : ∀ j, j < F1.length → og F1 j = og F2 j) : F1 = F2 := by
 refine List.ext_getElem hl fun i h1 h2 => ?_;have := h i h1
 rwa [og_eq F1 i h1, og_eq F2 i h2] at this
theorem og_old (L : List (Int × Int)) (x : Int × Int) (i : Nat) (h : i < L.length) : og (L ++ [x]) i = og L i := by unfold og; rw [List.getElem?_append_left h]
theorem og_new (L : List (Int × Int)) (x : Int × Int) : og (L ++ [x]) L.length = x := by unfold og; simp
def oflat (L : List (Int × Int)) : List Value := L.flatMap fun r => [.int .i64 r.1, .int .i64 r.2]
theorem oflat_at (L : List (Int × Int)) (i : Nat) (hi : i < L.length) : (oflat L)[i * 2]? = some (.int .i64 (og L i).1) ∧ (oflat L)[i * 2 + 1]? = some (.int .i64 (og L i).2) := by
 induction L generalizing i with
 | nil => simp at hi
 | cons x r ih =>
  match i with
  | 0 => exact ⟨rfl, rfl⟩
  | i + 1 =>
   have := ih i (by simpa using hi);have e : oflat (x :: r) = .int .i64 x.1 :: .int .i64 x.2 :: oflat r := rfl;rw [e, show (i + 1) * 2 = i * 2 + 1 + 1 by omega]
   simpa [og] using this
theorem oflat_snoc (L : List (Int × Int)) (r : Int × Int) : oflat (L ++ [r]) = oflat L ++ [.int .i64 r.1, .int .i64 r.2] := by simp [oflat]
def Loads (n₀ : Nat) (w : World) (a : Option Addr) (L : List (Int × Int)) : Prop :=
 0 < L.length → ∃ b off, a = some ⟨b, off, none⟩ ∧ b < n₀ ∧ ∀ i, i < L.length → w.cell? ⟨b, off + i * 2, none⟩ = some (.int .i64 (og L i).1) ∧ w.cell? ⟨b, off + i * 2 + 1, none⟩ = some (.int .i64 (og L i).2)
theorem Loads.below {n₀ : Nat} {w w' : World} {a : Option Addr} {L : List (Int × Int)} (h : Loads n₀ w a L) (hb : Below n₀ w w') : Loads n₀ w' a L := fun hl => by
 obtain ⟨b, off, rfl, hlt, hc⟩ := h hl;refine ⟨b, off, rfl, hlt, fun i hi => ?_⟩;obtain ⟨c0, c1⟩ := hc i hi;exact ⟨(hb.cell (p := ⟨b, _, none⟩) hlt).trans c0, (hb.cell (p := ⟨b, _, none⟩) hlt).trans c1⟩
theorem Loads.mono {n₀ n₁ : Nat} {w : World} {a : Option Addr} {L : List (Int × Int)} (h : Loads n₀ w a L) (hn : n₀ ≤ n₁) : Loads n₁ w a L := fun hl => by
 obtain ⟨b, off, rfl, hlt, hc⟩ := h hl;exact ⟨b, off, rfl, by omega, hc⟩
theorem Loads.grow {w w' : World} {a : Option Addr} {L : List (Int × Int)} (h : Loads w.heap.size w a L) (hb : Below w.heap.size w w') : Loads w'.heap.size w' a L := (h.below hb).mono hb.size
theorem load_len (L : List (Int × Int)) : (oflat L).length = L.length * 2 := by
 induction L with
 | nil => rfl
 | cons x r ih =>
  have e : oflat (x :: r) = .int .i64 x.1 :: .int .i64 x.2 :: oflat r := rfl;rw [e];simp only [List.length_cons, ih]
  try omega
theorem load_of_row {w : World} {base : Nat} {v : Value} {L : List (Int × Int)} (h : w.ownsRow base 41 2 v L.length (oflat L)) : ∃ a cap, v = .slice a L.length cap ∧ L.length ≤ cap ∧ cap ≤ maxLen ∧ (a = none → cap = 0) ∧ Loads w.heap.size w a L := by
 rcases h.2 with ⟨rfl, h0⟩ | ⟨g, cap, cur, rfl, hb, hg, h1, h2, _⟩
 ·exact ⟨none, 0, by rw [h0], by omega, by unfold maxLen; omega, fun _ => rfl, fun hl => by omega⟩
 ·refine ⟨_, cap, rfl, h1, h2, (fun e => by cases e), fun _ => ⟨g, 0, rfl, (Array.getElem?_eq_some_iff.1 hg).1, fun i hi => ?_⟩⟩
  obtain ⟨f0, f1⟩ := oflat_at L i hi;have c0 := h.cellAt (i * 2) (by omega);have c1 := h.cellAt (i * 2 + 1) (by omega);rw [f0] at c0;rw [f1] at c1;rw [Nat.zero_add];exact ⟨c0, c1⟩
/-! ### Slices of resources.use -/

def ug (L : List (Int × Int × Int)) (i : Nat) : Int × Int × Int := (L[i]?).getD (0, 0, 0)
theorem ug_eq (L : List (Int × Int × Int)) (i : Nat) (h : i < L.length) : ug L i = L[i] := by unfold ug; rw [List.getElem?_eq_getElem h]; rfl
def ugflat (L : List (Int × Int × Int)) : List Value := L.flatMap fun r => [.int .i64 r.1, .int .i64 r.2.1, .int .i64 r.2.2]
theorem ugflat_at (L : List (Int × Int × Int)) (i : Nat) (hi : i < L.length) : (ugflat L)[i * 3]? = some (.int .i64 (ug L i).1) ∧ (ugflat L)[i * 3 + 1]? = some (.int .i64 (ug L i).2.1) ∧ (ugflat L)[i * 3 + 2]? = some (.int .i64 (ug L i).2.2) := by
 induction L generalizing i with
 | nil => simp at hi
 | cons x r ih =>
  match i with
  | 0 => exact ⟨rfl, rfl, rfl⟩
  | i + 1 =>
   have := ih i (by simpa using hi);have e : ugflat (x :: r) = .int .i64 x.1 :: .int .i64 x.2.1 :: .int .i64 x.2.2 :: ugflat r := rfl;rw [e, show (i + 1) * 3 = i * 3 + 1 + 1 + 1 by omega]
   simpa [ug] using this
theorem ugflat_snoc (L : List (Int × Int × Int)) (r : Int × Int × Int) : ugflat (L ++ [r]) = ugflat L ++ [.int .i64 r.1, .int .i64 r.2.1, .int .i64 r.2.2] := by simp [ugflat]
def Uses (n₀ : Nat) (w : World) (a : Option Addr) (L : List (Int × Int × Int)) : Prop :=
 0 < L.length → ∃ b off, a = some ⟨b, off, none⟩ ∧ b < n₀ ∧ ∀ i, i < L.length → w.cell? ⟨b, off + i * 3, none⟩ = some (.int .i64 (ug L i).1) ∧ w.cell? ⟨b, off + i * 3 + 1, none⟩ = some (.int .i64 (ug L i).2.1) ∧ w.cell? ⟨b, off + i * 3 + 2, none⟩ = some (.int .i64 (ug L i).2.2)
theorem Uses.below {n₀ : Nat} {w w' : World} {a : Option Addr} {L : List (Int × Int × Int)} (h : Uses n₀ w a L) (hb : Below n₀ w w') : Uses n₀ w' a L := fun hl => by
 obtain ⟨b, off, rfl, hlt, hc⟩ := h hl;refine ⟨b, off, rfl, hlt, fun i hi => ?_⟩;obtain ⟨c0, c1, c2⟩ := hc i hi;exact ⟨(hb.cell (p := ⟨b, _, none⟩) hlt).trans c0, (hb.cell (p := ⟨b, _, none⟩) hlt).trans c1, (hb.cell (p := ⟨b, _, none⟩) hlt).trans c2⟩
theorem Uses.mono {n₀ n₁ : Nat} {w : World} {a : Option Addr} {L : List (Int × Int × Int)} (h : Uses n₀ w a L) (hn : n₀ ≤ n₁) : Uses n₁ w a L := fun hl => by
 obtain ⟨b, off, rfl, hlt, hc⟩ := h hl;exact ⟨b, off, rfl, by omega, hc⟩
theorem Uses.grow {w w' : World} {a : Option Addr} {L : List (Int × Int × Int)} (h : Uses w.heap.size w a L) (hb : Below w.heap.size w w') : Uses w'.heap.size w' a L := (h.below hb).mono hb.size
theorem use_of_row {w : World} {base : Nat} {v : Value} {L : List (Int × Int × Int)} (h : w.ownsRow base 83 3 v L.length (ugflat L)) : ∃ a cap, v = .slice a L.length cap ∧ L.length ≤ cap ∧ cap ≤ maxLen ∧ (a = none → cap = 0) ∧ Uses w.heap.size w a L := by
 rcases h.2 with ⟨rfl, h0⟩ | ⟨g, cap, cur, rfl, hb, hg, h1, h2, _⟩
 ·exact ⟨none, 0, by rw [h0], by omega, by unfold maxLen; omega, fun _ => rfl, fun hl => by omega⟩
 ·refine ⟨_, cap, rfl, h1, h2, (fun e => by cases e), fun _ => ⟨g, 0, rfl, (Array.getElem?_eq_some_iff.1 hg).1, fun i hi => ?_⟩⟩
  obtain ⟨f0, f1, f2⟩ := ugflat_at L i hi;have c0 := h.cellAt (i * 3) (by omega);have c1 := h.cellAt (i * 3 + 1) (by omega);have c2 := h.cellAt (i * 3 + 2) (by omega);rw [f0] at c0;rw [f1] at c1;rw [f2] at c2;rw [Nat.zero_add];exact ⟨c0, c1, c2⟩
/-! ### Slices of loftblockref42.Part -/

def qg (L : List (Int × Int × Int)) (i : Nat) : Int × Int × Int := (L[i]?).getD (0, 0, 0)
def qgflat (L : List (Int × Int × Int)) : List Value := L.flatMap fun r => [.int .i64 r.1, .int .i64 r.2.1, .int .i64 r.2.2]
theorem qgflat_at (L : List (Int × Int × Int)) (i : Nat) (hi : i < L.length) : (qgflat L)[i * 3]? = some (.int .i64 (qg L i).1) ∧ (qgflat L)[i * 3 + 1]? = some (.int .i64 (qg L i).2.1) ∧ (qgflat L)[i * 3 + 2]? = some (.int .i64 (qg L i).2.2) := by
 induction L generalizing i with
 | nil => simp at hi
 | cons x r ih =>
  match i with
  | 0 => exact ⟨rfl, rfl, rfl⟩
  | i + 1 =>
   have := ih i (by simpa using hi);have e : qgflat (x :: r) = .int .i64 x.1 :: .int .i64 x.2.1 :: .int .i64 x.2.2 :: qgflat r := rfl;rw [e, show (i + 1) * 3 = i * 3 + 1 + 1 + 1 by omega]
   simpa [qg] using this
theorem qgflat_snoc (L : List (Int × Int × Int)) (r : Int × Int × Int) : qgflat (L ++ [r]) = qgflat L ++ [.int .i64 r.1, .int .i64 r.2.1, .int .i64 r.2.2] := by simp [qgflat]
def Parts (n₀ : Nat) (w : World) (a : Option Addr) (L : List (Int × Int × Int)) : Prop :=
 0 < L.length → ∃ b off, a = some ⟨b, off, none⟩ ∧ b < n₀ ∧ ∀ i, i < L.length → w.cell? ⟨b, off + i * 3, none⟩ = some (.int .i64 (qg L i).1) ∧ w.cell? ⟨b, off + i * 3 + 1, none⟩ = some (.int .i64 (qg L i).2.1) ∧ w.cell? ⟨b, off + i * 3 + 2, none⟩ = some (.int .i64 (qg L i).2.2)
theorem Parts.below {n₀ : Nat} {w w' : World} {a : Option Addr} {L : List (Int × Int × Int)} (h : Parts n₀ w a L) (hb : Below n₀ w w') : Parts n₀ w' a L := fun hl => by
 obtain ⟨b, off, rfl, hlt, hc⟩ := h hl;refine ⟨b, off, rfl, hlt, fun i hi => ?_⟩;obtain ⟨c0, c1, c2⟩ := hc i hi;exact ⟨(hb.cell (p := ⟨b, _, none⟩) hlt).trans c0, (hb.cell (p := ⟨b, _, none⟩) hlt).trans c1, (hb.cell (p := ⟨b, _, none⟩) hlt).trans c2⟩
theorem part_of_row {w : World} {base : Nat} {v : Value} {L : List (Int × Int × Int)} (h : w.ownsRow base 69 3 v L.length (qgflat L)) : ∃ a cap, v = .slice a L.length cap ∧ L.length ≤ cap ∧ cap ≤ maxLen ∧ (a = none → cap = 0) ∧ Parts w.heap.size w a L := by
 rcases h.2 with ⟨rfl, h0⟩ | ⟨g, cap, cur, rfl, hb, hg, h1, h2, _⟩
 ·exact ⟨none, 0, by rw [h0], by omega, by unfold maxLen; omega, fun _ => rfl, fun hl => by omega⟩
 ·refine ⟨_, cap, rfl, h1, h2, (fun e => by cases e), fun _ => ⟨g, 0, rfl, (Array.getElem?_eq_some_iff.1 hg).1, fun i hi => ?_⟩⟩
  obtain ⟨f0, f1, f2⟩ := qgflat_at L i hi;have c0 := h.cellAt (i * 3) (by omega);have c1 := h.cellAt (i * 3 + 1) (by omega);have c2 := h.cellAt (i * 3 + 2) (by omega);rw [f0] at c0;rw [f1] at c1;rw [f2] at c2;rw [Nat.zero_add];exact ⟨c0, c1, c2⟩
/-! ### Slices of api.Task -/
structure TaskR where
 name : ByteArray
 length : Int
 crew : Int
 power : Int
 ba : Option Addr
 bl : Nat
 bc : Nat

def tkg (L : List (TaskR)) (i : Nat) : TaskR := (L[i]?).getD ⟨⟨#[]⟩, 0, 0, 0, none, 0, 0⟩
theorem tkg_eq (L : List (TaskR)) (i : Nat) (h : i < L.length) : tkg L i = L[i] := by unfold tkg; rw [List.getElem?_eq_getElem h]; rfl
def taskV (r : TaskR) : Value := .agg #[.string r.name, .int .i64 r.length, .int .i64 r.crew, .int .i64 r.power, .slice r.ba r.bl r.bc]
def tkflat (L : List (TaskR)) : List Value := L.flatMap fun r => [.string r.name, .int .i64 r.length, .int .i64 r.crew, .int .i64 r.power, .slice r.ba r.bl r.bc]
theorem tkflat_at (L : List (TaskR)) (i : Nat) (hi : i < L.length) : (tkflat L)[i * 5]? = some (.string (tkg L i).name) ∧ (tkflat L)[i * 5 + 1]? = some (.int .i64 (tkg L i).length) ∧ (tkflat L)[i * 5 + 2]? = some (.int .i64 (tkg L i).crew) ∧ (tkflat L)[i * 5 + 3]? = some (.int .i64 (tkg L i).power) ∧ (tkflat L)[i * 5 + 4]? = some (.slice (tkg L i).ba (tkg L i).bl (tkg L i).bc) := by
 induction L generalizing i with
 | nil => simp at hi
 | cons x r ih =>
  match i with
  | 0 => exact ⟨rfl, rfl, rfl, rfl, rfl⟩
  | i + 1 =>
   have := ih i (by simpa using hi);have e : tkflat (x :: r) = .string x.name :: .int .i64 x.length :: .int .i64 x.crew :: .int .i64 x.power :: .slice x.ba x.bl x.bc :: tkflat r := rfl;rw [e, show (i + 1) * 5 = i * 5 + 1 + 1 + 1 + 1 + 1 by omega]
   simpa [tkg] using this
def Tasks (n₀ : Nat) (w : World) (a : Option Addr) (L : List (TaskR)) : Prop :=
 0 < L.length → ∃ b off, a = some ⟨b, off, none⟩ ∧ b < n₀ ∧ ∀ i, i < L.length → w.cell? ⟨b, off + i * 5, none⟩ = some (.string (tkg L i).name) ∧ w.cell? ⟨b, off + i * 5 + 1, none⟩ = some (.int .i64 (tkg L i).length) ∧ w.cell? ⟨b, off + i * 5 + 2, none⟩ = some (.int .i64 (tkg L i).crew) ∧ w.cell? ⟨b, off + i * 5 + 3, none⟩ = some (.int .i64 (tkg L i).power) ∧ w.cell? ⟨b, off + i * 5 + 4, none⟩ = some (.slice (tkg L i).ba (tkg L i).bl (tkg L i).bc)
theorem Tasks.below {n₀ : Nat} {w w' : World} {a : Option Addr} {L : List (TaskR)} (h : Tasks n₀ w a L) (hb : Below n₀ w w') : Tasks n₀ w' a L := fun hl => by
 obtain ⟨b, off, rfl, hlt, hc⟩ := h hl;refine ⟨b, off, rfl, hlt, fun i hi => ?_⟩;obtain ⟨c0, c1, c2, c3, c4⟩ := hc i hi;exact ⟨(hb.cell (p := ⟨b, _, none⟩) hlt).trans c0, (hb.cell (p := ⟨b, _, none⟩) hlt).trans c1, (hb.cell (p := ⟨b, _, none⟩) hlt).trans c2, (hb.cell (p := ⟨b, _, none⟩) hlt).trans c3, (hb.cell (p := ⟨b, _, none⟩) hlt).trans c4⟩
theorem Tasks.mono {n₀ n₁ : Nat} {w : World} {a : Option Addr} {L : List (TaskR)} (h : Tasks n₀ w a L) (hn : n₀ ≤ n₁) : Tasks n₁ w a L := fun hl => by
 obtain ⟨b, off, rfl, hlt, hc⟩ := h hl;exact ⟨b, off, rfl, by omega, hc⟩
theorem Tasks.grow {w w' : World} {a : Option Addr} {L : List (TaskR)} (h : Tasks w.heap.size w a L) (hb : Below w.heap.size w w') : Tasks w'.heap.size w' a L := (h.below hb).mono hb.size
theorem task_len (L : List (TaskR)) : (tkflat L).length = L.length * 5 := by
 induction L with
 | nil => rfl
 | cons x r ih =>
  have e : tkflat (x :: r) = .string x.name :: .int .i64 x.length :: .int .i64 x.crew :: .int .i64 x.power :: .slice x.ba x.bl x.bc :: tkflat r := rfl;rw [e];simp only [List.length_cons, ih]
  try omega
theorem task_of_row {w : World} {base : Nat} {v : Value} {L : List (TaskR)} (h : w.ownsRow base 54 5 v L.length (tkflat L)) : ∃ a cap, v = .slice a L.length cap ∧ L.length ≤ cap ∧ cap ≤ maxLen ∧ (a = none → cap = 0) ∧ Tasks w.heap.size w a L := by
 rcases h.2 with ⟨rfl, h0⟩ | ⟨g, cap, cur, rfl, hb, hg, h1, h2, _⟩
 ·exact ⟨none, 0, by rw [h0], by omega, by unfold maxLen; omega, fun _ => rfl, fun hl => by omega⟩
 ·refine ⟨_, cap, rfl, h1, h2, (fun e => by cases e), fun _ => ⟨g, 0, rfl, (Array.getElem?_eq_some_iff.1 hg).1, fun i hi => ?_⟩⟩
  obtain ⟨f0, f1, f2, f3, f4⟩ := tkflat_at L i hi;have c0 := h.cellAt (i * 5) (by omega);have c1 := h.cellAt (i * 5 + 1) (by omega);have c2 := h.cellAt (i * 5 + 2) (by omega);have c3 := h.cellAt (i * 5 + 3) (by omega);have c4 := h.cellAt (i * 5 + 4) (by omega);rw [f0] at c0;rw [f1] at c1;rw [f2] at c2;rw [f3] at c3;rw [f4] at c4;rw [Nat.zero_add];exact ⟨c0, c1, c2, c3, c4⟩
def AsksTasks (g : Nat) (cb : Array Value) (n₀ : Nat) (w : World) (p : TaskR → Bool) : Prop :=
 ∀ (W : World) (r : TaskR), Below n₀ w W → Calls Tryz.prog g (#[taskV r] ++ cb) W fun e w' => e = .returned (.bool (p r)) ∧ Below W.heap.size W w'
def task_first (L : List (TaskR)) (p : TaskR → Bool) : Int := match (List.range L.length).find? (fun i => p (tkg L i)) with
 | some i => i
 | none => -1
theorem task_first_hit (L : List (TaskR)) (p : TaskR → Bool) (k : Nat) (hk : k < L.length) (h : p (tkg L k) = true) (hn : ∀ j, j < k → p (tkg L j) = false) : task_first L p = k := by
 unfold task_first
 have : (List.range L.length).find? (fun i => p (tkg L i)) = some k := by
  rw [List.find?_eq_some_iff_getElem];refine ⟨by simpa using h, k, by simpa using hk, by simp, fun j hj => ?_⟩
  simpa using hn j hj
 rw [this]
theorem task_first_miss (L : List (TaskR)) (p : TaskR → Bool) (hn : ∀ j, j < L.length → p (tkg L j) = false) : task_first L p = -1 := by
 unfold task_first
 have : (List.range L.length).find? (fun i => p (tkg L i)) = none := by
  rw [List.find?_eq_none];intro x hx
  simpa using hn x (by simpa using hx)
 rw [this]
theorem task_first_cases (L : List (TaskR)) (p : TaskR → Bool) : (task_first L p = -1 ∧ ∀ j, j < L.length → p (tkg L j) = false) ∨ ∃ k : Nat, k < L.length ∧ task_first L p = k ∧ p (tkg L k) = true ∧ ∀ j, j < k → p (tkg L j) = false := by
 have main : ∀ n, n ≤ L.length → (∀ j, j < n → p (tkg L j) = false) ∨ ∃ k, k < n ∧ p (tkg L k) = true ∧ ∀ j, j < k → p (tkg L j) = false := by
  intro n
  induction n with
  | zero => exact fun _ => .inl fun j hj => absurd hj (Nat.not_lt_zero _)
  | succ n ih =>
   intro hn;rcases ih (by omega) with h | ⟨k, hk, h1, h2⟩
   ·cases e : p (tkg L n)
    ·refine .inl fun j hj => ?_
     rcases Nat.lt_or_ge j n with l | l
     ·exact h j l
     ·obtain rfl : j = n := by omega
      exact e
    ·exact .inr ⟨n, by omega, e, h⟩
   ·exact .inr ⟨k, by omega, h1, h2⟩
 rcases main L.length (Nat.le_refl _) with h | ⟨k, hk, h1, h2⟩
 ·exact .inl ⟨task_first_miss L p h, h⟩
 ·exact .inr ⟨k, hk, task_first_hit L p k hk h1 h2, h1, h2⟩
def task_any (L : List (TaskR)) (p : TaskR → Bool) : Bool := decide (0 ≤ task_first L p)
theorem task_any_eq (L : List (TaskR)) (p : TaskR → Bool) : task_any L p = L.any p := by
 unfold task_any;rw [Bool.eq_iff_iff, List.any_eq_true, decide_eq_true_eq];rcases task_first_cases L p with ⟨h, h2⟩ | ⟨k, hk, h, h1, _⟩
 ·rw [h]
  refine ⟨fun h => by omega, fun ⟨x, hx, hp⟩ => ?_⟩;obtain ⟨j, hj, e⟩ := List.getElem_of_mem hx;have := h2 j hj;rw [tkg_eq L j hj, e, hp] at this
  cases this
 ·rw [h]
  exact ⟨fun _ => ⟨_, by rw [tkg_eq L k hk]; exact List.getElem_mem hk, h1⟩, fun _ => by omega⟩
end
section
open Go.RowKit Go.Shelf
theorem task_indexFunc (a : Option Addr) (L : List (TaskR)) (cap n₀ g : Nat) (cb : Array Value) (p : TaskR → Bool) (w : World) (eg : ∀ args w, (callFunc g args).run Tryz.prog w = .ok (.enter g args) w)
  (hl : L.length ≤ 1100) (hn₀ : n₀ ≤ w.heap.size) (hI : Tasks n₀ w a L) (hp : AsksTasks g cb n₀ w p) :
  Calls Tryz.prog 81 #[.slice a L.length cap, .func (.func g) #[] cb] w fun e w' => e = .returned (.int .i64 (task_first L p)) ∧ Below w.heap.size w w' := by
 have HI := lh hI; clear hI;have HP := lh hp; clear hp
 go_enter Tryz.func81, Tryz.ntmps81
 go_wp2
 go_loopw [8] (fun i wr => ∃ k : Nat, k ≤ L.length ∧ i = .int .i64 k ∧ Below w.heap.size w wr ∧ Hid (∀ j, j < k → p (tkg L j) = false)) (fun i _ => L.length - (intOf i).toNat)
 case atStart => exact ⟨0, Nat.zero_le _, rfl, br, lh (fun _ h => absurd h (Nat.not_lt_zero _))⟩
 case round =>
  obtain ⟨k, hk, rfl, hB, HA⟩ := hrel
  by_cases hlt : k < L.length
  ·obtain ⟨b, off, rfl, hb, hc⟩ := HI.out (by omega)
   obtain ⟨c0, c1, c2, c3, c4⟩ := hc k hlt;have d0 := (hB.cell (p := ⟨b, off + k * 5, none⟩) (show b < w.heap.size by omega)).trans c0;have d1 := (hB.cell (p := ⟨b, off + k * 5 + 1, none⟩) (show b < w.heap.size by omega)).trans c1;have d2 := (hB.cell (p := ⟨b, off + k * 5 + 2, none⟩) (show b < w.heap.size by omega)).trans c2;have d3 := (hB.cell (p := ⟨b, off + k * 5 + 3, none⟩) (show b < w.heap.size by omega)).trans c3;have d4 := (hB.cell (p := ⟨b, off + k * 5 + 4, none⟩) (show b < w.heap.size by omega)).trans c4;clear c0 c1 c2 c3 c4 hc;have HC := lh (show Calls Tryz.prog g (#[.agg #[.string (tkg L k).name, .int .i64 (tkg L k).length, .int .i64 (tkg L k).crew, .int .i64 (tkg L k).power, .slice (tkg L k).ba (tkg L k).bl (tkg L k).bc]] ++ cb) wr _ from HP.out wr (tkg L k) (hB.mono hn₀));obtain ⟨bv, hbv⟩ := nm (p (tkg L k));rw [hbv] at HC
   cases bv
   ·have HB : Hid (∀ j, j < k + 1 → p (tkg L j) = false) := lh fun j hj => by
     rcases Nat.lt_or_ge j k with l | l
     ·exact HA.out j l
     ·obtain rfl : j = k := by omega
      exact hbv
    clear hbv
    go_wp2_with ((with_reducible refine HC.out.mono ?_); rintro e w1 ⟨rfl, hb1⟩)
    go_roundw
    case rel => exact ⟨k + 1, by omega, by go_num, hB.trans (hb1.mono hB.size), HB⟩
    case measure => simp [intOf]; omega
   ·have H := lh (task_first_hit L p k hlt hbv HA.out)
    clear hbv
    go_wp2_with ((with_reducible refine HC.out.mono ?_); rintro e w1 ⟨rfl, hb1⟩)
    go_ret;exact ⟨ret_int H.out.symm, hB.trans (hb1.mono hB.size)⟩
  ·obtain rfl : k = L.length := by omega
   have H := lh (task_first_miss L p HA.out)
   go_wp2
   go_ret;exact ⟨ret_int H.out.symm, hB⟩

theorem task_containsFunc (a : Option Addr) (L : List (TaskR)) (cap n₀ g : Nat) (cb : Array Value) (p : TaskR → Bool) (w : World) (eg : ∀ args w, (callFunc g args).run Tryz.prog w = .ok (.enter g args) w)
  (hl : L.length ≤ 1100) (hn₀ : n₀ ≤ w.heap.size) (hI : Tasks n₀ w a L) (hp : AsksTasks g cb n₀ w p) :
  Calls Tryz.prog 47 #[.slice a L.length cap, .func (.func g) #[] cb] w fun e w' => e = .returned (.bool (task_any L p)) ∧ Below w.heap.size w w' := by
 have HC := lh (task_indexFunc a L cap n₀ g cb p w eg hl hn₀ hI hp);clear hI hp eg
 go_enter Tryz.func47, Tryz.ntmps47
 go_wp2_with (go_at_call 81; (with_reducible refine HC.out.mono ?_); rintro e w1 ⟨rfl, hb1⟩)
 go_ret;exact ⟨rfl, hb1⟩

theorem load_equal (a1 a2 : Option Addr) (F1 F2 : List (Int × Int)) (cap1 cap2 : Nat) (w : World) (hl : F1.length ≤ 1100) (h1 : Loads w.heap.size w a1 F1) (h2 : Loads w.heap.size w a2 F2) (hl2 : F2.length ≤ 1100) :
  Calls Tryz.prog 10 #[.slice a1 F1.length cap1, .slice a2 F2.length cap2] w fun e w' => e = .returned (.bool (decide (F1 = F2))) ∧ Below w.heap.size w w' := by
 have H1 := lh h1;have H2 := lh h2;clear h1 h2
 by_cases hle : F1.length = F2.length
 ·have hn : ((F1.length : Int) != (F2.length : Int)) = false := by rw [bne_eq_false_iff_eq]; omega
  have HL := lh hle; clear hle
  go_enter Tryz.func10, Tryz.ntmps10
  go_wp2
  go_loopw [13] (fun i wr => ∃ k : Nat, k ≤ F1.length ∧ i = .int .i64 k ∧ Below w.heap.size w wr ∧ Hid (∀ j, j < k → og F1 j = og F2 j)) (fun i _ => F1.length - (intOf i).toNat)
  case atStart => exact ⟨0, Nat.zero_le _, rfl, br, lh (fun _ h => absurd h (Nat.not_lt_zero _))⟩
  case round =>
   obtain ⟨k, hk, rfl, hB, HA⟩ := hrel
   by_cases hlt : k < F1.length
   ·have hlt2 : k < F2.length := by have := HL.out; omega
    obtain ⟨b, off, rfl, hb, hcx⟩ := H1.out (by omega);obtain ⟨b', off', rfl, hb', hcx'⟩ := H2.out (by omega);obtain ⟨c0, c1⟩ := hcx k hlt;obtain ⟨e0, e1⟩ := hcx' k hlt2;have d0 := (hB.cell (p := ⟨b, off + k * 2, none⟩) hb).trans c0;have d1 := (hB.cell (p := ⟨b, off + k * 2 + 1, none⟩) hb).trans c1;have f0 := (hB.cell (p := ⟨b', off' + k * 2, none⟩) hb').trans e0;have f1 := (hB.cell (p := ⟨b', off' + k * 2 + 1, none⟩) hb').trans e1;clear c0 c1 e0 e1 hcx hcx'
    by_cases q0 : (og F1 k).1 = (og F2 k).1
    ·by_cases q1 : (og F1 k).2 = (og F2 k).2
     ·have HB : Hid (∀ j, j < k + 1 → og F1 j = og F2 j) := lh fun j hj => by
       rcases Nat.lt_or_ge j k with l | l
       ·exact HA.out j l
       ·obtain rfl : j = k := by omega
        exact Prod.ext q0 q1
      have g0 : ((og F1 k).1 == (og F2 k).1) = true := beq_iff_eq.2 q0;have h0 : ((og F1 k).1 != (og F2 k).1) = false := bne_eq_false_iff_eq.2 q0;have g1 : ((og F1 k).2 == (og F2 k).2) = true := beq_iff_eq.2 q1;have h1 : ((og F1 k).2 != (og F2 k).2) = false := bne_eq_false_iff_eq.2 q1;clear q0 q1
      go_wp2_with fail
      go_quiet (fail)
      go_wp2
      go_roundw
      case rel => exact ⟨k + 1, by omega, by go_num, below_drewN hB _, HB⟩
      case measure => simp [intOf]; omega
     ·have H : Hid (decide (F1 = F2) = false) := lh (dF (fun e => q1 (by rw [e])))
      have g0 : ((og F1 k).1 == (og F2 k).1) = true := beq_iff_eq.2 q0;have h0 : ((og F1 k).1 != (og F2 k).1) = false := bne_eq_false_iff_eq.2 q0;have g1 : ((og F1 k).2 == (og F2 k).2) = false := beq_eq_false_iff_ne.2 q1;have h1 : ((og F1 k).2 != (og F2 k).2) = true := bne_iff_ne.2 q1;clear q0 q1
      go_wp2_with fail
      go_quiet (fail)
      go_wp2
      go_ret;exact ⟨congrArg (fun b => Ending.returned (.bool b)) H.out.symm, below_drewN hB _⟩
    ·have H : Hid (decide (F1 = F2) = false) := lh (dF (fun e => q0 (by rw [e])))
     have g0 : ((og F1 k).1 == (og F2 k).1) = false := beq_eq_false_iff_ne.2 q0;have h0 : ((og F1 k).1 != (og F2 k).1) = true := bne_iff_ne.2 q0;clear q0
     go_wp2_with fail
     go_quiet (fail)
     go_wp2
     go_ret;exact ⟨congrArg (fun b => Ending.returned (.bool b)) H.out.symm, below_drewN hB _⟩
   ·obtain rfl : k = F1.length := by omega
    have H : Hid (decide (F1 = F2) = true) := lh (dT (og_ext F1 F2 HL.out HA.out))
    go_wp2
    go_ret;exact ⟨congrArg (fun b => Ending.returned (.bool b)) H.out.symm, hB⟩
 ·have hn : ((F1.length : Int) != (F2.length : Int)) = true := bne_iff_ne.2 (by omega)
  have H : Hid (decide (F1 = F2) = false) := lh (dF (fun e => hle (by rw [e])));clear hle
  go_enter Tryz.func10, Tryz.ntmps10
  go_wp2
  go_ret;exact ⟨congrArg (fun b => Ending.returned (.bool b)) H.out.symm, br⟩

theorem load_info : (Tryz.prog.info? 41).map (fun i => (i.zero, i.size, i.bytes)) = some (some (.agg #[.int .i64 0, .int .i64 0]), 2, 16) := by kernel_rfl

theorem use_info : (Tryz.prog.info? 83).map (fun i => (i.zero, i.size, i.bytes)) = some (some (.agg #[.int .i64 0, .int .i64 0, .int .i64 0]), 3, 24) := by kernel_rfl

theorem part_info : (Tryz.prog.info? 69).map (fun i => (i.zero, i.size, i.bytes)) = some (some (.agg #[.int .i64 0, .int .i64 0, .int .i64 0]), 3, 24) := by kernel_rfl

theorem load_append {ops : Array Oper} {rest : List Oper} {o : Oper} {a : Act} {w : World} {Q : Exit → Act → World → Prop} (hgd : o.guard = none) (s x : Operand)
  (ho : o.op = .call { callee := .builtin .append, args := #[s, x], argTypes := #[33, 33] })
  (base : Nat) (v : Value) (L : List (Int × Int)) (hs : a.eval s = v) (hown : w.ownsRow base 41 2 v L.length (oflat L))
  (bl : Nat) (y : Int × Int) (hx : a.eval x = .slice (some ⟨bl, 0, none⟩) 1 1) (hc : w.cell? ⟨bl, 0, none⟩ = some (.int .i64 y.1) ∧ w.cell? ⟨bl, 1, none⟩ = some (.int .i64 y.2)) (hl : L.length ≤ 1000000) (hbase : base ≤ w.heap.size)
  (h : ∀ v' w', w'.ownsRow base 41 2 v' (L ++ [y]).length (oflat (L ++ [y])) → w.grownBy w' v.ownBlock → wpList Tryz.prog ops Q rest (a.put o.dst v') w') : wpList Tryz.prog ops Q (o :: rest) a w := by
 obtain ⟨i0, hi, hz0, hz1, hz2⟩ := info_parts load_info;refine wpList_append_own _ hgd s x 33 ho base 41 i0 _ 2 16 Tryz.underlying33 hi hz0 hz1 hz2 rfl (by decide) v L.length (oflat L) hs hown ⟨bl, 0, none⟩ 1 1 [.int .i64 y.1, .int .i64 y.2] hx rfl ?_ (by simp [Value.oneCell']) (by unfold maxLen; omega) (by omega) hbase ?_
 ·obtain ⟨c0, c1⟩ := hc
  intro j u hj;rw [Go.WideShapes.add_plain, Nat.zero_add]
  match j, hj with
  | 0, hj => simp at hj; subst hj; exact c0
  | 1, hj => simp at hj; subst hj; exact c1
 ·intro v' w' h1 h2 _
  refine h v' w' ?_ h2;rw [oflat_snoc, List.length_append];exact h1

theorem part_append {ops : Array Oper} {rest : List Oper} {o : Oper} {a : Act} {w : World} {Q : Exit → Act → World → Prop} (hgd : o.guard = none) (s x : Operand)
  (ho : o.op = .call { callee := .builtin .append, args := #[s, x], argTypes := #[67, 67] })
  (base : Nat) (v : Value) (L : List (Int × Int × Int)) (hs : a.eval s = v) (hown : w.ownsRow base 69 3 v L.length (qgflat L))
  (bl : Nat) (y : Int × Int × Int) (hx : a.eval x = .slice (some ⟨bl, 0, none⟩) 1 1) (hc : w.cell? ⟨bl, 0, none⟩ = some (.int .i64 y.1) ∧ w.cell? ⟨bl, 1, none⟩ = some (.int .i64 y.2.1) ∧ w.cell? ⟨bl, 2, none⟩ = some (.int .i64 y.2.2)) (hl : L.length ≤ 1000000) (hbase : base ≤ w.heap.size)
  (h : ∀ v' w', w'.ownsRow base 69 3 v' (L ++ [y]).length (qgflat (L ++ [y])) → w.grownBy w' v.ownBlock → wpList Tryz.prog ops Q rest (a.put o.dst v') w') : wpList Tryz.prog ops Q (o :: rest) a w := by
 obtain ⟨i0, hi, hz0, hz1, hz2⟩ := info_parts part_info;refine wpList_append_own _ hgd s x 67 ho base 69 i0 _ 3 24 Tryz.underlying67 hi hz0 hz1 hz2 rfl (by decide) v L.length (qgflat L) hs hown ⟨bl, 0, none⟩ 1 1 [.int .i64 y.1, .int .i64 y.2.1, .int .i64 y.2.2] hx rfl ?_ (by simp [Value.oneCell']) (by unfold maxLen; omega) (by omega) hbase ?_
 ·obtain ⟨c0, c1, c2⟩ := hc
  intro j u hj;rw [Go.WideShapes.add_plain, Nat.zero_add]
  match j, hj with
  | 0, hj => simp at hj; subst hj; exact c0
  | 1, hj => simp at hj; subst hj; exact c1
  | 2, hj => simp at hj; subst hj; exact c2
 ·intro v' w' h1 h2 _
  refine h v' w' ?_ h2;rw [qgflat_snoc, List.length_append];exact h1

theorem num_append2 {ops : Array Oper} {rest : List Oper} {o : Oper} {a : Act} {w : World} {Q : Exit → Act → World → Prop} (hgd : o.guard = none) (s x : Operand)
  (ho : o.op = .call { callee := .builtin .append, args := #[s, x], argTypes := #[30, 30] })
  (base : Nat) (v : Value) (L : List Int) (hs : a.eval s = v) (hown : w.ownsRow base 3 1 v L.length (nflat L))
  (bl : Nat) (y z : Int) (hx : a.eval x = .slice (some ⟨bl, 0, none⟩) 2 2) (hc : w.cell? ⟨bl, 0, none⟩ = some (.int .i64 y) ∧ w.cell? ⟨bl, 1, none⟩ = some (.int .i64 z)) (hl : L.length ≤ 1000000) (hbase : base ≤ w.heap.size)
  (h : ∀ v' w', w'.ownsRow base 3 1 v' (L ++ [y, z]).length (nflat (L ++ [y, z])) → w.grownBy w' v.ownBlock → wpList Tryz.prog ops Q rest (a.put o.dst v') w') : wpList Tryz.prog ops Q (o :: rest) a w := by
 obtain ⟨i0, hi, hz0, hz1, hz2⟩ := info_parts num_info;refine wpList_append_own _ hgd s x 30 ho base 3 i0 _ 1 8 Tryz.underlying30 hi hz0 hz1 hz2 rfl (by decide) v L.length (nflat L) hs hown ⟨bl, 0, none⟩ 2 2 [.int .i64 y, .int .i64 z] hx rfl ?_ (by simp [Value.oneCell']) (by unfold maxLen; omega) (by omega) hbase ?_
 ·obtain ⟨c0, c1⟩ := hc
  intro j u hj;rw [Go.WideShapes.add_plain, Nat.zero_add]
  match j, hj with
  | 0, hj => simp at hj; subst hj; exact c0
  | 1, hj => simp at hj; subst hj; exact c1
 ·intro v' w' h1 h2 _
  refine h v' w' ?_ h2;rw [show nflat (L ++ [y, z]) = nflat L ++ [.int .i64 y, .int .i64 z] by simp [nflat], List.length_append];exact h1
end
section
open Go.Lib
/-! ### Compact of a sorted list -/
theorem arr_ig (zs : List Int) (m : Nat) (h : m < zs.length) : zs.toArray[m]! = ig zs m := by
 rw [ig_eq zs m h, getElem!_pos _ m (by simpa using h)]
 simp
theorem ig_le {zs : List Int} (h : zs.Pairwise (· ≤ ·)) {i j : Nat} (hij : i ≤ j) (hj : j < zs.length) : ig zs i ≤ ig zs j := by
 rcases Nat.eq_or_lt_of_le hij with e | l
 ·rw [e]; exact Int.le_refl _
 ·rw [ig_eq zs i (by omega), ig_eq zs j hj]
  exact List.pairwise_iff_getElem.1 h i j (by omega) hj l
theorem compact_upto {zs : List Int} (h : zs.Pairwise (· ≤ ·)) : ∀ m, m ≤ zs.length → (compactUpTo zs.toArray m).Pairwise (· < ·) ∧ ∀ x, x ∈ compactUpTo zs.toArray m ↔ ∃ j, j < m ∧ ig zs j = x := by
 intro m
 induction m with
 | zero => intro _; refine ⟨by simp [compactUpTo], fun x => by simp [compactUpTo]⟩
 | succ m ih =>
  intro hm;obtain ⟨h1, h2⟩ := ih (by omega);rw [compactUpTo_succ]
  by_cases hk : keeps zs.toArray m = true
  ·rw [if_pos hk, arr_ig zs m (by omega)]
   have hlt : ∀ x ∈ compactUpTo zs.toArray m, x < ig zs m := fun x hx => by
    obtain ⟨j, hj, rfl⟩ := (h2 x).1 hx;have h3 := ig_le h (show m - 1 ≤ m by omega) (by omega);have h4 := ig_le h (show j ≤ m - 1 by omega) (by omega);unfold keeps at hk;have h5 := of_decide_eq_true hk;rcases h5 with e | e
    ·omega
    ·rw [arr_ig zs m (by omega), arr_ig zs (m - 1) (by omega)] at e
     omega
   refine ⟨?_, fun x => ?_⟩
   ·rw [List.pairwise_append]
    exact ⟨h1, List.pairwise_singleton _ _, fun a ha b hb => by rw [List.mem_singleton.1 hb]; exact hlt a ha⟩
   ·rw [List.mem_append, h2]
    constructor
    ·rintro (⟨j, hj, e⟩ | hx)
     ·exact ⟨j, by omega, e⟩
     ·exact ⟨m, by omega, (List.mem_singleton.1 hx).symm⟩
    ·rintro ⟨j, hj, e⟩
     rcases Nat.lt_or_ge j m with l | l
     ·exact .inl ⟨j, l, e⟩
     ·obtain rfl : j = m := by omega
      exact .inr (by rw [e]; exact List.mem_singleton_self _)
  ·rw [if_neg hk, List.append_nil]
   refine ⟨h1, fun x => ?_⟩;rw [h2]
   constructor
   ·rintro ⟨j, hj, e⟩; exact ⟨j, by omega, e⟩
   ·rintro ⟨j, hj, e⟩
    rcases Nat.lt_or_ge j m with l | l
    ·exact ⟨j, l, e⟩
    ·obtain rfl : j = m := by omega
     have hk' : keeps zs.toArray j = false := by simpa using hk
     unfold keeps at hk';have h5 := of_decide_eq_false hk';have hj0 : j ≠ 0 := fun e => h5 (.inl e);refine ⟨j - 1, by omega, ?_⟩;have h6 : zs.toArray[j]! = zs.toArray[j - 1]! := Classical.byContradiction fun e => h5 (.inr e);rw [arr_ig zs j (by omega), arr_ig zs (j - 1) (by omega)] at h6;rw [← h6, e]
def sortI (l : List Int) : List Int := l.mergeSort fun x y => decide (x ≤ y)
theorem sortI_sorted (l : List Int) : (sortI l).Pairwise (· ≤ ·) := by
 have := List.pairwise_mergeSort (le := fun x y : Int => decide (x ≤ y)) (fun a b c h1 h2 => by simp at *; omega) (fun a b => by simp; omega) l;exact this.imp fun h => by simpa using h
theorem sortI_len (l : List Int) : (sortI l).length = l.length := List.length_mergeSort _
theorem sortI_mem (l : List Int) (x : Int) : x ∈ sortI l ↔ x ∈ l := List.mem_mergeSort
theorem mem_ig {l : List Int} {x : Int} : x ∈ l ↔ ∃ j, j < l.length ∧ ig l j = x := by
 constructor
 ·intro h
  obtain ⟨j, hj, e⟩ := List.getElem_of_mem h;exact ⟨j, hj, by rw [ig_eq l j hj]; exact e⟩
 ·rintro ⟨j, hj, e⟩
  rw [← e, ig_eq l j hj];exact List.getElem_mem hj
theorem compact_sort (l : List Int) : (compact (sortI l)).Pairwise (· < ·) ∧ ∀ x, x ∈ compact (sortI l) ↔ x ∈ l := by
 obtain ⟨h1, h2⟩ := compact_upto (sortI_sorted l) (sortI l).length (Nat.le_refl _);exact ⟨h1, fun x => (h2 x).trans (mem_ig.symm.trans (sortI_mem l x))⟩

/-! ### Uses: their ends, their sums -/
abbrev UseL := List (Int × Int × Int)
def endsTo (U : UseL) : Nat → List Int
 | 0 => [0]
 | k + 1 => if (ug U k).1 < (ug U k).2.1 then endsTo U k ++ [(ug U k).1, (ug U k).2.1] else endsTo U k
theorem endsTo_len (U : UseL) (k : Nat) : (endsTo U k).length ≤ 2 * k + 1 ∧ 0 < (endsTo U k).length := by
 induction k with
 | zero => exact ⟨Nat.le_refl _, Nat.succ_pos _⟩
 | succ k ih =>
  simp only [endsTo]
  split
  ·rw [List.length_append]; simp; omega
  ·omega
theorem endsTo_mem (U : UseL) (x : Int) : ∀ k, x ∈ endsTo U k ↔ x = 0 ∨ ∃ j, j < k ∧ (ug U j).1 < (ug U j).2.1 ∧ (x = (ug U j).1 ∨ x = (ug U j).2.1) := by
 intro k
 induction k with
 | zero => simp [endsTo]
 | succ k ih =>
  simp only [endsTo]
  constructor
  ·intro h
   by_cases hc : (ug U k).1 < (ug U k).2.1
   ·rw [if_pos hc] at h
    rcases List.mem_append.1 h with h | h
    ·rcases ih.1 h with e | ⟨j, hj, a, b⟩
     ·exact .inl e
     ·exact .inr ⟨j, by omega, a, b⟩
    ·exact .inr ⟨k, by omega, hc, by simpa using h⟩
   ·rw [if_neg hc] at h
    rcases ih.1 h with e | ⟨j, hj, a, b⟩
    ·exact .inl e
    ·exact .inr ⟨j, by omega, a, b⟩
  ·intro h
   have hold : x ∈ endsTo U k → x ∈ (if (ug U k).1 < (ug U k).2.1 then endsTo U k ++ [(ug U k).1, (ug U k).2.1] else endsTo U k) := fun h => by
    split
    ·exact List.mem_append_left _ h
    ·exact h
   rcases h with e | ⟨j, hj, a, b⟩
   ·exact hold (ih.2 (.inl e))
   ·rcases Nat.lt_or_ge j k with l | l
    ·exact hold (ih.2 (.inr ⟨j, l, a, b⟩))
    ·obtain rfl : j = k := by omega
     rw [if_pos a];exact List.mem_append_right _ (by simpa using b)
def timesP (U : UseL) : List Int := compact (sortI (endsTo U U.length))
theorem times_lt (U : UseL) : (timesP U).Pairwise (· < ·) := (compact_sort _).1
theorem times_mem (U : UseL) (x : Int) : x ∈ timesP U ↔ x = 0 ∨ ∃ j, j < U.length ∧ (ug U j).1 < (ug U j).2.1 ∧ (x = (ug U j).1 ∨ x = (ug U j).2.1) :=
 ((compact_sort _).2 x).trans (endsTo_mem U x U.length)
def sumTo (U : UseL) (t : Int) : Nat → Int
 | 0 => 0
 | k + 1 => sumTo U t k + if (ug U k).1 ≤ t ∧ t < (ug U k).2.1 then (ug U k).2.2 else 0
def sumAt (U : UseL) (t : Int) : Int := sumTo U t U.length

/-! ### The steps -/
def addS (U : UseL) (out : List (Int × Int)) (t : Int) : List (Int × Int) := if out.length = 0 ∨ (og out (out.length - 1)).2 ≠ sumAt U t then out ++ [(t, sumAt U t)] else out
def stepsK (U : UseL) (k : Nat) : List (Int × Int) := ((timesP U).take k).foldl (addS U) []
def stepsP (U : UseL) : List (Int × Int) := (timesP U).foldl (addS U) []
theorem stepsK_succ (U : UseL) (k : Nat) (h : k < (timesP U).length) : stepsK U (k + 1) = addS U (stepsK U k) (ig (timesP U) k) := by
 unfold stepsK;rw [List.take_add_one, ig_get h, List.foldl_append]
 rfl
theorem stepsK_all (U : UseL) : stepsK U (timesP U).length = stepsP U := by unfold stepsK stepsP; rw [List.take_length]
theorem addS_len (U : UseL) (out : List (Int × Int)) (t : Int) : (addS U out t).length ≤ out.length + 1 := by
 unfold addS; split
 ·rw [List.length_append]; simp
 ·omega
theorem stepsK_len (U : UseL) (k : Nat) (h : k ≤ (timesP U).length) : (stepsK U k).length ≤ k := by
 induction k with
 | zero => exact Nat.le_refl _
 | succ k ih => rw [stepsK_succ U k (by omega)]; have := addS_len U (stepsK U k) (ig (timesP U) k); have := ih (by omega); omega
theorem times_len (U : UseL) : (timesP U).length ≤ 2 * U.length + 1 := by
 have h : (timesP U).length ≤ (sortI (endsTo U U.length)).length := by
  unfold timesP compact compactUpTo;rw [List.length_map];exact Nat.le_trans (List.length_filter_le _ _) (by simp)
 rw [sortI_len] at h;have := (endsTo_len U U.length).1;omega

/-! ### The next end, as the reference finds it -/
def nextTo (U : UseL) (t : Int) : Nat → Int
 | 0 => -1
 | k + 1 =>
  let b := if (ug U k).1 > t ∧ (nextTo U t k < 0 ∨ (ug U k).1 < nextTo U t k) then (ug U k).1 else nextTo U t k
  if (ug U k).2.1 > t ∧ (b < 0 ∨ (ug U k).2.1 < b) then (ug U k).2.1 else b
def nextP (U : UseL) (t : Int) : Int := nextTo U t U.length
theorem nextTo_spec (U : UseL) (t : Int) (ht : 0 ≤ t) : ∀ k,
  (nextTo U t k = -1 ∧ ∀ j, j < k → (ug U j).1 ≤ t ∧ (ug U j).2.1 ≤ t) ∨
  (t < nextTo U t k ∧ (∃ j, j < k ∧ (nextTo U t k = (ug U j).1 ∨ nextTo U t k = (ug U j).2.1)) ∧ ∀ j, j < k → ((ug U j).1 ≤ t ∨ nextTo U t k ≤ (ug U j).1) ∧ ((ug U j).2.1 ≤ t ∨ nextTo U t k ≤ (ug U j).2.1)) := by
 intro k
 induction k with
 | zero => exact .inl ⟨rfl, fun j hj => absurd hj (Nat.not_lt_zero _)⟩
 | succ k ih =>
  -- one end more
  have one : ∀ (b e : Int) (Q : Int → Prop), ((b = -1 ∧ ∀ x, Q x → x ≤ t) ∨ (t < b ∧ Q b ∧ ∀ x, Q x → x ≤ t ∨ b ≤ x)) →
    (((if e > t ∧ (b < 0 ∨ e < b) then e else b) = -1 ∧ ∀ x, (Q x ∨ x = e) → x ≤ t) ∨ (t < (if e > t ∧ (b < 0 ∨ e < b) then e else b) ∧ (Q (if e > t ∧ (b < 0 ∨ e < b) then e else b) ∨ (if e > t ∧ (b < 0 ∨ e < b) then e else b) = e) ∧ ∀ x, (Q x ∨ x = e) → x ≤ t ∨ (if e > t ∧ (b < 0 ∨ e < b) then e else b) ≤ x)) := by
   intro b e Q h
   by_cases c : e > t ∧ (b < 0 ∨ e < b)
   ·rw [if_pos c]
    refine .inr ⟨c.1, .inr rfl, fun x hx => ?_⟩;rcases hx with hx | hx
    ·rcases h with ⟨_, h⟩ | ⟨_, _, h⟩
     ·exact .inl (h x hx)
     ·have := h x hx; omega
    ·omega
   ·rw [if_neg c]
    rcases h with ⟨e1, h⟩ | ⟨h1, h2, h3⟩
    ·refine .inl ⟨e1, fun x hx => ?_⟩
     rcases hx with hx | hx
     ·exact h x hx
     ·omega
    ·refine .inr ⟨h1, .inl h2, fun x hx => ?_⟩
     rcases hx with hx | hx
     ·exact h3 x hx
     ·omega
  have base : (nextTo U t k = -1 ∧ ∀ x, (∃ j, j < k ∧ (x = (ug U j).1 ∨ x = (ug U j).2.1)) → x ≤ t) ∨ (t < nextTo U t k ∧ (∃ j, j < k ∧ (nextTo U t k = (ug U j).1 ∨ nextTo U t k = (ug U j).2.1)) ∧ ∀ x, (∃ j, j < k ∧ (x = (ug U j).1 ∨ x = (ug U j).2.1)) → x ≤ t ∨ nextTo U t k ≤ x) := by
   rcases ih with ⟨e, h⟩ | ⟨h1, h2, h3⟩
   ·exact .inl ⟨e, fun x ⟨j, hj, hx⟩ => hx.elim (fun e => by rw [e]; exact (h j hj).1) (fun e => by rw [e]; exact (h j hj).2)⟩
   ·exact .inr ⟨h1, h2, fun x ⟨j, hj, hx⟩ => hx.elim (fun e => by rw [e]; exact (h3 j hj).1) (fun e => by rw [e]; exact (h3 j hj).2)⟩
  have s1 := one _ (ug U k).1 _ base;have s2 := one _ (ug U k).2.1 _ s1;show (nextTo U t (k + 1) = -1 ∧ _) ∨ _;simp only [nextTo];rcases s2 with ⟨e, h⟩ | ⟨h1, h2, h3⟩
  ·refine .inl ⟨e, fun j hj => ?_⟩
   rcases Nat.lt_or_ge j k with l | l
   ·exact ⟨h _ (.inl (.inl ⟨j, l, .inl rfl⟩)), h _ (.inl (.inl ⟨j, l, .inr rfl⟩))⟩
   ·obtain rfl : j = k := by omega
    exact ⟨h _ (.inl (.inr rfl)), h _ (.inr rfl)⟩
  ·refine .inr ⟨h1, ?_, fun j hj => ?_⟩
   ·rcases h2 with (⟨j, hj, e⟩ | e) | e
    ·exact ⟨j, by omega, e⟩
    ·exact ⟨k, by omega, .inl e⟩
    ·exact ⟨k, by omega, .inr e⟩
   ·rcases Nat.lt_or_ge j k with l | l
    ·exact ⟨h3 _ (.inl (.inl ⟨j, l, .inl rfl⟩)), h3 _ (.inl (.inl ⟨j, l, .inr rfl⟩))⟩
    ·obtain rfl : j = k := by omega
     exact ⟨h3 _ (.inl (.inr rfl)), h3 _ (.inr rfl)⟩
def UseOK (U : UseL) : Prop := ∀ j, j < U.length → 0 ≤ (ug U j).1 ∧ (ug U j).1 < (ug U j).2.1
theorem ig_lt {zs : List Int} (h : zs.Pairwise (· < ·)) {i j : Nat} (hij : i < j) (hj : j < zs.length) : ig zs i < ig zs j := by
 rw [ig_eq zs i (by omega), ig_eq zs j hj];exact List.pairwise_iff_getElem.1 h i j (by omega) hj hij
theorem times_pos (U : UseL) : 0 < (timesP U).length := by
 obtain ⟨j, hj, _⟩ := mem_ig.1 ((times_mem U 0).2 (.inl rfl));omega
theorem times_ge {U : UseL} (h : UseOK U) (x : Int) (hx : x ∈ timesP U) : 0 ≤ x := by
 rcases (times_mem U x).1 hx with e | ⟨j, hj, _, e⟩
 ·omega
 ·have := h j hj; omega
theorem times_zero {U : UseL} (h : UseOK U) : ig (timesP U) 0 = 0 := by
 obtain ⟨j, hj, e⟩ := mem_ig.1 ((times_mem U 0).2 (.inl rfl));have h0 := times_ge h _ (mem_ig.2 ⟨0, times_pos U, rfl⟩);rcases Nat.eq_zero_or_pos j with e0 | e0
 ·rw [← e0, e]
 ·have := ig_lt (times_lt U) e0 hj; omega
theorem next_time {U : UseL} (h : UseOK U) (k : Nat) (hk : k < (timesP U).length) : nextP U (ig (timesP U) k) = if k + 1 < (timesP U).length then ig (timesP U) (k + 1) else -1 := by
 have ht := times_ge h _ (mem_ig.2 ⟨k, hk, rfl⟩);have isin : ∀ j, j < U.length → (ug U j).1 ∈ timesP U ∧ (ug U j).2.1 ∈ timesP U := fun j hj => ⟨(times_mem U _).2 (.inr ⟨j, hj, (h j hj).2, .inl rfl⟩), (times_mem U _).2 (.inr ⟨j, hj, (h j hj).2, .inr rfl⟩)⟩;rcases nextTo_spec U _ ht U.length with ⟨e, h1⟩ | ⟨h1, ⟨j, hj, e⟩, h3⟩
 ·show nextTo U _ U.length = _
  rw [e]
  split
  ·next l =>
   exfalso
   have hlt := ig_lt (times_lt U) (show k < k + 1 by omega) l;rcases (times_mem U _).1 (mem_ig.2 ⟨k + 1, l, rfl⟩) with e0 | ⟨j, hj, _, e0⟩
   ·omega
   ·have := h1 j hj; omega
  ·rfl
 ·show nextTo U _ U.length = _
  have hin : nextTo U (ig (timesP U) k) U.length ∈ timesP U := by
   rcases e with e | e
   ·rw [e]; exact (isin j hj).1
   ·rw [e]; exact (isin j hj).2
  obtain ⟨m, hm, em⟩ := mem_ig.1 hin
  have hkm : k < m := by
   rcases Nat.lt_or_ge k m with l | l
   ·exact l
   ·have := ig_le ((times_lt U).imp (fun h => Int.le_of_lt h)) l hk; omega
  rw [if_pos (by omega)];have hlt := ig_lt (times_lt U) (show k < k + 1 by omega) (show k + 1 < _ by omega);have hle := ig_le ((times_lt U).imp (fun h => Int.le_of_lt h)) (show k + 1 ≤ m from hkm) hm;rcases (times_mem U _).1 (mem_ig.2 ⟨k + 1, by omega, rfl⟩) with e0 | ⟨j2, hj2, _, e0⟩
  ·omega
  ·have := h3 j2 hj2; omega
end
section
open Go.RowKit Go.Shelf
def UseB (U : UseL) : Prop := ∀ k, k < U.length → -1099511627776 ≤ (ug U k).2.2 ∧ (ug U k).2.2 ≤ 1099511627776
theorem sumTo_b {U : UseL} (h : UseB U) (t : Int) : ∀ k, k ≤ U.length → -1099511627776 * (k : Int) ≤ sumTo U t k ∧ sumTo U t k ≤ 1099511627776 * (k : Int) := by
 intro k
 induction k with
 | zero => intro _; exact ⟨Int.le_refl _, Int.le_refl _⟩
 | succ k ih =>
  intro hk;have h1 := ih (by omega);have h2 := h k (by omega);simp only [sumTo]
  split <;> omega
theorem refat_any (a : Option Addr) (U : UseL) (cap : Nat) (t : Int) (n₀ : Nat) (w : World) (hl : U.length ≤ 1000) (hB : UseB U) (hU : Parts n₀ w a U) :
  Calls Tryz.prog 39 #[.slice a U.length cap, .int .i64 t] w fun e w' => e = .returned (.int .i64 (sumAt U t)) ∧ w = w' := by
 have HU := lh hU;have HB : Hid (∀ k, k ≤ U.length → -1099511627776 * (k : Int) ≤ sumTo U t k ∧ sumTo U t k ≤ 1099511627776 * (k : Int)) := lh (sumTo_b hB t);have HBB := lh hB;have HE : Hid (sumAt U t = sumTo U t U.length) := lh rfl;clear hU hB
 go_enter Tryz.func39, Tryz.ntmps39
 go_wp2
 go_loop [5, 6] (fun s i => ∃ k : Nat, k ≤ U.length ∧ i = .int .i64 k ∧ s = .int .i64 (sumTo U t k)) (fun _ i => U.length - (intOf i).toNat)
 case atStart => exact ⟨0, Nat.zero_le _, rfl, rfl⟩
 case round =>
  obtain ⟨k, hk, rfl, rfl⟩ := hrel;obtain ⟨b1, b2⟩ := HB.out k hk
  by_cases hlt : k < U.length
  ·obtain ⟨b, off, rfl, hb, hc⟩ := HU.out (by omega)
   obtain ⟨c0, c1, c2⟩ := hc k hlt
   change w.cell? _ = some (.int .i64 (ug U k).1) at c0
   change w.cell? _ = some (.int .i64 (ug U k).2.1) at c1
   change w.cell? _ = some (.int .i64 (ug U k).2.2) at c2
   obtain ⟨b3, b4⟩ := HBB.out k hlt;clear hc
   by_cases p1 : (ug U k).1 ≤ t
   ·by_cases p2 : t < (ug U k).2.1
    ·have HS : Hid (sumTo U t (k + 1) = sumTo U t k + (ug U k).2.2) := lh (by simp only [sumTo]; rw [if_pos ⟨p1, p2⟩])
     go_wp2
     go_round
     case rel => exact ⟨k + 1, by omega, by go_num, by rw [HS.out]⟩
     case measure => simp [intOf]; omega
    ·have HS : Hid (sumTo U t (k + 1) = sumTo U t k) := lh (by simp only [sumTo]; rw [if_neg (fun h => p2 h.2)]; omega)
     go_wp2
     go_round
     case rel => exact ⟨k + 1, by omega, by go_num, by rw [HS.out]⟩
     case measure => simp [intOf]; omega
   ·have HS : Hid (sumTo U t (k + 1) = sumTo U t k) := lh (by simp only [sumTo]; rw [if_neg (fun h => p1 h.1)]; omega)
    go_wp2
    go_round
    case rel => exact ⟨k + 1, by omega, by go_num, by rw [HS.out]⟩
    case measure => simp [intOf]; omega
  ·obtain rfl : k = U.length := by omega
   go_wp2
   go_ret;exact ⟨ret_int HE.out.symm, rfl⟩

def lessE (t b e : Int) : Int := if e > t ∧ (b < 0 ∨ e < b) then e else b
theorem nextTo_succ (U : UseL) (t : Int) (k : Nat) : nextTo U t (k + 1) = lessE t (lessE t (nextTo U t k) (ug U k).1) (ug U k).2.1 := rfl
theorem refnext_any (a : Option Addr) (U : UseL) (cap : Nat) (t : Int) (n₀ : Nat) (w : World) (hl : U.length ≤ 1000) (hU : Parts n₀ w a U) :
  Calls Tryz.prog 40 #[.slice a U.length cap, .int .i64 t] w fun e w' => e = .returned (.int .i64 (nextP U t)) ∧ w = w' := by
 have HU := lh hU;have HE : Hid (nextP U t = nextTo U t U.length) := lh rfl;clear hU
 go_enter Tryz.func40, Tryz.ntmps40
 go_wp2
 go_loop [5, 6] (fun s i => ∃ k : Nat, k ≤ U.length ∧ i = .int .i64 k ∧ s = .int .i64 (nextTo U t k)) (fun _ i => U.length - (intOf i).toNat)
 case atStart => exact ⟨0, Nat.zero_le _, rfl, rfl⟩
 case round =>
  obtain ⟨k, hk, rfl, rfl⟩ := hrel
  by_cases hlt : k < U.length
  ·obtain ⟨b, off, rfl, hb, hc⟩ := HU.out (by omega)
   obtain ⟨c0, c1, c2⟩ := hc k hlt
   change w.cell? _ = some (.int .i64 (ug U k).1) at c0
   change w.cell? _ = some (.int .i64 (ug U k).2.1) at c1
   have HN := lh (nextTo_succ U t k);clear hc c2;generalize (ug U k).1 = x at *;generalize (ug U k).2.1 = y at *;generalize nextTo U t k = m at *;have fin : ∀ v : Int, nextTo U t (k + 1) = v → ∃ k' : Nat, k' ≤ U.length ∧ Value.int .i64 ((k : Int) + 1) = .int .i64 k' ∧ Value.int .i64 v = .int .i64 (nextTo U t k') := fun v h => ⟨k + 1, by omega, by go_num, by rw [h]⟩;have HF := lh fin;clear fin
   by_cases p1 : x > t ∧ (m < 0 ∨ x < m)
   ·have H1 : Hid (lessE t m x = x) := lh (by unfold lessE; rw [if_pos p1])
    obtain ⟨p1a, p1b⟩ := p1
    by_cases p2 : y > t ∧ (x < 0 ∨ y < x)
    ·have H2 : Hid (lessE t x y = y) := lh (by unfold lessE; rw [if_pos p2])
     obtain ⟨p2a, p2b⟩ := p2
     go_wp2
     all_goals first
      | (exfalso; omega)
      | (go_round
         case rel => exact HF.out _ (by rw [HN.out, H1.out, H2.out])
         case measure => simp [intOf]; omega)
    ·have H2 : Hid (lessE t x y = x) := lh (by unfold lessE; rw [if_neg p2])
     go_wp2
     all_goals first
      | (exfalso; omega)
      | (go_round
         case rel => exact HF.out _ (by rw [HN.out, H1.out, H2.out])
         case measure => simp [intOf]; omega)
   ·have H1 : Hid (lessE t m x = m) := lh (by unfold lessE; rw [if_neg p1])
    by_cases p2 : y > t ∧ (m < 0 ∨ y < m)
    ·have H2 : Hid (lessE t m y = y) := lh (by unfold lessE; rw [if_pos p2])
     obtain ⟨p2a, p2b⟩ := p2
     go_wp2
     all_goals first
      | (exfalso; omega)
      | (go_round
         case rel => exact HF.out _ (by rw [HN.out, H1.out, H2.out])
         case measure => simp [intOf]; omega)
    ·have H2 : Hid (lessE t m y = m) := lh (by unfold lessE; rw [if_neg p2])
     go_wp2
     all_goals first
      | (exfalso; omega)
      | (go_round
         case rel => exact HF.out _ (by rw [HN.out, H1.out, H2.out])
         case measure => simp [intOf]; omega)
  ·obtain rfl : k = U.length := by omega
   go_wp2
   go_ret;exact ⟨ret_int HE.out.symm, rfl⟩
theorem stepsK_one {U : UseL} (h : UseOK U) : stepsK U 1 = [(0, sumAt U 0)] := by
 rw [stepsK_succ U 0 (times_pos U), times_zero h]
 rfl
theorem stepsK_pos {U : UseL} (k : Nat) (h1 : 1 ≤ k) (hk : k ≤ (timesP U).length) : 0 < (stepsK U k).length := by
 induction k with
 | zero => omega
 | succ k ih =>
  rw [stepsK_succ U k (by omega)];unfold addS
  split
  ·rw [List.length_append]; simp
  ·next h => have := fun e => h (.inl e); omega
theorem addS_same {U : UseL} {out : List (Int × Int)} {t : Int} (h0 : 0 < out.length) (h : (og out (out.length - 1)).2 = sumAt U t) : addS U out t = out := by
 unfold addS; rw [if_neg (fun e => e.elim (by omega) (fun e => e h))]
theorem addS_more {U : UseL} {out : List (Int × Int)} {t : Int} (h : (og out (out.length - 1)).2 ≠ sumAt U t) : addS U out t = out ++ [(t, sumAt U t)] := by
 unfold addS; rw [if_pos (.inr h)]
theorem addS_first {U : UseL} {out : List (Int × Int)} {t : Int} (h : out.length = 0) : addS U out t = out ++ [(t, sumAt U t)] := by
 unfold addS; rw [if_pos (.inl h)]

def leftM (M t : Int) : Nat := if t < 0 then 0 else (M + 1 - t).toNat
theorem refsteps_any (a : Option Addr) (U : UseL) (cap : Nat) (w : World) (hl : U.length ≤ 1000) (hok : UseOK U) (hB : UseB U) (hU : Parts w.heap.size w a U) :
  Calls Tryz.prog 24 #[.slice a U.length cap] w fun e w' => Hid (∃ v, e = .returned v ∧ w'.ownsRow w.heap.size 41 2 v (stepsP U).length (oflat (stepsP U)) ∧ Below w.heap.size w w') := by
 have HU := lh hU;have HBB := lh hB;have HOK := lh hok;have HTL := times_len U;have hpos := times_pos U;obtain ⟨T, hT⟩ := nm (timesP U);have HK1 := lh (stepsK_one hok);have HNX : Hid (∀ k, k < T.length → nextP U (ig T k) = if k + 1 < T.length then ig T (k + 1) else -1) := lh (by rw [← hT]; exact next_time hok);have HGE : Hid (∀ k, k < T.length → 0 ≤ ig T k) := lh (by rw [← hT]; exact fun k hk => times_ge hok _ (mem_ig.2 ⟨k, hk, rfl⟩));have HLT : Hid (∀ i j, i < j → j < T.length → ig T i < ig T j) := lh (by rw [← hT]; exact fun i j h1 h2 => ig_lt (times_lt U) h1 h2);have HSU : Hid (∀ k, k < T.length → stepsK U (k + 1) = addS U (stepsK U k) (ig T k)) := lh (by rw [← hT]; exact stepsK_succ U);have HSP : Hid (∀ k, 1 ≤ k → k ≤ T.length → 0 < (stepsK U k).length) := lh (by rw [← hT]; exact stepsK_pos);have HSL : Hid (∀ k, k ≤ T.length → (stepsK U k).length ≤ k) := lh (by rw [← hT]; exact stepsK_len U);have HALL : Hid (stepsK U T.length = stepsP U) := lh (by rw [← hT]; exact stepsK_all U);have HT0 : Hid (ig T 0 = 0) := lh (by rw [← hT]; exact times_zero hok);have HNX0 : Hid (nextP U 0 = if 1 < T.length then ig T 1 else -1) := lh (by have := HNX.out 0 (by rw [← hT]; exact hpos); rw [HT0.out] at this; exact this);rw [hT] at HTL hpos;have hTle : T.length ≤ 2001 := by omega
 clear hU hB hok hT HTL;obtain ⟨M, hM⟩ := nm (ig T (T.length - 1))
 have HM : Hid (∀ k, k < T.length → ig T k ≤ M) := lh fun k hk => by
  rcases Nat.lt_or_ge k (T.length - 1) with l | l
  ·have := HLT.out k (T.length - 1) l (by omega); omega
  ·obtain rfl : k = T.length - 1 := by omega
   omega
 clear hM
 go_enter Tryz.func24, Tryz.ntmps24
 have HPA : Hid (∀ o, Parts w.heap.size (w.alloc o) a U) := lh fun o => HU.out.below (below_new w o)
 go_wp2_with (first
  | (go_at_call 39; (with_reducible refine (refat_any _ U _ 0 _ _ (by omega) HBB.out HU.out).mono ?_); rintro e w' ⟨rfl, rfl⟩)
  | (go_at_call 40; (with_reducible refine (refnext_any _ U _ 0 _ _ (by omega) (HPA.out _)).mono ?_); rintro e w' ⟨rfl, rfl⟩))
 have HR0 : Hid ((w.alloc (.cells #[.int .i64 0, .int .i64 (sumAt U 0)] 41)).ownsRow w.heap.size 41 2 (.slice (some ⟨w.heap.size, 0, none⟩) 1 1) (stepsK U 1).length (oflat (stepsK U 1))) := lh (by rw [HK1.out]; exact World.ownsRow_lit w #[.int .i64 0, .int .i64 (sumAt U 0)] 1 (Nat.le_refl _) (by unfold maxLen; omega) rfl);have hb0 := below_new w (.cells #[.int .i64 0, .int .i64 (sumAt U 0)] 41)
 go_loopw [3, 4] (fun v tv wr => ∃ (k : Nat) (t : Int), 1 ≤ k ∧ k ≤ T.length ∧ tv = .int .i64 t ∧ Hid (t = if k < T.length then ig T k else -1) ∧ Below w.heap.size w wr ∧ Hid (wr.ownsRow w.heap.size 41 2 v (stepsK U k).length (oflat (stepsK U k)))) (fun _ tv _ => leftM M (intOf tv))
 case atStart => exact ⟨1, _, Nat.le_refl _, hpos, rfl, HNX0, hb0, HR0⟩
 case round =>
  clear hb0;obtain ⟨k, t, hk1, hk, rfl, HT, hB, HR⟩ := hrel;have hsp := HSP.out k hk1 hk;have hsl := HSL.out k hk;have hbs := hB.size
  by_cases hlt : k < T.length
  ·have ht : t = ig T k := by rw [HT.out, if_pos hlt]
   have ht0 : 0 ≤ t := by rw [ht]; exact HGE.out k hlt
   have HSU1 : Hid (stepsK U (k + 1) = addS U (stepsK U k) t) := lh (by rw [ht]; exact HSU.out k hlt);have HNXT : Hid (nextP U t = if k + 1 < T.length then ig T (k + 1) else -1) := lh (by rw [ht]; exact HNX.out k hlt)
   have HMS : Hid (leftM M (nextP U t) < leftM M t) := lh (by
    have h1 := HM.out k hlt;rw [← ht] at h1;unfold leftM;rw [if_neg (show ¬ t < 0 by omega), HNXT.out]
    by_cases c : k + 1 < T.length
    ·rw [if_pos c]
     have h2 := HLT.out k (k + 1) (by omega) c;have h3 := HM.out (k + 1) c;rw [← ht] at h2;rw [if_neg (by omega)]; omega
    ·rw [if_neg c, if_pos (by decide)]; omega)
   have HPW : Hid (Parts w.heap.size wr a U) := lh (HU.out.below hB);clear ht;obtain ⟨out, ho⟩ := nm (stepsK U k);rw [ho] at HR HSU1 hsp hsl;obtain ⟨sa, sc, rfl, _, _, _, _⟩ := load_of_row HR.out;obtain ⟨g, rfl, hg1, hg2⟩ := row_addr HR.out hsp;have o1 : wr.cell? ⟨g, (out.length - 1) * 2 + 1, none⟩ = some (.int .i64 (og out (out.length - 1)).2) := by rw [HR.out.cellAt _ (by omega)]; exact (oflat_at out _ (by omega)).2
   clear ho
   by_cases q : (og out (out.length - 1)).2 = sumAt U t
   ·have HS : Hid (stepsK U (k + 1) = out) := lh (by rw [HSU1.out]; exact addS_same hsp q)
    rw [q] at o1;have q1 : (sumAt U t != sumAt U t) = false := bne_self_eq_false _;clear q
    go_wp2_with (first
     | (go_at_call 39; (with_reducible refine (refat_any _ U _ t _ _ (by omega) HBB.out HPW.out).mono ?_); rintro e w' ⟨rfl, rfl⟩)
     | (go_at_call 40; (with_reducible refine (refnext_any _ U _ t _ _ (by omega) HPW.out).mono ?_); rintro e w' ⟨rfl, rfl⟩))
    go_roundw
    case rel => exact ⟨k + 1, _, by omega, by omega, rfl, HNXT, hB, lh (by rw [HS.out]; exact HR.out)⟩
    case measure => exact HMS.out
   ·have HS : Hid (stepsK U (k + 1) = out ++ [(t, sumAt U t)]) := lh (by rw [HSU1.out]; exact addS_more q)
    have q1 : (sumAt U t != (og out (out.length - 1)).2) = true := bne_iff_ne.2 (fun e => q e.symm);clear q
    go_wp2_with (first
     | (go_at_call 39; (with_reducible refine (refat_any _ U _ t _ _ (by omega) HBB.out HPW.out).mono ?_); rintro e w' ⟨rfl, rfl⟩)
     | (at_builtin; refine load_append rfl _ _ rfl w.heap.size _ out rfl (HR.out.alloc _) _ (t, sumAt U t) rfl (by simp) (by omega) (by first | omega | (simp; omega)) ?_; intro v5 w5 hown5 hg5; have hBn : Below w.heap.size w w5 := grown_own (HR.out.alloc (.cells #[.int .i64 t, .int .i64 (sumAt U t)] 41)) hg5 (hB.alloc hbs _) (by first | omega | (simp; omega)) (Nat.le_refl _); have HPN := lh (HU.out.below hBn))
     | (go_at_call 40; (with_reducible refine (refnext_any _ U _ t _ _ (by omega) HPN.out).mono ?_); rintro e w' ⟨rfl, rfl⟩))
    go_roundw
    case rel => exact ⟨k + 1, _, by omega, by omega, rfl, HNXT, hBn, lh (by rw [HS.out]; exact hown5)⟩
    case measure => exact HMS.out
  ·have ht : t = -1 := by rw [HT.out, if_neg hlt]
   subst ht;obtain rfl : k = T.length := by omega
   go_wp2_with fail
   go_ret;exact lh ⟨_, rfl, by rw [← HALL.out]; exact HR.out, hB⟩
end
end Go.Proofs.YtlnodjcmdnmnlaaGreat
