/-
  HOW SLICES OF BEAMS AND OF SETS LIE IN MEMORY; slices.IndexFunc at sets, ContainsFunc at beams.
  PLAIN: houses: their beams and their sets; which houses are valid.
  HOW A HOUSE LIES IN MEMORY.
  HOW SLICES OF MOVES AND OF CUES LIE IN MEMORY; slices.IndexFunc, ContainsFunc at both.
  PLAIN: how many moves the cues of a sheet have for each set of a house.
  THE WALK of grid.Valid.
  THE WALKS of house.find and house.Valid.
  THE WALK of wear.Runs.
-/
import Derived.Outline
import Derived.Deep.DeepCutAuto
import Derived.Lib.SliceRun
import Derived.OwnWalk
import Derived.Test.YthldfijlcoobgaaGreatItem
import Derived.Test.YthldfijlcoobgaaGreatSetM
import Derived.Test.YthldfijlcoobgaaGreatDec
import Derived.Test.YthldfijlcoobgaaGreatHBr
import Derived.Test.YthldfijlcoobgaaGreatBat3
namespace Go.Proofs.YthldfijlcoobgaaGreat
open Go.RowKit Go.Shelf
attribute [local go_sem] Oper.semAt_some
structure RoofR where
  name : ByteArray
  lo : Int
  hi : Int
  most : Int

/-! ### Slices of api.Roof -/

def rg (L : List (RoofR)) (i : Nat) : RoofR := (L[i]?).getD ⟨⟨#[]⟩, 0, 0, 0⟩
theorem rg_eq (L : List (RoofR)) (i : Nat) (h : i < L.length) : rg L i = L[i] := by unfold rg; rw [List.getElem?_eq_getElem h]; rfl
theorem rg_get {L : List (RoofR)} {i : Nat} (h : i < L.length) : L[i]? = some (rg L i) := by rw [rg_eq L i h, List.getElem?_eq_getElem h]
theorem rg_ext (F1 F2 : List (RoofR)) (hl : F1.length = F2.length) (h : ∀ j, j < F1.length → rg F1 j = rg F2 j) : F1 = F2 := by
  refine List.ext_getElem hl fun i h1 h2 => ?_
  have := h i h1
  rwa [rg_eq F1 i h1, rg_eq F2 i h2] at this
theorem rg_old (L : List (RoofR)) (x : RoofR) (i : Nat) (h : i < L.length) : rg (L ++ [x]) i = rg L i := by unfold rg; rw [List.getElem?_append_left h]
theorem rg_new (L : List (RoofR)) (x : RoofR) : rg (L ++ [x]) L.length = x := by unfold rg; simp
def roofV (r : RoofR) : Value := .agg #[.string r.name, .int .i64 r.lo, .int .i64 r.hi, .int .i64 r.most]
def rflat (L : List (RoofR)) : List Value := L.flatMap fun r => [.string r.name, .int .i64 r.lo, .int .i64 r.hi, .int .i64 r.most]
theorem rflat_at (L : List (RoofR)) (i : Nat) (hi : i < L.length) : (rflat L)[i * 4]? = some (.string (rg L i).name) ∧ (rflat L)[i * 4 + 1]? = some (.int .i64 (rg L i).lo) ∧ (rflat L)[i * 4 + 2]? = some (.int .i64 (rg L i).hi) ∧ (rflat L)[i * 4 + 3]? = some (.int .i64 (rg L i).most) := by
  induction L generalizing i with
  | nil => simp at hi
  | cons x r ih =>
    match i with
    | 0 => exact ⟨rfl, rfl, rfl, rfl⟩
    | i + 1 =>
      have := ih i (by simpa using hi)
      have e : rflat (x :: r) = .string x.name :: .int .i64 x.lo :: .int .i64 x.hi :: .int .i64 x.most :: rflat r := rfl
      rw [e, show (i + 1) * 4 = i * 4 + 1 + 1 + 1 + 1 by omega]
      simpa [rg] using this
theorem rflat_snoc (L : List (RoofR)) (r : RoofR) : rflat (L ++ [r]) = rflat L ++ [.string r.name, .int .i64 r.lo, .int .i64 r.hi, .int .i64 r.most] := by simp [rflat]
/-- The elements of a slice at address a are L; they lie in a block below n₀. -/
def Roofs (n₀ : Nat) (w : World) (a : Option Addr) (L : List (RoofR)) : Prop :=
  0 < L.length → ∃ b off, a = some ⟨b, off, none⟩ ∧ b < n₀ ∧ ∀ i, i < L.length → w.cell? ⟨b, off + i * 4, none⟩ = some (.string (rg L i).name) ∧ w.cell? ⟨b, off + i * 4 + 1, none⟩ = some (.int .i64 (rg L i).lo) ∧ w.cell? ⟨b, off + i * 4 + 2, none⟩ = some (.int .i64 (rg L i).hi) ∧ w.cell? ⟨b, off + i * 4 + 3, none⟩ = some (.int .i64 (rg L i).most)
theorem Roofs.below {n₀ : Nat} {w w' : World} {a : Option Addr} {L : List (RoofR)} (h : Roofs n₀ w a L) (hb : Below n₀ w w') : Roofs n₀ w' a L := fun hl => by
  obtain ⟨b, off, rfl, hlt, hc⟩ := h hl
  refine ⟨b, off, rfl, hlt, fun i hi => ?_⟩
  obtain ⟨c0, c1, c2, c3⟩ := hc i hi
  exact ⟨(hb.cell (p := ⟨b, _, none⟩) hlt).trans c0, (hb.cell (p := ⟨b, _, none⟩) hlt).trans c1, (hb.cell (p := ⟨b, _, none⟩) hlt).trans c2, (hb.cell (p := ⟨b, _, none⟩) hlt).trans c3⟩
theorem Roofs.mono {n₀ n₁ : Nat} {w : World} {a : Option Addr} {L : List (RoofR)} (h : Roofs n₀ w a L) (hn : n₀ ≤ n₁) : Roofs n₁ w a L := fun hl => by
  obtain ⟨b, off, rfl, hlt, hc⟩ := h hl
  exact ⟨b, off, rfl, by omega, hc⟩
theorem Roofs.grow {w w' : World} {a : Option Addr} {L : List (RoofR)} (h : Roofs w.heap.size w a L) (hb : Below w.heap.size w w') : Roofs w'.heap.size w' a L := (h.below hb).mono hb.size
theorem Roofs.nil {n₀ : Nat} {w : World} {a : Option Addr} : Roofs n₀ w a [] := fun h => absurd h (Nat.not_lt_zero _)
/-- The first n of them. -/
theorem Roofs.take {n₀ : Nat} {w : World} {a : Option Addr} {L : List (RoofR)} (h : Roofs n₀ w a L) (n : Nat) : Roofs n₀ w a (L.take n) := fun hl => by
  have hl' : 0 < L.length := by rw [List.length_take] at hl; omega
  obtain ⟨b, off, rfl, hlt, hc⟩ := h hl'
  refine ⟨b, off, rfl, hlt, fun i hi => ?_⟩
  rw [List.length_take] at hi
  have e : rg (L.take n) i = rg L i := by unfold rg; rw [List.getElem?_take, if_pos (by omega)]
  rw [e]
  exact hc i (by omega)
theorem roof_len (L : List (RoofR)) : (rflat L).length = L.length * 4 := by
  induction L with
  | nil => rfl
  | cons x r ih =>
    have e : rflat (x :: r) = .string x.name :: .int .i64 x.lo :: .int .i64 x.hi :: .int .i64 x.most :: rflat r := rfl
    rw [e]
    simp only [List.length_cons, ih]
    try omega
theorem roof_one (L : List (RoofR)) : ∀ u ∈ rflat L, u.oneCell' = true := by
  induction L with
  | nil => intro u hu; cases hu
  | cons x r ih =>
    have e : rflat (x :: r) = .string x.name :: .int .i64 x.lo :: .int .i64 x.hi :: .int .i64 x.most :: rflat r := rfl
    rw [e]
    intro u hu
    simp only [List.mem_cons] at hu
    rcases hu with rfl | rfl | rfl | rfl | hu
    · rfl
    · rfl
    · rfl
    · rfl
    · exact ih u hu
/-- A slice of records: its cells, one behind the other. -/
theorem roof_cells {n₀ : Nat} {w : World} {b off : Nat} {L : List (RoofR)} (h : Roofs n₀ w (some ⟨b, off, none⟩) L) : ∀ j u, (rflat L)[j]? = some u → w.cell? ((⟨b, off, none⟩ : Addr).add j) = some u := by
  intro j u hj
  have hlt : j < L.length * 4 := by
    rw [← roof_len]
    exact (List.getElem?_eq_some_iff.1 hj).1
  obtain ⟨b', off', e, _, hc⟩ := h (by omega)
  simp only [Option.some.injEq, Addr.mk.injEq, and_true] at e
  obtain ⟨rfl, rfl⟩ := e
  rw [Go.WideShapes.add_plain]
  obtain ⟨f0, f1, f2, f3⟩ := rflat_at L (j / 4) (by omega)
  obtain ⟨c0, c1, c2, c3⟩ := hc (j / 4) (by omega)
  rcases (show j = j / 4 * 4 ∨ j = j / 4 * 4 + 1 ∨ j = j / 4 * 4 + 2 ∨ j = j / 4 * 4 + 3 by omega) with e | e | e | e
  · first | (rw [e, f0] at hj; rw [e, c0]; exact hj) | (rw [e, f0] at hj; rw [e, ← Nat.add_assoc, c0]; exact hj)
  · first | (rw [e, f1] at hj; rw [e, c1]; exact hj) | (rw [e, f1] at hj; rw [e, ← Nat.add_assoc, c1]; exact hj)
  · first | (rw [e, f2] at hj; rw [e, c2]; exact hj) | (rw [e, f2] at hj; rw [e, ← Nat.add_assoc, c2]; exact hj)
  · first | (rw [e, f3] at hj; rw [e, c3]; exact hj) | (rw [e, f3] at hj; rw [e, ← Nat.add_assoc, c3]; exact hj)
/-- A row of the call's own reads so. -/
theorem roof_of_row {w : World} {base : Nat} {v : Value} {L : List (RoofR)} (h : w.ownsRow base 87 4 v L.length (rflat L)) : ∃ a cap, v = .slice a L.length cap ∧ L.length ≤ cap ∧ cap ≤ maxLen ∧ (a = none → cap = 0) ∧ Roofs w.heap.size w a L := by
  rcases h.2 with ⟨rfl, h0⟩ | ⟨g, cap, cur, rfl, hb, hg, h1, h2, _⟩
  · exact ⟨none, 0, by rw [h0], by omega, by unfold maxLen; omega, fun _ => rfl, fun hl => by omega⟩
  · refine ⟨_, cap, rfl, h1, h2, (fun e => by cases e), fun _ => ⟨g, 0, rfl, (Array.getElem?_eq_some_iff.1 hg).1, fun i hi => ?_⟩⟩
    obtain ⟨f0, f1, f2, f3⟩ := rflat_at L i hi
    have c0 := h.cellAt (i * 4) (by omega)
    have c1 := h.cellAt (i * 4 + 1) (by omega)
    have c2 := h.cellAt (i * 4 + 2) (by omega)
    have c3 := h.cellAt (i * 4 + 3) (by omega)
    rw [f0] at c0
    rw [f1] at c1
    rw [f2] at c2
    rw [f3] at c3
    rw [Nat.zero_add]
    exact ⟨c0, c1, c2, c3⟩
/-- A closure that asks p of an element, wherever it is called later. -/
def AsksRoof (g : Nat) (cb : Array Value) (n₀ : Nat) (w : World) (p : RoofR → Bool) : Prop :=
  ∀ (W : World) (r : RoofR), Below n₀ w W → Calls Tryz.prog g (#[roofV r] ++ cb) W fun e w' => e = .returned (.bool (p r)) ∧ Below W.heap.size W w'
theorem roof_asks_mono {g : Nat} {cb : Array Value} {n₀ n₁ : Nat} {w : World} {p : RoofR → Bool} (h : AsksRoof g cb n₀ w p) (hn : n₀ ≤ n₁) : AsksRoof g cb n₁ w p := fun W r hb => h W r (hb.mono hn)
theorem roof_asks_below {g : Nat} {cb : Array Value} {n₀ : Nat} {w w' : World} {p : RoofR → Bool} (h : AsksRoof g cb n₀ w p) (hb : Below n₀ w w') : AsksRoof g cb n₀ w' p := fun W r hb' => h W r (hb.trans hb')
/-- The first index at which p holds; -1 if there is none. -/
def roof_first (L : List (RoofR)) (p : RoofR → Bool) : Int := match (List.range L.length).find? (fun i => p (rg L i)) with
  | some i => i
  | none => -1
theorem roof_first_hit (L : List (RoofR)) (p : RoofR → Bool) (k : Nat) (hk : k < L.length) (h : p (rg L k) = true) (hn : ∀ j, j < k → p (rg L j) = false) : roof_first L p = k := by
  unfold roof_first
  have : (List.range L.length).find? (fun i => p (rg L i)) = some k := by
    rw [List.find?_eq_some_iff_getElem]
    refine ⟨by simpa using h, k, by simpa using hk, by simp, fun j hj => ?_⟩
    simpa using hn j hj
  rw [this]
theorem roof_first_miss (L : List (RoofR)) (p : RoofR → Bool) (hn : ∀ j, j < L.length → p (rg L j) = false) : roof_first L p = -1 := by
  unfold roof_first
  have : (List.range L.length).find? (fun i => p (rg L i)) = none := by
    rw [List.find?_eq_none]
    intro x hx
    simpa using hn x (by simpa using hx)
  rw [this]
theorem roof_first_cases (L : List (RoofR)) (p : RoofR → Bool) : (roof_first L p = -1 ∧ ∀ j, j < L.length → p (rg L j) = false) ∨ ∃ k : Nat, k < L.length ∧ roof_first L p = k ∧ p (rg L k) = true ∧ ∀ j, j < k → p (rg L j) = false := by
  have main : ∀ n, n ≤ L.length → (∀ j, j < n → p (rg L j) = false) ∨ ∃ k, k < n ∧ p (rg L k) = true ∧ ∀ j, j < k → p (rg L j) = false := by
    intro n
    induction n with
    | zero => exact fun _ => .inl fun j hj => absurd hj (Nat.not_lt_zero _)
    | succ n ih =>
      intro hn
      rcases ih (by omega) with h | ⟨k, hk, h1, h2⟩
      · cases e : p (rg L n)
        · refine .inl fun j hj => ?_
          rcases Nat.lt_or_ge j n with l | l
          · exact h j l
          · obtain rfl : j = n := by omega
            exact e
        · exact .inr ⟨n, by omega, e, h⟩
      · exact .inr ⟨k, by omega, h1, h2⟩
  rcases main L.length (Nat.le_refl _) with h | ⟨k, hk, h1, h2⟩
  · exact .inl ⟨roof_first_miss L p h, h⟩
  · exact .inr ⟨k, hk, roof_first_hit L p k hk h1 h2, h1, h2⟩
def roof_any (L : List (RoofR)) (p : RoofR → Bool) : Bool := decide (0 ≤ roof_first L p)
theorem roof_any_eq (L : List (RoofR)) (p : RoofR → Bool) : roof_any L p = L.any p := by
  unfold roof_any
  rw [Bool.eq_iff_iff, List.any_eq_true, decide_eq_true_eq]
  rcases roof_first_cases L p with ⟨h, h2⟩ | ⟨k, hk, h, h1, _⟩
  · rw [h]
    refine ⟨fun h => by omega, fun ⟨x, hx, hp⟩ => ?_⟩
    obtain ⟨j, hj, e⟩ := List.getElem_of_mem hx
    have := h2 j hj
    rw [rg_eq L j hj, e, hp] at this
    cases this
  · rw [h]
    exact ⟨fun _ => ⟨_, by rw [rg_eq L k hk]; exact List.getElem_mem hk, h1⟩, fun _ => by omega⟩

set_option maxHeartbeats 2000000 in
theorem roof_indexFunc (a : Option Addr) (L : List (RoofR)) (cap n₀ g : Nat) (cb : Array Value) (p : RoofR → Bool) (w : World) (eg : ∀ args w, (callFunc g args).run Tryz.prog w = .ok (.enter g args) w)
    (hl : L.length ≤ 1100) (hn₀ : n₀ ≤ w.heap.size) (hI : Roofs n₀ w a L) (hp : AsksRoof g cb n₀ w p) :
    Calls Tryz.prog 82 #[.slice a L.length cap, .func (.func g) #[] cb] w fun e w' => e = .returned (.int .i64 (roof_first L p)) ∧ Below w.heap.size w w' := by
  have HI := Lib.hid hI; clear hI
  have HP := Lib.hid hp; clear hp
  go_enter Tryz.func82, Tryz.ntmps82
  go_wp2
  go_loopw [8] (fun i wr => ∃ k : Nat, k ≤ L.length ∧ i = .int .i64 k ∧ Below w.heap.size w wr ∧ Hid (∀ j, j < k → p (rg L j) = false)) (fun i _ => L.length - (intOf i).toNat)
  case atStart => exact ⟨0, Nat.zero_le _, rfl, Below.refl _ _, Lib.hid (fun _ h => absurd h (Nat.not_lt_zero _))⟩
  case round =>
    obtain ⟨k, hk, rfl, hB, HA⟩ := hrel
    by_cases hlt : k < L.length
    · obtain ⟨b, off, rfl, hb, hc⟩ := HI.out (by omega)
      obtain ⟨c0, c1, c2, c3⟩ := hc k hlt
      have d0 := (hB.cell (p := ⟨b, off + k * 4, none⟩) (show b < w.heap.size by omega)).trans c0
      have d1 := (hB.cell (p := ⟨b, off + k * 4 + 1, none⟩) (show b < w.heap.size by omega)).trans c1
      have d2 := (hB.cell (p := ⟨b, off + k * 4 + 2, none⟩) (show b < w.heap.size by omega)).trans c2
      have d3 := (hB.cell (p := ⟨b, off + k * 4 + 3, none⟩) (show b < w.heap.size by omega)).trans c3
      clear c0 c1 c2 c3 hc
      have HC := Lib.hid (show Calls Tryz.prog g (#[.agg #[.string (rg L k).name, .int .i64 (rg L k).lo, .int .i64 (rg L k).hi, .int .i64 (rg L k).most]] ++ cb) wr _ from HP.out wr (rg L k) (hB.mono hn₀))
      obtain ⟨bv, hbv⟩ : ∃ bv, p (rg L k) = bv := ⟨_, rfl⟩
      rw [hbv] at HC
      cases bv
      · have HB : Hid (∀ j, j < k + 1 → p (rg L j) = false) := Lib.hid fun j hj => by
          rcases Nat.lt_or_ge j k with l | l
          · exact HA.out j l
          · obtain rfl : j = k := by omega
            exact hbv
        clear hbv
        go_wp2_with ((with_reducible refine HC.out.mono ?_); rintro e w1 ⟨rfl, hb1⟩)
        go_roundw
        case rel => exact ⟨k + 1, by omega, by go_num, hB.trans (hb1.mono hB.size), HB⟩
        case measure => simp [intOf]; omega
      · have H := Lib.hid (roof_first_hit L p k hlt hbv HA.out)
        clear hbv
        go_wp2_with ((with_reducible refine HC.out.mono ?_); rintro e w1 ⟨rfl, hb1⟩)
        go_ret
        exact ⟨ret_int H.out.symm, hB.trans (hb1.mono hB.size)⟩
    · obtain rfl : k = L.length := by omega
      have H := Lib.hid (roof_first_miss L p HA.out)
      go_wp2
      go_ret
      exact ⟨ret_int H.out.symm, hB⟩

set_option maxHeartbeats 1000000 in
theorem roof_containsFunc (a : Option Addr) (L : List (RoofR)) (cap n₀ g : Nat) (cb : Array Value) (p : RoofR → Bool) (w : World) (eg : ∀ args w, (callFunc g args).run Tryz.prog w = .ok (.enter g args) w)
    (hl : L.length ≤ 1100) (hn₀ : n₀ ≤ w.heap.size) (hI : Roofs n₀ w a L) (hp : AsksRoof g cb n₀ w p) :
    Calls Tryz.prog 52 #[.slice a L.length cap, .func (.func g) #[] cb] w fun e w' => e = .returned (.bool (roof_any L p)) ∧ Below w.heap.size w w' := by
  have HC := Lib.hid (roof_indexFunc a L cap n₀ g cb p w eg hl hn₀ hI hp)
  clear hI hp eg
  go_enter Tryz.func52, Tryz.ntmps52
  go_wp2_with (go_at_call 82; (with_reducible refine HC.out.mono ?_); rintro e w1 ⟨rfl, hb1⟩)
  go_ret
  exact ⟨rfl, hb1⟩

/-! ### Slices of api.Set -/

def hsg (L : List (SetR)) (i : Nat) : SetR := (L[i]?).getD ⟨⟨#[]⟩, 0, 0, 0, 0, none, [], 0, 0, 0, 0, 0, 0, none, [], 0, none, [], 0⟩
theorem hsg_eq (L : List (SetR)) (i : Nat) (h : i < L.length) : hsg L i = L[i] := by unfold hsg; rw [List.getElem?_eq_getElem h]; rfl
theorem hsg_get {L : List (SetR)} {i : Nat} (h : i < L.length) : L[i]? = some (hsg L i) := by rw [hsg_eq L i h, List.getElem?_eq_getElem h]
theorem hsg_ext (F1 F2 : List (SetR)) (hl : F1.length = F2.length) (h : ∀ j, j < F1.length → hsg F1 j = hsg F2 j) : F1 = F2 := by
  refine List.ext_getElem hl fun i h1 h2 => ?_
  have := h i h1
  rwa [hsg_eq F1 i h1, hsg_eq F2 i h2] at this
theorem hsg_old (L : List (SetR)) (x : SetR) (i : Nat) (h : i < L.length) : hsg (L ++ [x]) i = hsg L i := by unfold hsg; rw [List.getElem?_append_left h]
theorem hsg_new (L : List (SetR)) (x : SetR) : hsg (L ++ [x]) L.length = x := by unfold hsg; simp
def setV (r : SetR) : Value := .agg #[.string r.name, .int .i64 r.depth, .int .i64 r.low, .int .i64 r.high, .int .i64 r.length, .slice r.la r.lines.length r.lc, .int .i64 r.pipe, .int .i64 r.arbor, .int .i64 r.purchase, .int .i64 r.most, .int .i64 r.brake, .slice r.ia r.items.length r.ic, .slice r.ba r.bricks.length r.bc]
def hsflat (L : List (SetR)) : List Value := L.flatMap fun r => [.string r.name, .int .i64 r.depth, .int .i64 r.low, .int .i64 r.high, .int .i64 r.length, .slice r.la r.lines.length r.lc, .int .i64 r.pipe, .int .i64 r.arbor, .int .i64 r.purchase, .int .i64 r.most, .int .i64 r.brake, .slice r.ia r.items.length r.ic, .slice r.ba r.bricks.length r.bc]
theorem hsflat_at (L : List (SetR)) (i : Nat) (hi : i < L.length) : (hsflat L)[i * 13]? = some (.string (hsg L i).name) ∧ (hsflat L)[i * 13 + 1]? = some (.int .i64 (hsg L i).depth) ∧ (hsflat L)[i * 13 + 2]? = some (.int .i64 (hsg L i).low) ∧ (hsflat L)[i * 13 + 3]? = some (.int .i64 (hsg L i).high) ∧ (hsflat L)[i * 13 + 4]? = some (.int .i64 (hsg L i).length) ∧ (hsflat L)[i * 13 + 5]? = some (.slice (hsg L i).la (hsg L i).lines.length (hsg L i).lc) ∧ (hsflat L)[i * 13 + 6]? = some (.int .i64 (hsg L i).pipe) ∧ (hsflat L)[i * 13 + 7]? = some (.int .i64 (hsg L i).arbor) ∧ (hsflat L)[i * 13 + 8]? = some (.int .i64 (hsg L i).purchase) ∧ (hsflat L)[i * 13 + 9]? = some (.int .i64 (hsg L i).most) ∧ (hsflat L)[i * 13 + 10]? = some (.int .i64 (hsg L i).brake) ∧ (hsflat L)[i * 13 + 11]? = some (.slice (hsg L i).ia (hsg L i).items.length (hsg L i).ic) ∧ (hsflat L)[i * 13 + 12]? = some (.slice (hsg L i).ba (hsg L i).bricks.length (hsg L i).bc) := by
  induction L generalizing i with
  | nil => simp at hi
  | cons x r ih =>
    match i with
    | 0 => exact ⟨rfl, rfl, rfl, rfl, rfl, rfl, rfl, rfl, rfl, rfl, rfl, rfl, rfl⟩
    | i + 1 =>
      have := ih i (by simpa using hi)
      have e : hsflat (x :: r) = .string x.name :: .int .i64 x.depth :: .int .i64 x.low :: .int .i64 x.high :: .int .i64 x.length :: .slice x.la x.lines.length x.lc :: .int .i64 x.pipe :: .int .i64 x.arbor :: .int .i64 x.purchase :: .int .i64 x.most :: .int .i64 x.brake :: .slice x.ia x.items.length x.ic :: .slice x.ba x.bricks.length x.bc :: hsflat r := rfl
      rw [e, show (i + 1) * 13 = i * 13 + 1 + 1 + 1 + 1 + 1 + 1 + 1 + 1 + 1 + 1 + 1 + 1 + 1 by omega]
      simpa [hsg] using this
theorem hsflat_snoc (L : List (SetR)) (r : SetR) : hsflat (L ++ [r]) = hsflat L ++ [.string r.name, .int .i64 r.depth, .int .i64 r.low, .int .i64 r.high, .int .i64 r.length, .slice r.la r.lines.length r.lc, .int .i64 r.pipe, .int .i64 r.arbor, .int .i64 r.purchase, .int .i64 r.most, .int .i64 r.brake, .slice r.ia r.items.length r.ic, .slice r.ba r.bricks.length r.bc] := by simp [hsflat]
/-- The elements of a slice at address a are L; they lie in a block below n₀. -/
def SetRows (n₀ : Nat) (w : World) (a : Option Addr) (L : List (SetR)) : Prop :=
  0 < L.length → ∃ b off, a = some ⟨b, off, none⟩ ∧ b < n₀ ∧ ∀ i, i < L.length → w.cell? ⟨b, off + i * 13, none⟩ = some (.string (hsg L i).name) ∧ w.cell? ⟨b, off + i * 13 + 1, none⟩ = some (.int .i64 (hsg L i).depth) ∧ w.cell? ⟨b, off + i * 13 + 2, none⟩ = some (.int .i64 (hsg L i).low) ∧ w.cell? ⟨b, off + i * 13 + 3, none⟩ = some (.int .i64 (hsg L i).high) ∧ w.cell? ⟨b, off + i * 13 + 4, none⟩ = some (.int .i64 (hsg L i).length) ∧ w.cell? ⟨b, off + i * 13 + 5, none⟩ = some (.slice (hsg L i).la (hsg L i).lines.length (hsg L i).lc) ∧ w.cell? ⟨b, off + i * 13 + 6, none⟩ = some (.int .i64 (hsg L i).pipe) ∧ w.cell? ⟨b, off + i * 13 + 7, none⟩ = some (.int .i64 (hsg L i).arbor) ∧ w.cell? ⟨b, off + i * 13 + 8, none⟩ = some (.int .i64 (hsg L i).purchase) ∧ w.cell? ⟨b, off + i * 13 + 9, none⟩ = some (.int .i64 (hsg L i).most) ∧ w.cell? ⟨b, off + i * 13 + 10, none⟩ = some (.int .i64 (hsg L i).brake) ∧ w.cell? ⟨b, off + i * 13 + 11, none⟩ = some (.slice (hsg L i).ia (hsg L i).items.length (hsg L i).ic) ∧ w.cell? ⟨b, off + i * 13 + 12, none⟩ = some (.slice (hsg L i).ba (hsg L i).bricks.length (hsg L i).bc)
theorem SetRows.below {n₀ : Nat} {w w' : World} {a : Option Addr} {L : List (SetR)} (h : SetRows n₀ w a L) (hb : Below n₀ w w') : SetRows n₀ w' a L := fun hl => by
  obtain ⟨b, off, rfl, hlt, hc⟩ := h hl
  refine ⟨b, off, rfl, hlt, fun i hi => ?_⟩
  obtain ⟨c0, c1, c2, c3, c4, c5, c6, c7, c8, c9, c10, c11, c12⟩ := hc i hi
  exact ⟨(hb.cell (p := ⟨b, _, none⟩) hlt).trans c0, (hb.cell (p := ⟨b, _, none⟩) hlt).trans c1, (hb.cell (p := ⟨b, _, none⟩) hlt).trans c2, (hb.cell (p := ⟨b, _, none⟩) hlt).trans c3, (hb.cell (p := ⟨b, _, none⟩) hlt).trans c4, (hb.cell (p := ⟨b, _, none⟩) hlt).trans c5, (hb.cell (p := ⟨b, _, none⟩) hlt).trans c6, (hb.cell (p := ⟨b, _, none⟩) hlt).trans c7, (hb.cell (p := ⟨b, _, none⟩) hlt).trans c8, (hb.cell (p := ⟨b, _, none⟩) hlt).trans c9, (hb.cell (p := ⟨b, _, none⟩) hlt).trans c10, (hb.cell (p := ⟨b, _, none⟩) hlt).trans c11, (hb.cell (p := ⟨b, _, none⟩) hlt).trans c12⟩
theorem SetRows.mono {n₀ n₁ : Nat} {w : World} {a : Option Addr} {L : List (SetR)} (h : SetRows n₀ w a L) (hn : n₀ ≤ n₁) : SetRows n₁ w a L := fun hl => by
  obtain ⟨b, off, rfl, hlt, hc⟩ := h hl
  exact ⟨b, off, rfl, by omega, hc⟩
theorem SetRows.grow {w w' : World} {a : Option Addr} {L : List (SetR)} (h : SetRows w.heap.size w a L) (hb : Below w.heap.size w w') : SetRows w'.heap.size w' a L := (h.below hb).mono hb.size
theorem SetRows.nil {n₀ : Nat} {w : World} {a : Option Addr} : SetRows n₀ w a [] := fun h => absurd h (Nat.not_lt_zero _)
/-- The first n of them. -/
theorem SetRows.take {n₀ : Nat} {w : World} {a : Option Addr} {L : List (SetR)} (h : SetRows n₀ w a L) (n : Nat) : SetRows n₀ w a (L.take n) := fun hl => by
  have hl' : 0 < L.length := by rw [List.length_take] at hl; omega
  obtain ⟨b, off, rfl, hlt, hc⟩ := h hl'
  refine ⟨b, off, rfl, hlt, fun i hi => ?_⟩
  rw [List.length_take] at hi
  have e : hsg (L.take n) i = hsg L i := by unfold hsg; rw [List.getElem?_take, if_pos (by omega)]
  rw [e]
  exact hc i (by omega)
theorem set_len (L : List (SetR)) : (hsflat L).length = L.length * 13 := by
  induction L with
  | nil => rfl
  | cons x r ih =>
    have e : hsflat (x :: r) = .string x.name :: .int .i64 x.depth :: .int .i64 x.low :: .int .i64 x.high :: .int .i64 x.length :: .slice x.la x.lines.length x.lc :: .int .i64 x.pipe :: .int .i64 x.arbor :: .int .i64 x.purchase :: .int .i64 x.most :: .int .i64 x.brake :: .slice x.ia x.items.length x.ic :: .slice x.ba x.bricks.length x.bc :: hsflat r := rfl
    rw [e]
    simp only [List.length_cons, ih]
    try omega
theorem set_one (L : List (SetR)) : ∀ u ∈ hsflat L, u.oneCell' = true := by
  induction L with
  | nil => intro u hu; cases hu
  | cons x r ih =>
    have e : hsflat (x :: r) = .string x.name :: .int .i64 x.depth :: .int .i64 x.low :: .int .i64 x.high :: .int .i64 x.length :: .slice x.la x.lines.length x.lc :: .int .i64 x.pipe :: .int .i64 x.arbor :: .int .i64 x.purchase :: .int .i64 x.most :: .int .i64 x.brake :: .slice x.ia x.items.length x.ic :: .slice x.ba x.bricks.length x.bc :: hsflat r := rfl
    rw [e]
    intro u hu
    simp only [List.mem_cons] at hu
    rcases hu with rfl | rfl | rfl | rfl | rfl | rfl | rfl | rfl | rfl | rfl | rfl | rfl | rfl | hu
    · rfl
    · rfl
    · rfl
    · rfl
    · rfl
    · rfl
    · rfl
    · rfl
    · rfl
    · rfl
    · rfl
    · rfl
    · rfl
    · exact ih u hu
/-- A slice of records: its cells, one behind the other. -/
theorem set_cells {n₀ : Nat} {w : World} {b off : Nat} {L : List (SetR)} (h : SetRows n₀ w (some ⟨b, off, none⟩) L) : ∀ j u, (hsflat L)[j]? = some u → w.cell? ((⟨b, off, none⟩ : Addr).add j) = some u := by
  intro j u hj
  have hlt : j < L.length * 13 := by
    rw [← set_len]
    exact (List.getElem?_eq_some_iff.1 hj).1
  obtain ⟨b', off', e, _, hc⟩ := h (by omega)
  simp only [Option.some.injEq, Addr.mk.injEq, and_true] at e
  obtain ⟨rfl, rfl⟩ := e
  rw [Go.WideShapes.add_plain]
  obtain ⟨f0, f1, f2, f3, f4, f5, f6, f7, f8, f9, f10, f11, f12⟩ := hsflat_at L (j / 13) (by omega)
  obtain ⟨c0, c1, c2, c3, c4, c5, c6, c7, c8, c9, c10, c11, c12⟩ := hc (j / 13) (by omega)
  rcases (show j = j / 13 * 13 ∨ j = j / 13 * 13 + 1 ∨ j = j / 13 * 13 + 2 ∨ j = j / 13 * 13 + 3 ∨ j = j / 13 * 13 + 4 ∨ j = j / 13 * 13 + 5 ∨ j = j / 13 * 13 + 6 ∨ j = j / 13 * 13 + 7 ∨ j = j / 13 * 13 + 8 ∨ j = j / 13 * 13 + 9 ∨ j = j / 13 * 13 + 10 ∨ j = j / 13 * 13 + 11 ∨ j = j / 13 * 13 + 12 by omega) with e | e | e | e | e | e | e | e | e | e | e | e | e
  · first | (rw [e, f0] at hj; rw [e, c0]; exact hj) | (rw [e, f0] at hj; rw [e, ← Nat.add_assoc, c0]; exact hj)
  · first | (rw [e, f1] at hj; rw [e, c1]; exact hj) | (rw [e, f1] at hj; rw [e, ← Nat.add_assoc, c1]; exact hj)
  · first | (rw [e, f2] at hj; rw [e, c2]; exact hj) | (rw [e, f2] at hj; rw [e, ← Nat.add_assoc, c2]; exact hj)
  · first | (rw [e, f3] at hj; rw [e, c3]; exact hj) | (rw [e, f3] at hj; rw [e, ← Nat.add_assoc, c3]; exact hj)
  · first | (rw [e, f4] at hj; rw [e, c4]; exact hj) | (rw [e, f4] at hj; rw [e, ← Nat.add_assoc, c4]; exact hj)
  · first | (rw [e, f5] at hj; rw [e, c5]; exact hj) | (rw [e, f5] at hj; rw [e, ← Nat.add_assoc, c5]; exact hj)
  · first | (rw [e, f6] at hj; rw [e, c6]; exact hj) | (rw [e, f6] at hj; rw [e, ← Nat.add_assoc, c6]; exact hj)
  · first | (rw [e, f7] at hj; rw [e, c7]; exact hj) | (rw [e, f7] at hj; rw [e, ← Nat.add_assoc, c7]; exact hj)
  · first | (rw [e, f8] at hj; rw [e, c8]; exact hj) | (rw [e, f8] at hj; rw [e, ← Nat.add_assoc, c8]; exact hj)
  · first | (rw [e, f9] at hj; rw [e, c9]; exact hj) | (rw [e, f9] at hj; rw [e, ← Nat.add_assoc, c9]; exact hj)
  · first | (rw [e, f10] at hj; rw [e, c10]; exact hj) | (rw [e, f10] at hj; rw [e, ← Nat.add_assoc, c10]; exact hj)
  · first | (rw [e, f11] at hj; rw [e, c11]; exact hj) | (rw [e, f11] at hj; rw [e, ← Nat.add_assoc, c11]; exact hj)
  · first | (rw [e, f12] at hj; rw [e, c12]; exact hj) | (rw [e, f12] at hj; rw [e, ← Nat.add_assoc, c12]; exact hj)
/-- A row of the call's own reads so. -/
theorem set_of_row {w : World} {base : Nat} {v : Value} {L : List (SetR)} (h : w.ownsRow base 71 13 v L.length (hsflat L)) : ∃ a cap, v = .slice a L.length cap ∧ L.length ≤ cap ∧ cap ≤ maxLen ∧ (a = none → cap = 0) ∧ SetRows w.heap.size w a L := by
  rcases h.2 with ⟨rfl, h0⟩ | ⟨g, cap, cur, rfl, hb, hg, h1, h2, _⟩
  · exact ⟨none, 0, by rw [h0], by omega, by unfold maxLen; omega, fun _ => rfl, fun hl => by omega⟩
  · refine ⟨_, cap, rfl, h1, h2, (fun e => by cases e), fun _ => ⟨g, 0, rfl, (Array.getElem?_eq_some_iff.1 hg).1, fun i hi => ?_⟩⟩
    obtain ⟨f0, f1, f2, f3, f4, f5, f6, f7, f8, f9, f10, f11, f12⟩ := hsflat_at L i hi
    have c0 := h.cellAt (i * 13) (by omega)
    have c1 := h.cellAt (i * 13 + 1) (by omega)
    have c2 := h.cellAt (i * 13 + 2) (by omega)
    have c3 := h.cellAt (i * 13 + 3) (by omega)
    have c4 := h.cellAt (i * 13 + 4) (by omega)
    have c5 := h.cellAt (i * 13 + 5) (by omega)
    have c6 := h.cellAt (i * 13 + 6) (by omega)
    have c7 := h.cellAt (i * 13 + 7) (by omega)
    have c8 := h.cellAt (i * 13 + 8) (by omega)
    have c9 := h.cellAt (i * 13 + 9) (by omega)
    have c10 := h.cellAt (i * 13 + 10) (by omega)
    have c11 := h.cellAt (i * 13 + 11) (by omega)
    have c12 := h.cellAt (i * 13 + 12) (by omega)
    rw [f0] at c0
    rw [f1] at c1
    rw [f2] at c2
    rw [f3] at c3
    rw [f4] at c4
    rw [f5] at c5
    rw [f6] at c6
    rw [f7] at c7
    rw [f8] at c8
    rw [f9] at c9
    rw [f10] at c10
    rw [f11] at c11
    rw [f12] at c12
    rw [Nat.zero_add]
    exact ⟨c0, c1, c2, c3, c4, c5, c6, c7, c8, c9, c10, c11, c12⟩
/-- A closure that asks p of an element, wherever it is called later. -/
def AsksSet (g : Nat) (cb : Array Value) (n₀ : Nat) (w : World) (p : SetR → Bool) : Prop :=
  ∀ (W : World) (r : SetR), Below n₀ w W → Calls Tryz.prog g (#[setV r] ++ cb) W fun e w' => e = .returned (.bool (p r)) ∧ Below W.heap.size W w'
theorem set_asks_mono {g : Nat} {cb : Array Value} {n₀ n₁ : Nat} {w : World} {p : SetR → Bool} (h : AsksSet g cb n₀ w p) (hn : n₀ ≤ n₁) : AsksSet g cb n₁ w p := fun W r hb => h W r (hb.mono hn)
theorem set_asks_below {g : Nat} {cb : Array Value} {n₀ : Nat} {w w' : World} {p : SetR → Bool} (h : AsksSet g cb n₀ w p) (hb : Below n₀ w w') : AsksSet g cb n₀ w' p := fun W r hb' => h W r (hb.trans hb')
/-- The first index at which p holds; -1 if there is none. -/
def set_first (L : List (SetR)) (p : SetR → Bool) : Int := match (List.range L.length).find? (fun i => p (hsg L i)) with
  | some i => i
  | none => -1
theorem set_first_hit (L : List (SetR)) (p : SetR → Bool) (k : Nat) (hk : k < L.length) (h : p (hsg L k) = true) (hn : ∀ j, j < k → p (hsg L j) = false) : set_first L p = k := by
  unfold set_first
  have : (List.range L.length).find? (fun i => p (hsg L i)) = some k := by
    rw [List.find?_eq_some_iff_getElem]
    refine ⟨by simpa using h, k, by simpa using hk, by simp, fun j hj => ?_⟩
    simpa using hn j hj
  rw [this]
theorem set_first_miss (L : List (SetR)) (p : SetR → Bool) (hn : ∀ j, j < L.length → p (hsg L j) = false) : set_first L p = -1 := by
  unfold set_first
  have : (List.range L.length).find? (fun i => p (hsg L i)) = none := by
    rw [List.find?_eq_none]
    intro x hx
    simpa using hn x (by simpa using hx)
  rw [this]
theorem set_first_cases (L : List (SetR)) (p : SetR → Bool) : (set_first L p = -1 ∧ ∀ j, j < L.length → p (hsg L j) = false) ∨ ∃ k : Nat, k < L.length ∧ set_first L p = k ∧ p (hsg L k) = true ∧ ∀ j, j < k → p (hsg L j) = false := by
  have main : ∀ n, n ≤ L.length → (∀ j, j < n → p (hsg L j) = false) ∨ ∃ k, k < n ∧ p (hsg L k) = true ∧ ∀ j, j < k → p (hsg L j) = false := by
    intro n
    induction n with
    | zero => exact fun _ => .inl fun j hj => absurd hj (Nat.not_lt_zero _)
    | succ n ih =>
      intro hn
      rcases ih (by omega) with h | ⟨k, hk, h1, h2⟩
      · cases e : p (hsg L n)
        · refine .inl fun j hj => ?_
          rcases Nat.lt_or_ge j n with l | l
          · exact h j l
          · obtain rfl : j = n := by omega
            exact e
        · exact .inr ⟨n, by omega, e, h⟩
      · exact .inr ⟨k, by omega, h1, h2⟩
  rcases main L.length (Nat.le_refl _) with h | ⟨k, hk, h1, h2⟩
  · exact .inl ⟨set_first_miss L p h, h⟩
  · exact .inr ⟨k, hk, set_first_hit L p k hk h1 h2, h1, h2⟩
def set_any (L : List (SetR)) (p : SetR → Bool) : Bool := decide (0 ≤ set_first L p)
theorem set_any_eq (L : List (SetR)) (p : SetR → Bool) : set_any L p = L.any p := by
  unfold set_any
  rw [Bool.eq_iff_iff, List.any_eq_true, decide_eq_true_eq]
  rcases set_first_cases L p with ⟨h, h2⟩ | ⟨k, hk, h, h1, _⟩
  · rw [h]
    refine ⟨fun h => by omega, fun ⟨x, hx, hp⟩ => ?_⟩
    obtain ⟨j, hj, e⟩ := List.getElem_of_mem hx
    have := h2 j hj
    rw [hsg_eq L j hj, e, hp] at this
    cases this
  · rw [h]
    exact ⟨fun _ => ⟨_, by rw [hsg_eq L k hk]; exact List.getElem_mem hk, h1⟩, fun _ => by omega⟩

set_option maxHeartbeats 2000000 in
theorem set_indexFunc (a : Option Addr) (L : List (SetR)) (cap n₀ g : Nat) (cb : Array Value) (p : SetR → Bool) (w : World) (eg : ∀ args w, (callFunc g args).run Tryz.prog w = .ok (.enter g args) w)
    (hl : L.length ≤ 1100) (hn₀ : n₀ ≤ w.heap.size) (hI : SetRows n₀ w a L) (hp : AsksSet g cb n₀ w p) :
    Calls Tryz.prog 21 #[.slice a L.length cap, .func (.func g) #[] cb] w fun e w' => e = .returned (.int .i64 (set_first L p)) ∧ Below w.heap.size w w' := by
  have HI := Lib.hid hI; clear hI
  have HP := Lib.hid hp; clear hp
  go_enter Tryz.func21, Tryz.ntmps21
  go_wp2
  go_loopw [8] (fun i wr => ∃ k : Nat, k ≤ L.length ∧ i = .int .i64 k ∧ Below w.heap.size w wr ∧ Hid (∀ j, j < k → p (hsg L j) = false)) (fun i _ => L.length - (intOf i).toNat)
  case atStart => exact ⟨0, Nat.zero_le _, rfl, Below.refl _ _, Lib.hid (fun _ h => absurd h (Nat.not_lt_zero _))⟩
  case round =>
    obtain ⟨k, hk, rfl, hB, HA⟩ := hrel
    by_cases hlt : k < L.length
    · obtain ⟨b, off, rfl, hb, hc⟩ := HI.out (by omega)
      obtain ⟨c0, c1, c2, c3, c4, c5, c6, c7, c8, c9, c10, c11, c12⟩ := hc k hlt
      have d0 := (hB.cell (p := ⟨b, off + k * 13, none⟩) (show b < w.heap.size by omega)).trans c0
      have d1 := (hB.cell (p := ⟨b, off + k * 13 + 1, none⟩) (show b < w.heap.size by omega)).trans c1
      have d2 := (hB.cell (p := ⟨b, off + k * 13 + 2, none⟩) (show b < w.heap.size by omega)).trans c2
      have d3 := (hB.cell (p := ⟨b, off + k * 13 + 3, none⟩) (show b < w.heap.size by omega)).trans c3
      have d4 := (hB.cell (p := ⟨b, off + k * 13 + 4, none⟩) (show b < w.heap.size by omega)).trans c4
      have d5 := (hB.cell (p := ⟨b, off + k * 13 + 5, none⟩) (show b < w.heap.size by omega)).trans c5
      have d6 := (hB.cell (p := ⟨b, off + k * 13 + 6, none⟩) (show b < w.heap.size by omega)).trans c6
      have d7 := (hB.cell (p := ⟨b, off + k * 13 + 7, none⟩) (show b < w.heap.size by omega)).trans c7
      have d8 := (hB.cell (p := ⟨b, off + k * 13 + 8, none⟩) (show b < w.heap.size by omega)).trans c8
      have d9 := (hB.cell (p := ⟨b, off + k * 13 + 9, none⟩) (show b < w.heap.size by omega)).trans c9
      have d10 := (hB.cell (p := ⟨b, off + k * 13 + 10, none⟩) (show b < w.heap.size by omega)).trans c10
      have d11 := (hB.cell (p := ⟨b, off + k * 13 + 11, none⟩) (show b < w.heap.size by omega)).trans c11
      have d12 := (hB.cell (p := ⟨b, off + k * 13 + 12, none⟩) (show b < w.heap.size by omega)).trans c12
      clear c0 c1 c2 c3 c4 c5 c6 c7 c8 c9 c10 c11 c12 hc
      have HC := Lib.hid (show Calls Tryz.prog g (#[.agg #[.string (hsg L k).name, .int .i64 (hsg L k).depth, .int .i64 (hsg L k).low, .int .i64 (hsg L k).high, .int .i64 (hsg L k).length, .slice (hsg L k).la (hsg L k).lines.length (hsg L k).lc, .int .i64 (hsg L k).pipe, .int .i64 (hsg L k).arbor, .int .i64 (hsg L k).purchase, .int .i64 (hsg L k).most, .int .i64 (hsg L k).brake, .slice (hsg L k).ia (hsg L k).items.length (hsg L k).ic, .slice (hsg L k).ba (hsg L k).bricks.length (hsg L k).bc]] ++ cb) wr _ from HP.out wr (hsg L k) (hB.mono hn₀))
      obtain ⟨bv, hbv⟩ : ∃ bv, p (hsg L k) = bv := ⟨_, rfl⟩
      rw [hbv] at HC
      cases bv
      · have HB : Hid (∀ j, j < k + 1 → p (hsg L j) = false) := Lib.hid fun j hj => by
          rcases Nat.lt_or_ge j k with l | l
          · exact HA.out j l
          · obtain rfl : j = k := by omega
            exact hbv
        clear hbv
        go_wp2_with ((with_reducible refine HC.out.mono ?_); rintro e w1 ⟨rfl, hb1⟩)
        go_roundw
        case rel => exact ⟨k + 1, by omega, by go_num, hB.trans (hb1.mono hB.size), HB⟩
        case measure => simp [intOf]; omega
      · have H := Lib.hid (set_first_hit L p k hlt hbv HA.out)
        clear hbv
        go_wp2_with ((with_reducible refine HC.out.mono ?_); rintro e w1 ⟨rfl, hb1⟩)
        go_ret
        exact ⟨ret_int H.out.symm, hB.trans (hb1.mono hB.size)⟩
    · obtain rfl : k = L.length := by omega
      have H := Lib.hid (set_first_miss L p HA.out)
      go_wp2
      go_ret
      exact ⟨ret_int H.out.symm, hB⟩
end Go.Proofs.YthldfijlcoobgaaGreat
namespace Go.Proofs.YthldfijlcoobgaaGreat
open Go.RowKit Go.Shelf
structure HouseR where
  name : ByteArray
  height : Int
  sa : Option Addr
  sets : List SetR
  sc : Nat
  ra : Option Addr
  roofs : List RoofR
  rc : Nat
def RoofOK (x : RoofR) : Prop := isNameB x.name = true ∧ 0 ≤ x.lo ∧ x.lo ≤ x.hi ∧ x.hi ≤ 1048576 ∧ 0 ≤ x.most ∧ x.most ≤ 67108864
instance (x : RoofR) : Decidable (RoofOK x) := by unfold RoofOK; infer_instance
/-- The beam with a number, and those ahead of it. -/
def RoofAt (L : List RoofR) (k : Nat) : Prop := RoofOK (rg L k) ∧ ∀ j, j < k → (rg L j).name ≠ (rg L k).name
def RoofsOK (L : List RoofR) : Prop := L.length ≤ 20 ∧ ∀ k, k < L.length → RoofAt L k
def SetAtOK (h : HouseR) (k : Nat) : Prop := setB (hsg h.sets k) = true ∧ (hsg h.sets k).high ≤ h.height ∧ ∀ j, j < k → (hsg h.sets j).name ≠ (hsg h.sets k).name
def HouseOK (h : HouseR) : Prop := isNameB h.name = true ∧ 1 ≤ h.height ∧ h.height ≤ 1048576 ∧ h.sets.length ≤ 60 ∧ RoofsOK h.roofs ∧ ∀ k, k < h.sets.length → SetAtOK h k
noncomputable def roofsB (L : List RoofR) : Bool := @decide (RoofsOK L) (Classical.propDecidable _)
noncomputable def houseB (h : HouseR) : Bool := @decide (HouseOK h) (Classical.propDecidable _)
theorem roofsB_iff {L : List RoofR} : roofsB L = true ↔ RoofsOK L := by exact @decide_eq_true_iff (RoofsOK L) (Classical.propDecidable _)
theorem houseB_iff {h : HouseR} : houseB h = true ↔ HouseOK h := by exact @decide_eq_true_iff (HouseOK h) (Classical.propDecidable _)
theorem roofs_no {L : List RoofR} {k : Nat} (hk : k < L.length) (h : ¬ RoofAt L k) : roofsB L = false := by
  cases e : roofsB L
  · rfl
  · exact absurd ((roofsB_iff.1 e).2 k hk) h
theorem house_no {h : HouseR} {k : Nat} (hk : k < h.sets.length) (n : ¬ SetAtOK h k) : houseB h = false := by
  cases e : houseB h
  · rfl
  · exact absurd ((houseB_iff.1 e).2.2.2.2.2 k hk) n
/-- The index of the first set with a name; -1 if there is none. -/
def findS (L : List SetR) (s : ByteArray) : Int := set_first L (fun y => decide (y.name = s))
theorem find_at {L : List SetR} {k : Nat} (hk : k < L.length) : findS L (hsg L k).name = (k : Int) ↔ ∀ j, j < k → (hsg L j).name ≠ (hsg L k).name := by
  unfold findS
  rcases set_first_cases L (fun y => decide (y.name = (hsg L k).name)) with ⟨e, n⟩ | ⟨i, hi, e, hn, ha⟩
  · exact absurd (n k hk) (by simp)
  · have hn' : (hsg L i).name = (hsg L k).name := by simpa using hn
    have ha' : ∀ j, j < i → (hsg L j).name ≠ (hsg L k).name := fun j hj => by simpa using ha j hj
    constructor
    · intro h
      obtain rfl : i = k := by omega
      exact ha'
    · intro h
      rw [e]
      rcases Nat.lt_trichotomy i k with l | l | l
      · exact absurd hn' (h i l)
      · rw [l]
      · exact absurd rfl (ha' k l)
end Go.Proofs.YthldfijlcoobgaaGreat
namespace Go.Proofs.YthldfijlcoobgaaGreat
open Go.RowKit Go.Shelf
structure HouseIn0 (w : World) (h : HouseR) : Prop where
  sets : SetRows w.heap.size w h.sa h.sets
  roofs : Roofs w.heap.size w h.ra h.roofs
  each : ∀ i, i < h.sets.length → SetIn0 w (hsg h.sets i)
  scap : h.sets.length ≤ h.sc
  rcap : h.roofs.length ≤ h.rc
  snil : h.sa = none → h.sc = 0
  rnil : h.ra = none → h.rc = 0
theorem HouseIn0.grow {w w' : World} {h : HouseR} (x : HouseIn0 w h) (hb : Below w.heap.size w w') : HouseIn0 w' h :=
  ⟨x.sets.grow hb, x.roofs.grow hb, fun i hi => (x.each i hi).grow hb, x.scap, x.rcap, x.snil, x.rnil⟩
structure HouseIn (w : World) (h : HouseR) : Prop extends HouseIn0 w h where
  all : ∀ i, i < h.sets.length → SetIn w (hsg h.sets i)
  slen : h.sets.length ≤ 1000
  rlen : h.roofs.length ≤ 1000
theorem HouseIn.grow {w w' : World} {h : HouseR} (x : HouseIn w h) (hb : Below w.heap.size w w') : HouseIn w' h :=
  ⟨x.toHouseIn0.grow hb, fun i hi => (x.all i hi).grow hb, x.slen, x.rlen⟩
/-- The cells of a house that lies in a block. -/
def HouseAt (w : World) (b : Nat) (h : HouseR) : Prop := w.cell? ⟨b, 0, none⟩ = some (.string h.name) ∧ w.cell? ⟨b, 1, none⟩ = some (.int .i64 h.height) ∧ w.cell? ⟨b, 2, none⟩ = some (.slice h.sa h.sets.length h.sc) ∧ w.cell? ⟨b, 3, none⟩ = some (.slice h.ra h.roofs.length h.rc)
theorem HouseAt.carry {w w' : World} {b : Nat} {h : HouseR} (x : HouseAt w b h) (hb : Below w.heap.size w w') : HouseAt w' b h := by
  have hlt : b < w.heap.size := World.block_lt_of_cell? _ _ x.1
  obtain ⟨a0, a1, a2, a3⟩ := x
  exact ⟨(hb.cell (p := ⟨b, 0, none⟩) hlt).trans a0, (hb.cell (p := ⟨b, 1, none⟩) hlt).trans a1, (hb.cell (p := ⟨b, 2, none⟩) hlt).trans a2, (hb.cell (p := ⟨b, 3, none⟩) hlt).trans a3⟩
theorem HouseAt.new (w : World) (h : HouseR) (t : TypeId) : HouseAt (w.alloc (.cells #[.string h.name, .int .i64 h.height, .slice h.sa h.sets.length h.sc, .slice h.ra h.roofs.length h.rc] t)) w.heap.size h := by
  unfold HouseAt
  simp
end Go.Proofs.YthldfijlcoobgaaGreat
namespace Go.Proofs.YthldfijlcoobgaaGreat
open Go.RowKit Go.Shelf
attribute [local go_sem] Oper.semAt_some

/-! ### Slices of api.Move -/
structure MovR where
  set : ByteArray
  dest : Int
  speed : Int
  rise : Int
  fall : Int

def mg (L : List (MovR)) (i : Nat) : MovR := (L[i]?).getD ⟨⟨#[]⟩, 0, 0, 0, 0⟩
theorem mg_eq (L : List (MovR)) (i : Nat) (h : i < L.length) : mg L i = L[i] := by unfold mg; rw [List.getElem?_eq_getElem h]; rfl
theorem mg_get {L : List (MovR)} {i : Nat} (h : i < L.length) : L[i]? = some (mg L i) := by rw [mg_eq L i h, List.getElem?_eq_getElem h]
theorem mg_ext (F1 F2 : List (MovR)) (hl : F1.length = F2.length) (h : ∀ j, j < F1.length → mg F1 j = mg F2 j) : F1 = F2 := by
  refine List.ext_getElem hl fun i h1 h2 => ?_
  have := h i h1
  rwa [mg_eq F1 i h1, mg_eq F2 i h2] at this
theorem mg_old (L : List (MovR)) (x : MovR) (i : Nat) (h : i < L.length) : mg (L ++ [x]) i = mg L i := by unfold mg; rw [List.getElem?_append_left h]
theorem mg_new (L : List (MovR)) (x : MovR) : mg (L ++ [x]) L.length = x := by unfold mg; simp
def movV (r : MovR) : Value := .agg #[.string r.set, .int .i64 r.dest, .int .i64 r.speed, .int .i64 r.rise, .int .i64 r.fall]
def mflat (L : List (MovR)) : List Value := L.flatMap fun r => [.string r.set, .int .i64 r.dest, .int .i64 r.speed, .int .i64 r.rise, .int .i64 r.fall]
theorem mflat_at (L : List (MovR)) (i : Nat) (hi : i < L.length) : (mflat L)[i * 5]? = some (.string (mg L i).set) ∧ (mflat L)[i * 5 + 1]? = some (.int .i64 (mg L i).dest) ∧ (mflat L)[i * 5 + 2]? = some (.int .i64 (mg L i).speed) ∧ (mflat L)[i * 5 + 3]? = some (.int .i64 (mg L i).rise) ∧ (mflat L)[i * 5 + 4]? = some (.int .i64 (mg L i).fall) := by
  induction L generalizing i with
  | nil => simp at hi
  | cons x r ih =>
    match i with
    | 0 => exact ⟨rfl, rfl, rfl, rfl, rfl⟩
    | i + 1 =>
      have := ih i (by simpa using hi)
      have e : mflat (x :: r) = .string x.set :: .int .i64 x.dest :: .int .i64 x.speed :: .int .i64 x.rise :: .int .i64 x.fall :: mflat r := rfl
      rw [e, show (i + 1) * 5 = i * 5 + 1 + 1 + 1 + 1 + 1 by omega]
      simpa [mg] using this
theorem mflat_snoc (L : List (MovR)) (r : MovR) : mflat (L ++ [r]) = mflat L ++ [.string r.set, .int .i64 r.dest, .int .i64 r.speed, .int .i64 r.rise, .int .i64 r.fall] := by simp [mflat]
/-- The elements of a slice at address a are L; they lie in a block below n₀. -/
def Movs (n₀ : Nat) (w : World) (a : Option Addr) (L : List (MovR)) : Prop :=
  0 < L.length → ∃ b off, a = some ⟨b, off, none⟩ ∧ b < n₀ ∧ ∀ i, i < L.length → w.cell? ⟨b, off + i * 5, none⟩ = some (.string (mg L i).set) ∧ w.cell? ⟨b, off + i * 5 + 1, none⟩ = some (.int .i64 (mg L i).dest) ∧ w.cell? ⟨b, off + i * 5 + 2, none⟩ = some (.int .i64 (mg L i).speed) ∧ w.cell? ⟨b, off + i * 5 + 3, none⟩ = some (.int .i64 (mg L i).rise) ∧ w.cell? ⟨b, off + i * 5 + 4, none⟩ = some (.int .i64 (mg L i).fall)
theorem Movs.below {n₀ : Nat} {w w' : World} {a : Option Addr} {L : List (MovR)} (h : Movs n₀ w a L) (hb : Below n₀ w w') : Movs n₀ w' a L := fun hl => by
  obtain ⟨b, off, rfl, hlt, hc⟩ := h hl
  refine ⟨b, off, rfl, hlt, fun i hi => ?_⟩
  obtain ⟨c0, c1, c2, c3, c4⟩ := hc i hi
  exact ⟨(hb.cell (p := ⟨b, _, none⟩) hlt).trans c0, (hb.cell (p := ⟨b, _, none⟩) hlt).trans c1, (hb.cell (p := ⟨b, _, none⟩) hlt).trans c2, (hb.cell (p := ⟨b, _, none⟩) hlt).trans c3, (hb.cell (p := ⟨b, _, none⟩) hlt).trans c4⟩
theorem Movs.mono {n₀ n₁ : Nat} {w : World} {a : Option Addr} {L : List (MovR)} (h : Movs n₀ w a L) (hn : n₀ ≤ n₁) : Movs n₁ w a L := fun hl => by
  obtain ⟨b, off, rfl, hlt, hc⟩ := h hl
  exact ⟨b, off, rfl, by omega, hc⟩
theorem Movs.grow {w w' : World} {a : Option Addr} {L : List (MovR)} (h : Movs w.heap.size w a L) (hb : Below w.heap.size w w') : Movs w'.heap.size w' a L := (h.below hb).mono hb.size
theorem Movs.nil {n₀ : Nat} {w : World} {a : Option Addr} : Movs n₀ w a [] := fun h => absurd h (Nat.not_lt_zero _)
/-- The first n of them. -/
theorem Movs.take {n₀ : Nat} {w : World} {a : Option Addr} {L : List (MovR)} (h : Movs n₀ w a L) (n : Nat) : Movs n₀ w a (L.take n) := fun hl => by
  have hl' : 0 < L.length := by rw [List.length_take] at hl; omega
  obtain ⟨b, off, rfl, hlt, hc⟩ := h hl'
  refine ⟨b, off, rfl, hlt, fun i hi => ?_⟩
  rw [List.length_take] at hi
  have e : mg (L.take n) i = mg L i := by unfold mg; rw [List.getElem?_take, if_pos (by omega)]
  rw [e]
  exact hc i (by omega)
theorem mov_len (L : List (MovR)) : (mflat L).length = L.length * 5 := by
  induction L with
  | nil => rfl
  | cons x r ih =>
    have e : mflat (x :: r) = .string x.set :: .int .i64 x.dest :: .int .i64 x.speed :: .int .i64 x.rise :: .int .i64 x.fall :: mflat r := rfl
    rw [e]
    simp only [List.length_cons, ih]
    try omega
theorem mov_one (L : List (MovR)) : ∀ u ∈ mflat L, u.oneCell' = true := by
  induction L with
  | nil => intro u hu; cases hu
  | cons x r ih =>
    have e : mflat (x :: r) = .string x.set :: .int .i64 x.dest :: .int .i64 x.speed :: .int .i64 x.rise :: .int .i64 x.fall :: mflat r := rfl
    rw [e]
    intro u hu
    simp only [List.mem_cons] at hu
    rcases hu with rfl | rfl | rfl | rfl | rfl | hu
    · rfl
    · rfl
    · rfl
    · rfl
    · rfl
    · exact ih u hu
/-- A slice of records: its cells, one behind the other. -/
theorem mov_cells {n₀ : Nat} {w : World} {b off : Nat} {L : List (MovR)} (h : Movs n₀ w (some ⟨b, off, none⟩) L) : ∀ j u, (mflat L)[j]? = some u → w.cell? ((⟨b, off, none⟩ : Addr).add j) = some u := by
  intro j u hj
  have hlt : j < L.length * 5 := by
    rw [← mov_len]
    exact (List.getElem?_eq_some_iff.1 hj).1
  obtain ⟨b', off', e, _, hc⟩ := h (by omega)
  simp only [Option.some.injEq, Addr.mk.injEq, and_true] at e
  obtain ⟨rfl, rfl⟩ := e
  rw [Go.WideShapes.add_plain]
  obtain ⟨f0, f1, f2, f3, f4⟩ := mflat_at L (j / 5) (by omega)
  obtain ⟨c0, c1, c2, c3, c4⟩ := hc (j / 5) (by omega)
  rcases (show j = j / 5 * 5 ∨ j = j / 5 * 5 + 1 ∨ j = j / 5 * 5 + 2 ∨ j = j / 5 * 5 + 3 ∨ j = j / 5 * 5 + 4 by omega) with e | e | e | e | e
  · first | (rw [e, f0] at hj; rw [e, c0]; exact hj) | (rw [e, f0] at hj; rw [e, ← Nat.add_assoc, c0]; exact hj)
  · first | (rw [e, f1] at hj; rw [e, c1]; exact hj) | (rw [e, f1] at hj; rw [e, ← Nat.add_assoc, c1]; exact hj)
  · first | (rw [e, f2] at hj; rw [e, c2]; exact hj) | (rw [e, f2] at hj; rw [e, ← Nat.add_assoc, c2]; exact hj)
  · first | (rw [e, f3] at hj; rw [e, c3]; exact hj) | (rw [e, f3] at hj; rw [e, ← Nat.add_assoc, c3]; exact hj)
  · first | (rw [e, f4] at hj; rw [e, c4]; exact hj) | (rw [e, f4] at hj; rw [e, ← Nat.add_assoc, c4]; exact hj)
/-- A row of the call's own reads so. -/
theorem mov_of_row {w : World} {base : Nat} {v : Value} {L : List (MovR)} (h : w.ownsRow base 63 5 v L.length (mflat L)) : ∃ a cap, v = .slice a L.length cap ∧ L.length ≤ cap ∧ cap ≤ maxLen ∧ (a = none → cap = 0) ∧ Movs w.heap.size w a L := by
  rcases h.2 with ⟨rfl, h0⟩ | ⟨g, cap, cur, rfl, hb, hg, h1, h2, _⟩
  · exact ⟨none, 0, by rw [h0], by omega, by unfold maxLen; omega, fun _ => rfl, fun hl => by omega⟩
  · refine ⟨_, cap, rfl, h1, h2, (fun e => by cases e), fun _ => ⟨g, 0, rfl, (Array.getElem?_eq_some_iff.1 hg).1, fun i hi => ?_⟩⟩
    obtain ⟨f0, f1, f2, f3, f4⟩ := mflat_at L i hi
    have c0 := h.cellAt (i * 5) (by omega)
    have c1 := h.cellAt (i * 5 + 1) (by omega)
    have c2 := h.cellAt (i * 5 + 2) (by omega)
    have c3 := h.cellAt (i * 5 + 3) (by omega)
    have c4 := h.cellAt (i * 5 + 4) (by omega)
    rw [f0] at c0
    rw [f1] at c1
    rw [f2] at c2
    rw [f3] at c3
    rw [f4] at c4
    rw [Nat.zero_add]
    exact ⟨c0, c1, c2, c3, c4⟩
/-- A closure that asks p of an element, wherever it is called later. -/
def AsksMov (g : Nat) (cb : Array Value) (n₀ : Nat) (w : World) (p : MovR → Bool) : Prop :=
  ∀ (W : World) (r : MovR), Below n₀ w W → Calls Tryz.prog g (#[movV r] ++ cb) W fun e w' => e = .returned (.bool (p r)) ∧ Below W.heap.size W w'
theorem mov_asks_mono {g : Nat} {cb : Array Value} {n₀ n₁ : Nat} {w : World} {p : MovR → Bool} (h : AsksMov g cb n₀ w p) (hn : n₀ ≤ n₁) : AsksMov g cb n₁ w p := fun W r hb => h W r (hb.mono hn)
theorem mov_asks_below {g : Nat} {cb : Array Value} {n₀ : Nat} {w w' : World} {p : MovR → Bool} (h : AsksMov g cb n₀ w p) (hb : Below n₀ w w') : AsksMov g cb n₀ w' p := fun W r hb' => h W r (hb.trans hb')
/-- The first index at which p holds; -1 if there is none. -/
def mov_first (L : List (MovR)) (p : MovR → Bool) : Int := match (List.range L.length).find? (fun i => p (mg L i)) with
  | some i => i
  | none => -1
theorem mov_first_hit (L : List (MovR)) (p : MovR → Bool) (k : Nat) (hk : k < L.length) (h : p (mg L k) = true) (hn : ∀ j, j < k → p (mg L j) = false) : mov_first L p = k := by
  unfold mov_first
  have : (List.range L.length).find? (fun i => p (mg L i)) = some k := by
    rw [List.find?_eq_some_iff_getElem]
    refine ⟨by simpa using h, k, by simpa using hk, by simp, fun j hj => ?_⟩
    simpa using hn j hj
  rw [this]
theorem mov_first_miss (L : List (MovR)) (p : MovR → Bool) (hn : ∀ j, j < L.length → p (mg L j) = false) : mov_first L p = -1 := by
  unfold mov_first
  have : (List.range L.length).find? (fun i => p (mg L i)) = none := by
    rw [List.find?_eq_none]
    intro x hx
    simpa using hn x (by simpa using hx)
  rw [this]
theorem mov_first_cases (L : List (MovR)) (p : MovR → Bool) : (mov_first L p = -1 ∧ ∀ j, j < L.length → p (mg L j) = false) ∨ ∃ k : Nat, k < L.length ∧ mov_first L p = k ∧ p (mg L k) = true ∧ ∀ j, j < k → p (mg L j) = false := by
  have main : ∀ n, n ≤ L.length → (∀ j, j < n → p (mg L j) = false) ∨ ∃ k, k < n ∧ p (mg L k) = true ∧ ∀ j, j < k → p (mg L j) = false := by
    intro n
    induction n with
    | zero => exact fun _ => .inl fun j hj => absurd hj (Nat.not_lt_zero _)
    | succ n ih =>
      intro hn
      rcases ih (by omega) with h | ⟨k, hk, h1, h2⟩
      · cases e : p (mg L n)
        · refine .inl fun j hj => ?_
          rcases Nat.lt_or_ge j n with l | l
          · exact h j l
          · obtain rfl : j = n := by omega
            exact e
        · exact .inr ⟨n, by omega, e, h⟩
      · exact .inr ⟨k, by omega, h1, h2⟩
  rcases main L.length (Nat.le_refl _) with h | ⟨k, hk, h1, h2⟩
  · exact .inl ⟨mov_first_miss L p h, h⟩
  · exact .inr ⟨k, hk, mov_first_hit L p k hk h1 h2, h1, h2⟩
def mov_any (L : List (MovR)) (p : MovR → Bool) : Bool := decide (0 ≤ mov_first L p)
theorem mov_any_eq (L : List (MovR)) (p : MovR → Bool) : mov_any L p = L.any p := by
  unfold mov_any
  rw [Bool.eq_iff_iff, List.any_eq_true, decide_eq_true_eq]
  rcases mov_first_cases L p with ⟨h, h2⟩ | ⟨k, hk, h, h1, _⟩
  · rw [h]
    refine ⟨fun h => by omega, fun ⟨x, hx, hp⟩ => ?_⟩
    obtain ⟨j, hj, e⟩ := List.getElem_of_mem hx
    have := h2 j hj
    rw [mg_eq L j hj, e, hp] at this
    cases this
  · rw [h]
    exact ⟨fun _ => ⟨_, by rw [mg_eq L k hk]; exact List.getElem_mem hk, h1⟩, fun _ => by omega⟩

set_option maxHeartbeats 2000000 in
theorem mov_indexFunc (a : Option Addr) (L : List (MovR)) (cap n₀ g : Nat) (cb : Array Value) (p : MovR → Bool) (w : World) (eg : ∀ args w, (callFunc g args).run Tryz.prog w = .ok (.enter g args) w)
    (hl : L.length ≤ 1100) (hn₀ : n₀ ≤ w.heap.size) (hI : Movs n₀ w a L) (hp : AsksMov g cb n₀ w p) :
    Calls Tryz.prog 34 #[.slice a L.length cap, .func (.func g) #[] cb] w fun e w' => e = .returned (.int .i64 (mov_first L p)) ∧ Below w.heap.size w w' := by
  have HI := Lib.hid hI; clear hI
  have HP := Lib.hid hp; clear hp
  go_enter Tryz.func34, Tryz.ntmps34
  go_wp2
  go_loopw [8] (fun i wr => ∃ k : Nat, k ≤ L.length ∧ i = .int .i64 k ∧ Below w.heap.size w wr ∧ Hid (∀ j, j < k → p (mg L j) = false)) (fun i _ => L.length - (intOf i).toNat)
  case atStart => exact ⟨0, Nat.zero_le _, rfl, Below.refl _ _, Lib.hid (fun _ h => absurd h (Nat.not_lt_zero _))⟩
  case round =>
    obtain ⟨k, hk, rfl, hB, HA⟩ := hrel
    by_cases hlt : k < L.length
    · obtain ⟨b, off, rfl, hb, hc⟩ := HI.out (by omega)
      obtain ⟨c0, c1, c2, c3, c4⟩ := hc k hlt
      have d0 := (hB.cell (p := ⟨b, off + k * 5, none⟩) (show b < w.heap.size by omega)).trans c0
      have d1 := (hB.cell (p := ⟨b, off + k * 5 + 1, none⟩) (show b < w.heap.size by omega)).trans c1
      have d2 := (hB.cell (p := ⟨b, off + k * 5 + 2, none⟩) (show b < w.heap.size by omega)).trans c2
      have d3 := (hB.cell (p := ⟨b, off + k * 5 + 3, none⟩) (show b < w.heap.size by omega)).trans c3
      have d4 := (hB.cell (p := ⟨b, off + k * 5 + 4, none⟩) (show b < w.heap.size by omega)).trans c4
      clear c0 c1 c2 c3 c4 hc
      have HC := Lib.hid (show Calls Tryz.prog g (#[.agg #[.string (mg L k).set, .int .i64 (mg L k).dest, .int .i64 (mg L k).speed, .int .i64 (mg L k).rise, .int .i64 (mg L k).fall]] ++ cb) wr _ from HP.out wr (mg L k) (hB.mono hn₀))
      obtain ⟨bv, hbv⟩ : ∃ bv, p (mg L k) = bv := ⟨_, rfl⟩
      rw [hbv] at HC
      cases bv
      · have HB : Hid (∀ j, j < k + 1 → p (mg L j) = false) := Lib.hid fun j hj => by
          rcases Nat.lt_or_ge j k with l | l
          · exact HA.out j l
          · obtain rfl : j = k := by omega
            exact hbv
        clear hbv
        go_wp2_with ((with_reducible refine HC.out.mono ?_); rintro e w1 ⟨rfl, hb1⟩)
        go_roundw
        case rel => exact ⟨k + 1, by omega, by go_num, hB.trans (hb1.mono hB.size), HB⟩
        case measure => simp [intOf]; omega
      · have H := Lib.hid (mov_first_hit L p k hlt hbv HA.out)
        clear hbv
        go_wp2_with ((with_reducible refine HC.out.mono ?_); rintro e w1 ⟨rfl, hb1⟩)
        go_ret
        exact ⟨ret_int H.out.symm, hB.trans (hb1.mono hB.size)⟩
    · obtain rfl : k = L.length := by omega
      have H := Lib.hid (mov_first_miss L p HA.out)
      go_wp2
      go_ret
      exact ⟨ret_int H.out.symm, hB⟩

set_option maxHeartbeats 1000000 in
theorem mov_containsFunc (a : Option Addr) (L : List (MovR)) (cap n₀ g : Nat) (cb : Array Value) (p : MovR → Bool) (w : World) (eg : ∀ args w, (callFunc g args).run Tryz.prog w = .ok (.enter g args) w)
    (hl : L.length ≤ 1100) (hn₀ : n₀ ≤ w.heap.size) (hI : Movs n₀ w a L) (hp : AsksMov g cb n₀ w p) :
    Calls Tryz.prog 18 #[.slice a L.length cap, .func (.func g) #[] cb] w fun e w' => e = .returned (.bool (mov_any L p)) ∧ Below w.heap.size w w' := by
  have HC := Lib.hid (mov_indexFunc a L cap n₀ g cb p w eg hl hn₀ hI hp)
  clear hI hp eg
  go_enter Tryz.func18, Tryz.ntmps18
  go_wp2_with (go_at_call 34; (with_reducible refine HC.out.mono ?_); rintro e w1 ⟨rfl, hb1⟩)
  go_ret
  exact ⟨rfl, hb1⟩

/-! ### Slices of api.Cue -/
structure CueR where
  name : ByteArray
  after : ByteArray
  link : Int
  delay : Int
  ma : Option Addr
  moves : List MovR
  mc : Nat
  crew : Int
  power : Int

def cg (L : List (CueR)) (i : Nat) : CueR := (L[i]?).getD ⟨⟨#[]⟩, ⟨#[]⟩, 0, 0, none, [], 0, 0, 0⟩
theorem cg_eq (L : List (CueR)) (i : Nat) (h : i < L.length) : cg L i = L[i] := by unfold cg; rw [List.getElem?_eq_getElem h]; rfl
theorem cg_get {L : List (CueR)} {i : Nat} (h : i < L.length) : L[i]? = some (cg L i) := by rw [cg_eq L i h, List.getElem?_eq_getElem h]
theorem cg_ext (F1 F2 : List (CueR)) (hl : F1.length = F2.length) (h : ∀ j, j < F1.length → cg F1 j = cg F2 j) : F1 = F2 := by
  refine List.ext_getElem hl fun i h1 h2 => ?_
  have := h i h1
  rwa [cg_eq F1 i h1, cg_eq F2 i h2] at this
theorem cg_old (L : List (CueR)) (x : CueR) (i : Nat) (h : i < L.length) : cg (L ++ [x]) i = cg L i := by unfold cg; rw [List.getElem?_append_left h]
theorem cg_new (L : List (CueR)) (x : CueR) : cg (L ++ [x]) L.length = x := by unfold cg; simp
def cueV (r : CueR) : Value := .agg #[.string r.name, .string r.after, .int .i64 r.link, .int .i64 r.delay, .slice r.ma r.moves.length r.mc, .int .i64 r.crew, .int .i64 r.power]
def cflat (L : List (CueR)) : List Value := L.flatMap fun r => [.string r.name, .string r.after, .int .i64 r.link, .int .i64 r.delay, .slice r.ma r.moves.length r.mc, .int .i64 r.crew, .int .i64 r.power]
theorem cflat_at (L : List (CueR)) (i : Nat) (hi : i < L.length) : (cflat L)[i * 7]? = some (.string (cg L i).name) ∧ (cflat L)[i * 7 + 1]? = some (.string (cg L i).after) ∧ (cflat L)[i * 7 + 2]? = some (.int .i64 (cg L i).link) ∧ (cflat L)[i * 7 + 3]? = some (.int .i64 (cg L i).delay) ∧ (cflat L)[i * 7 + 4]? = some (.slice (cg L i).ma (cg L i).moves.length (cg L i).mc) ∧ (cflat L)[i * 7 + 5]? = some (.int .i64 (cg L i).crew) ∧ (cflat L)[i * 7 + 6]? = some (.int .i64 (cg L i).power) := by
  induction L generalizing i with
  | nil => simp at hi
  | cons x r ih =>
    match i with
    | 0 => exact ⟨rfl, rfl, rfl, rfl, rfl, rfl, rfl⟩
    | i + 1 =>
      have := ih i (by simpa using hi)
      have e : cflat (x :: r) = .string x.name :: .string x.after :: .int .i64 x.link :: .int .i64 x.delay :: .slice x.ma x.moves.length x.mc :: .int .i64 x.crew :: .int .i64 x.power :: cflat r := rfl
      rw [e, show (i + 1) * 7 = i * 7 + 1 + 1 + 1 + 1 + 1 + 1 + 1 by omega]
      simpa [cg] using this
theorem cflat_snoc (L : List (CueR)) (r : CueR) : cflat (L ++ [r]) = cflat L ++ [.string r.name, .string r.after, .int .i64 r.link, .int .i64 r.delay, .slice r.ma r.moves.length r.mc, .int .i64 r.crew, .int .i64 r.power] := by simp [cflat]
/-- The elements of a slice at address a are L; they lie in a block below n₀. -/
def Cues (n₀ : Nat) (w : World) (a : Option Addr) (L : List (CueR)) : Prop :=
  0 < L.length → ∃ b off, a = some ⟨b, off, none⟩ ∧ b < n₀ ∧ ∀ i, i < L.length → w.cell? ⟨b, off + i * 7, none⟩ = some (.string (cg L i).name) ∧ w.cell? ⟨b, off + i * 7 + 1, none⟩ = some (.string (cg L i).after) ∧ w.cell? ⟨b, off + i * 7 + 2, none⟩ = some (.int .i64 (cg L i).link) ∧ w.cell? ⟨b, off + i * 7 + 3, none⟩ = some (.int .i64 (cg L i).delay) ∧ w.cell? ⟨b, off + i * 7 + 4, none⟩ = some (.slice (cg L i).ma (cg L i).moves.length (cg L i).mc) ∧ w.cell? ⟨b, off + i * 7 + 5, none⟩ = some (.int .i64 (cg L i).crew) ∧ w.cell? ⟨b, off + i * 7 + 6, none⟩ = some (.int .i64 (cg L i).power)
theorem Cues.below {n₀ : Nat} {w w' : World} {a : Option Addr} {L : List (CueR)} (h : Cues n₀ w a L) (hb : Below n₀ w w') : Cues n₀ w' a L := fun hl => by
  obtain ⟨b, off, rfl, hlt, hc⟩ := h hl
  refine ⟨b, off, rfl, hlt, fun i hi => ?_⟩
  obtain ⟨c0, c1, c2, c3, c4, c5, c6⟩ := hc i hi
  exact ⟨(hb.cell (p := ⟨b, _, none⟩) hlt).trans c0, (hb.cell (p := ⟨b, _, none⟩) hlt).trans c1, (hb.cell (p := ⟨b, _, none⟩) hlt).trans c2, (hb.cell (p := ⟨b, _, none⟩) hlt).trans c3, (hb.cell (p := ⟨b, _, none⟩) hlt).trans c4, (hb.cell (p := ⟨b, _, none⟩) hlt).trans c5, (hb.cell (p := ⟨b, _, none⟩) hlt).trans c6⟩
theorem Cues.mono {n₀ n₁ : Nat} {w : World} {a : Option Addr} {L : List (CueR)} (h : Cues n₀ w a L) (hn : n₀ ≤ n₁) : Cues n₁ w a L := fun hl => by
  obtain ⟨b, off, rfl, hlt, hc⟩ := h hl
  exact ⟨b, off, rfl, by omega, hc⟩
theorem Cues.grow {w w' : World} {a : Option Addr} {L : List (CueR)} (h : Cues w.heap.size w a L) (hb : Below w.heap.size w w') : Cues w'.heap.size w' a L := (h.below hb).mono hb.size
theorem Cues.nil {n₀ : Nat} {w : World} {a : Option Addr} : Cues n₀ w a [] := fun h => absurd h (Nat.not_lt_zero _)
/-- The first n of them. -/
theorem Cues.take {n₀ : Nat} {w : World} {a : Option Addr} {L : List (CueR)} (h : Cues n₀ w a L) (n : Nat) : Cues n₀ w a (L.take n) := fun hl => by
  have hl' : 0 < L.length := by rw [List.length_take] at hl; omega
  obtain ⟨b, off, rfl, hlt, hc⟩ := h hl'
  refine ⟨b, off, rfl, hlt, fun i hi => ?_⟩
  rw [List.length_take] at hi
  have e : cg (L.take n) i = cg L i := by unfold cg; rw [List.getElem?_take, if_pos (by omega)]
  rw [e]
  exact hc i (by omega)
theorem cue_len (L : List (CueR)) : (cflat L).length = L.length * 7 := by
  induction L with
  | nil => rfl
  | cons x r ih =>
    have e : cflat (x :: r) = .string x.name :: .string x.after :: .int .i64 x.link :: .int .i64 x.delay :: .slice x.ma x.moves.length x.mc :: .int .i64 x.crew :: .int .i64 x.power :: cflat r := rfl
    rw [e]
    simp only [List.length_cons, ih]
    try omega
theorem cue_one (L : List (CueR)) : ∀ u ∈ cflat L, u.oneCell' = true := by
  induction L with
  | nil => intro u hu; cases hu
  | cons x r ih =>
    have e : cflat (x :: r) = .string x.name :: .string x.after :: .int .i64 x.link :: .int .i64 x.delay :: .slice x.ma x.moves.length x.mc :: .int .i64 x.crew :: .int .i64 x.power :: cflat r := rfl
    rw [e]
    intro u hu
    simp only [List.mem_cons] at hu
    rcases hu with rfl | rfl | rfl | rfl | rfl | rfl | rfl | hu
    · rfl
    · rfl
    · rfl
    · rfl
    · rfl
    · rfl
    · rfl
    · exact ih u hu
/-- A slice of records: its cells, one behind the other. -/
theorem cue_cells {n₀ : Nat} {w : World} {b off : Nat} {L : List (CueR)} (h : Cues n₀ w (some ⟨b, off, none⟩) L) : ∀ j u, (cflat L)[j]? = some u → w.cell? ((⟨b, off, none⟩ : Addr).add j) = some u := by
  intro j u hj
  have hlt : j < L.length * 7 := by
    rw [← cue_len]
    exact (List.getElem?_eq_some_iff.1 hj).1
  obtain ⟨b', off', e, _, hc⟩ := h (by omega)
  simp only [Option.some.injEq, Addr.mk.injEq, and_true] at e
  obtain ⟨rfl, rfl⟩ := e
  rw [Go.WideShapes.add_plain]
  obtain ⟨f0, f1, f2, f3, f4, f5, f6⟩ := cflat_at L (j / 7) (by omega)
  obtain ⟨c0, c1, c2, c3, c4, c5, c6⟩ := hc (j / 7) (by omega)
  rcases (show j = j / 7 * 7 ∨ j = j / 7 * 7 + 1 ∨ j = j / 7 * 7 + 2 ∨ j = j / 7 * 7 + 3 ∨ j = j / 7 * 7 + 4 ∨ j = j / 7 * 7 + 5 ∨ j = j / 7 * 7 + 6 by omega) with e | e | e | e | e | e | e
  · first | (rw [e, f0] at hj; rw [e, c0]; exact hj) | (rw [e, f0] at hj; rw [e, ← Nat.add_assoc, c0]; exact hj)
  · first | (rw [e, f1] at hj; rw [e, c1]; exact hj) | (rw [e, f1] at hj; rw [e, ← Nat.add_assoc, c1]; exact hj)
  · first | (rw [e, f2] at hj; rw [e, c2]; exact hj) | (rw [e, f2] at hj; rw [e, ← Nat.add_assoc, c2]; exact hj)
  · first | (rw [e, f3] at hj; rw [e, c3]; exact hj) | (rw [e, f3] at hj; rw [e, ← Nat.add_assoc, c3]; exact hj)
  · first | (rw [e, f4] at hj; rw [e, c4]; exact hj) | (rw [e, f4] at hj; rw [e, ← Nat.add_assoc, c4]; exact hj)
  · first | (rw [e, f5] at hj; rw [e, c5]; exact hj) | (rw [e, f5] at hj; rw [e, ← Nat.add_assoc, c5]; exact hj)
  · first | (rw [e, f6] at hj; rw [e, c6]; exact hj) | (rw [e, f6] at hj; rw [e, ← Nat.add_assoc, c6]; exact hj)
/-- A row of the call's own reads so. -/
theorem cue_of_row {w : World} {base : Nat} {v : Value} {L : List (CueR)} (h : w.ownsRow base 60 7 v L.length (cflat L)) : ∃ a cap, v = .slice a L.length cap ∧ L.length ≤ cap ∧ cap ≤ maxLen ∧ (a = none → cap = 0) ∧ Cues w.heap.size w a L := by
  rcases h.2 with ⟨rfl, h0⟩ | ⟨g, cap, cur, rfl, hb, hg, h1, h2, _⟩
  · exact ⟨none, 0, by rw [h0], by omega, by unfold maxLen; omega, fun _ => rfl, fun hl => by omega⟩
  · refine ⟨_, cap, rfl, h1, h2, (fun e => by cases e), fun _ => ⟨g, 0, rfl, (Array.getElem?_eq_some_iff.1 hg).1, fun i hi => ?_⟩⟩
    obtain ⟨f0, f1, f2, f3, f4, f5, f6⟩ := cflat_at L i hi
    have c0 := h.cellAt (i * 7) (by omega)
    have c1 := h.cellAt (i * 7 + 1) (by omega)
    have c2 := h.cellAt (i * 7 + 2) (by omega)
    have c3 := h.cellAt (i * 7 + 3) (by omega)
    have c4 := h.cellAt (i * 7 + 4) (by omega)
    have c5 := h.cellAt (i * 7 + 5) (by omega)
    have c6 := h.cellAt (i * 7 + 6) (by omega)
    rw [f0] at c0
    rw [f1] at c1
    rw [f2] at c2
    rw [f3] at c3
    rw [f4] at c4
    rw [f5] at c5
    rw [f6] at c6
    rw [Nat.zero_add]
    exact ⟨c0, c1, c2, c3, c4, c5, c6⟩
/-- A closure that asks p of an element, wherever it is called later. -/
def AsksC (g : Nat) (cb : Array Value) (n₀ : Nat) (w : World) (p : CueR → Bool) : Prop :=
  ∀ (W : World) (r : CueR), Below n₀ w W → Calls Tryz.prog g (#[cueV r] ++ cb) W fun e w' => e = .returned (.bool (p r)) ∧ Below W.heap.size W w'
theorem cue_asks_mono {g : Nat} {cb : Array Value} {n₀ n₁ : Nat} {w : World} {p : CueR → Bool} (h : AsksC g cb n₀ w p) (hn : n₀ ≤ n₁) : AsksC g cb n₁ w p := fun W r hb => h W r (hb.mono hn)
theorem cue_asks_below {g : Nat} {cb : Array Value} {n₀ : Nat} {w w' : World} {p : CueR → Bool} (h : AsksC g cb n₀ w p) (hb : Below n₀ w w') : AsksC g cb n₀ w' p := fun W r hb' => h W r (hb.trans hb')
/-- The first index at which p holds; -1 if there is none. -/
def cue_first (L : List (CueR)) (p : CueR → Bool) : Int := match (List.range L.length).find? (fun i => p (cg L i)) with
  | some i => i
  | none => -1
theorem cue_first_hit (L : List (CueR)) (p : CueR → Bool) (k : Nat) (hk : k < L.length) (h : p (cg L k) = true) (hn : ∀ j, j < k → p (cg L j) = false) : cue_first L p = k := by
  unfold cue_first
  have : (List.range L.length).find? (fun i => p (cg L i)) = some k := by
    rw [List.find?_eq_some_iff_getElem]
    refine ⟨by simpa using h, k, by simpa using hk, by simp, fun j hj => ?_⟩
    simpa using hn j hj
  rw [this]
theorem cue_first_miss (L : List (CueR)) (p : CueR → Bool) (hn : ∀ j, j < L.length → p (cg L j) = false) : cue_first L p = -1 := by
  unfold cue_first
  have : (List.range L.length).find? (fun i => p (cg L i)) = none := by
    rw [List.find?_eq_none]
    intro x hx
    simpa using hn x (by simpa using hx)
  rw [this]
theorem cue_first_cases (L : List (CueR)) (p : CueR → Bool) : (cue_first L p = -1 ∧ ∀ j, j < L.length → p (cg L j) = false) ∨ ∃ k : Nat, k < L.length ∧ cue_first L p = k ∧ p (cg L k) = true ∧ ∀ j, j < k → p (cg L j) = false := by
  have main : ∀ n, n ≤ L.length → (∀ j, j < n → p (cg L j) = false) ∨ ∃ k, k < n ∧ p (cg L k) = true ∧ ∀ j, j < k → p (cg L j) = false := by
    intro n
    induction n with
    | zero => exact fun _ => .inl fun j hj => absurd hj (Nat.not_lt_zero _)
    | succ n ih =>
      intro hn
      rcases ih (by omega) with h | ⟨k, hk, h1, h2⟩
      · cases e : p (cg L n)
        · refine .inl fun j hj => ?_
          rcases Nat.lt_or_ge j n with l | l
          · exact h j l
          · obtain rfl : j = n := by omega
            exact e
        · exact .inr ⟨n, by omega, e, h⟩
      · exact .inr ⟨k, by omega, h1, h2⟩
  rcases main L.length (Nat.le_refl _) with h | ⟨k, hk, h1, h2⟩
  · exact .inl ⟨cue_first_miss L p h, h⟩
  · exact .inr ⟨k, hk, cue_first_hit L p k hk h1 h2, h1, h2⟩
def cue_any (L : List (CueR)) (p : CueR → Bool) : Bool := decide (0 ≤ cue_first L p)
theorem cue_any_eq (L : List (CueR)) (p : CueR → Bool) : cue_any L p = L.any p := by
  unfold cue_any
  rw [Bool.eq_iff_iff, List.any_eq_true, decide_eq_true_eq]
  rcases cue_first_cases L p with ⟨h, h2⟩ | ⟨k, hk, h, h1, _⟩
  · rw [h]
    refine ⟨fun h => by omega, fun ⟨x, hx, hp⟩ => ?_⟩
    obtain ⟨j, hj, e⟩ := List.getElem_of_mem hx
    have := h2 j hj
    rw [cg_eq L j hj, e, hp] at this
    cases this
  · rw [h]
    exact ⟨fun _ => ⟨_, by rw [cg_eq L k hk]; exact List.getElem_mem hk, h1⟩, fun _ => by omega⟩

set_option maxHeartbeats 2000000 in
theorem cue_indexFunc (a : Option Addr) (L : List (CueR)) (cap n₀ g : Nat) (cb : Array Value) (p : CueR → Bool) (w : World) (eg : ∀ args w, (callFunc g args).run Tryz.prog w = .ok (.enter g args) w)
    (hl : L.length ≤ 1100) (hn₀ : n₀ ≤ w.heap.size) (hI : Cues n₀ w a L) (hp : AsksC g cb n₀ w p) :
    Calls Tryz.prog 33 #[.slice a L.length cap, .func (.func g) #[] cb] w fun e w' => e = .returned (.int .i64 (cue_first L p)) ∧ Below w.heap.size w w' := by
  have HI := Lib.hid hI; clear hI
  have HP := Lib.hid hp; clear hp
  go_enter Tryz.func33, Tryz.ntmps33
  go_wp2
  go_loopw [8] (fun i wr => ∃ k : Nat, k ≤ L.length ∧ i = .int .i64 k ∧ Below w.heap.size w wr ∧ Hid (∀ j, j < k → p (cg L j) = false)) (fun i _ => L.length - (intOf i).toNat)
  case atStart => exact ⟨0, Nat.zero_le _, rfl, Below.refl _ _, Lib.hid (fun _ h => absurd h (Nat.not_lt_zero _))⟩
  case round =>
    obtain ⟨k, hk, rfl, hB, HA⟩ := hrel
    by_cases hlt : k < L.length
    · obtain ⟨b, off, rfl, hb, hc⟩ := HI.out (by omega)
      obtain ⟨c0, c1, c2, c3, c4, c5, c6⟩ := hc k hlt
      have d0 := (hB.cell (p := ⟨b, off + k * 7, none⟩) (show b < w.heap.size by omega)).trans c0
      have d1 := (hB.cell (p := ⟨b, off + k * 7 + 1, none⟩) (show b < w.heap.size by omega)).trans c1
      have d2 := (hB.cell (p := ⟨b, off + k * 7 + 2, none⟩) (show b < w.heap.size by omega)).trans c2
      have d3 := (hB.cell (p := ⟨b, off + k * 7 + 3, none⟩) (show b < w.heap.size by omega)).trans c3
      have d4 := (hB.cell (p := ⟨b, off + k * 7 + 4, none⟩) (show b < w.heap.size by omega)).trans c4
      have d5 := (hB.cell (p := ⟨b, off + k * 7 + 5, none⟩) (show b < w.heap.size by omega)).trans c5
      have d6 := (hB.cell (p := ⟨b, off + k * 7 + 6, none⟩) (show b < w.heap.size by omega)).trans c6
      clear c0 c1 c2 c3 c4 c5 c6 hc
      have HC := Lib.hid (show Calls Tryz.prog g (#[.agg #[.string (cg L k).name, .string (cg L k).after, .int .i64 (cg L k).link, .int .i64 (cg L k).delay, .slice (cg L k).ma (cg L k).moves.length (cg L k).mc, .int .i64 (cg L k).crew, .int .i64 (cg L k).power]] ++ cb) wr _ from HP.out wr (cg L k) (hB.mono hn₀))
      obtain ⟨bv, hbv⟩ : ∃ bv, p (cg L k) = bv := ⟨_, rfl⟩
      rw [hbv] at HC
      cases bv
      · have HB : Hid (∀ j, j < k + 1 → p (cg L j) = false) := Lib.hid fun j hj => by
          rcases Nat.lt_or_ge j k with l | l
          · exact HA.out j l
          · obtain rfl : j = k := by omega
            exact hbv
        clear hbv
        go_wp2_with ((with_reducible refine HC.out.mono ?_); rintro e w1 ⟨rfl, hb1⟩)
        go_roundw
        case rel => exact ⟨k + 1, by omega, by go_num, hB.trans (hb1.mono hB.size), HB⟩
        case measure => simp [intOf]; omega
      · have H := Lib.hid (cue_first_hit L p k hlt hbv HA.out)
        clear hbv
        go_wp2_with ((with_reducible refine HC.out.mono ?_); rintro e w1 ⟨rfl, hb1⟩)
        go_ret
        exact ⟨ret_int H.out.symm, hB.trans (hb1.mono hB.size)⟩
    · obtain rfl : k = L.length := by omega
      have H := Lib.hid (cue_first_miss L p HA.out)
      go_wp2
      go_ret
      exact ⟨ret_int H.out.symm, hB⟩

set_option maxHeartbeats 1000000 in
theorem cue_containsFunc (a : Option Addr) (L : List (CueR)) (cap n₀ g : Nat) (cb : Array Value) (p : CueR → Bool) (w : World) (eg : ∀ args w, (callFunc g args).run Tryz.prog w = .ok (.enter g args) w)
    (hl : L.length ≤ 1100) (hn₀ : n₀ ≤ w.heap.size) (hI : Cues n₀ w a L) (hp : AsksC g cb n₀ w p) :
    Calls Tryz.prog 16 #[.slice a L.length cap, .func (.func g) #[] cb] w fun e w' => e = .returned (.bool (cue_any L p)) ∧ Below w.heap.size w w' := by
  have HC := Lib.hid (cue_indexFunc a L cap n₀ g cb p w eg hl hn₀ hI hp)
  clear hI hp eg
  go_enter Tryz.func16, Tryz.ntmps16
  go_wp2_with (go_at_call 33; (with_reducible refine HC.out.mono ?_); rintro e w1 ⟨rfl, hb1⟩)
  go_ret
  exact ⟨rfl, hb1⟩

/-! ### Slices of [2]string -/

def pg (L : List (ByteArray × ByteArray)) (i : Nat) : ByteArray × ByteArray := (L[i]?).getD (⟨#[]⟩, ⟨#[]⟩)
theorem pg_eq (L : List (ByteArray × ByteArray)) (i : Nat) (h : i < L.length) : pg L i = L[i] := by unfold pg; rw [List.getElem?_eq_getElem h]; rfl
theorem pg_get {L : List (ByteArray × ByteArray)} {i : Nat} (h : i < L.length) : L[i]? = some (pg L i) := by rw [pg_eq L i h, List.getElem?_eq_getElem h]
theorem pg_ext (F1 F2 : List (ByteArray × ByteArray)) (hl : F1.length = F2.length) (h : ∀ j, j < F1.length → pg F1 j = pg F2 j) : F1 = F2 := by
  refine List.ext_getElem hl fun i h1 h2 => ?_
  have := h i h1
  rwa [pg_eq F1 i h1, pg_eq F2 i h2] at this
theorem pg_old (L : List (ByteArray × ByteArray)) (x : ByteArray × ByteArray) (i : Nat) (h : i < L.length) : pg (L ++ [x]) i = pg L i := by unfold pg; rw [List.getElem?_append_left h]
theorem pg_new (L : List (ByteArray × ByteArray)) (x : ByteArray × ByteArray) : pg (L ++ [x]) L.length = x := by unfold pg; simp
def pairV (r : ByteArray × ByteArray) : Value := .agg #[.string r.1, .string r.2]
def pflat (L : List (ByteArray × ByteArray)) : List Value := L.flatMap fun r => [.string r.1, .string r.2]
theorem pflat_at (L : List (ByteArray × ByteArray)) (i : Nat) (hi : i < L.length) : (pflat L)[i * 2]? = some (.string (pg L i).1) ∧ (pflat L)[i * 2 + 1]? = some (.string (pg L i).2) := by
  induction L generalizing i with
  | nil => simp at hi
  | cons x r ih =>
    match i with
    | 0 => exact ⟨rfl, rfl⟩
    | i + 1 =>
      have := ih i (by simpa using hi)
      have e : pflat (x :: r) = .string x.1 :: .string x.2 :: pflat r := rfl
      rw [e, show (i + 1) * 2 = i * 2 + 1 + 1 by omega]
      simpa [pg] using this
theorem pflat_snoc (L : List (ByteArray × ByteArray)) (r : ByteArray × ByteArray) : pflat (L ++ [r]) = pflat L ++ [.string r.1, .string r.2] := by simp [pflat]
/-- The elements of a slice at address a are L; they lie in a block below n₀. -/
def Pairs (n₀ : Nat) (w : World) (a : Option Addr) (L : List (ByteArray × ByteArray)) : Prop :=
  0 < L.length → ∃ b off, a = some ⟨b, off, none⟩ ∧ b < n₀ ∧ ∀ i, i < L.length → w.cell? ⟨b, off + i * 2, none⟩ = some (.string (pg L i).1) ∧ w.cell? ⟨b, off + i * 2 + 1, none⟩ = some (.string (pg L i).2)
theorem Pairs.below {n₀ : Nat} {w w' : World} {a : Option Addr} {L : List (ByteArray × ByteArray)} (h : Pairs n₀ w a L) (hb : Below n₀ w w') : Pairs n₀ w' a L := fun hl => by
  obtain ⟨b, off, rfl, hlt, hc⟩ := h hl
  refine ⟨b, off, rfl, hlt, fun i hi => ?_⟩
  obtain ⟨c0, c1⟩ := hc i hi
  exact ⟨(hb.cell (p := ⟨b, _, none⟩) hlt).trans c0, (hb.cell (p := ⟨b, _, none⟩) hlt).trans c1⟩
theorem Pairs.mono {n₀ n₁ : Nat} {w : World} {a : Option Addr} {L : List (ByteArray × ByteArray)} (h : Pairs n₀ w a L) (hn : n₀ ≤ n₁) : Pairs n₁ w a L := fun hl => by
  obtain ⟨b, off, rfl, hlt, hc⟩ := h hl
  exact ⟨b, off, rfl, by omega, hc⟩
theorem Pairs.grow {w w' : World} {a : Option Addr} {L : List (ByteArray × ByteArray)} (h : Pairs w.heap.size w a L) (hb : Below w.heap.size w w') : Pairs w'.heap.size w' a L := (h.below hb).mono hb.size
theorem Pairs.nil {n₀ : Nat} {w : World} {a : Option Addr} : Pairs n₀ w a [] := fun h => absurd h (Nat.not_lt_zero _)
/-- The first n of them. -/
theorem Pairs.take {n₀ : Nat} {w : World} {a : Option Addr} {L : List (ByteArray × ByteArray)} (h : Pairs n₀ w a L) (n : Nat) : Pairs n₀ w a (L.take n) := fun hl => by
  have hl' : 0 < L.length := by rw [List.length_take] at hl; omega
  obtain ⟨b, off, rfl, hlt, hc⟩ := h hl'
  refine ⟨b, off, rfl, hlt, fun i hi => ?_⟩
  rw [List.length_take] at hi
  have e : pg (L.take n) i = pg L i := by unfold pg; rw [List.getElem?_take, if_pos (by omega)]
  rw [e]
  exact hc i (by omega)
theorem pair_len (L : List (ByteArray × ByteArray)) : (pflat L).length = L.length * 2 := by
  induction L with
  | nil => rfl
  | cons x r ih =>
    have e : pflat (x :: r) = .string x.1 :: .string x.2 :: pflat r := rfl
    rw [e]
    simp only [List.length_cons, ih]
    try omega
theorem pair_one (L : List (ByteArray × ByteArray)) : ∀ u ∈ pflat L, u.oneCell' = true := by
  induction L with
  | nil => intro u hu; cases hu
  | cons x r ih =>
    have e : pflat (x :: r) = .string x.1 :: .string x.2 :: pflat r := rfl
    rw [e]
    intro u hu
    simp only [List.mem_cons] at hu
    rcases hu with rfl | rfl | hu
    · rfl
    · rfl
    · exact ih u hu
/-- A slice of records: its cells, one behind the other. -/
theorem pair_cells {n₀ : Nat} {w : World} {b off : Nat} {L : List (ByteArray × ByteArray)} (h : Pairs n₀ w (some ⟨b, off, none⟩) L) : ∀ j u, (pflat L)[j]? = some u → w.cell? ((⟨b, off, none⟩ : Addr).add j) = some u := by
  intro j u hj
  have hlt : j < L.length * 2 := by
    rw [← pair_len]
    exact (List.getElem?_eq_some_iff.1 hj).1
  obtain ⟨b', off', e, _, hc⟩ := h (by omega)
  simp only [Option.some.injEq, Addr.mk.injEq, and_true] at e
  obtain ⟨rfl, rfl⟩ := e
  rw [Go.WideShapes.add_plain]
  obtain ⟨f0, f1⟩ := pflat_at L (j / 2) (by omega)
  obtain ⟨c0, c1⟩ := hc (j / 2) (by omega)
  rcases (show j = j / 2 * 2 ∨ j = j / 2 * 2 + 1 by omega) with e | e
  · first | (rw [e, f0] at hj; rw [e, c0]; exact hj) | (rw [e, f0] at hj; rw [e, ← Nat.add_assoc, c0]; exact hj)
  · first | (rw [e, f1] at hj; rw [e, c1]; exact hj) | (rw [e, f1] at hj; rw [e, ← Nat.add_assoc, c1]; exact hj)
/-- A row of the call's own reads so. -/
theorem pair_of_row {w : World} {base : Nat} {v : Value} {L : List (ByteArray × ByteArray)} (h : w.ownsRow base 176 2 v L.length (pflat L)) : ∃ a cap, v = .slice a L.length cap ∧ L.length ≤ cap ∧ cap ≤ maxLen ∧ (a = none → cap = 0) ∧ Pairs w.heap.size w a L := by
  rcases h.2 with ⟨rfl, h0⟩ | ⟨g, cap, cur, rfl, hb, hg, h1, h2, _⟩
  · exact ⟨none, 0, by rw [h0], by omega, by unfold maxLen; omega, fun _ => rfl, fun hl => by omega⟩
  · refine ⟨_, cap, rfl, h1, h2, (fun e => by cases e), fun _ => ⟨g, 0, rfl, (Array.getElem?_eq_some_iff.1 hg).1, fun i hi => ?_⟩⟩
    obtain ⟨f0, f1⟩ := pflat_at L i hi
    have c0 := h.cellAt (i * 2) (by omega)
    have c1 := h.cellAt (i * 2 + 1) (by omega)
    rw [f0] at c0
    rw [f1] at c1
    rw [Nat.zero_add]
    exact ⟨c0, c1⟩
/-- A closure that asks p of an element, wherever it is called later. -/
def AsksP (g : Nat) (cb : Array Value) (n₀ : Nat) (w : World) (p : ByteArray × ByteArray → Bool) : Prop :=
  ∀ (W : World) (r : ByteArray × ByteArray), Below n₀ w W → Calls Tryz.prog g (#[pairV r] ++ cb) W fun e w' => e = .returned (.bool (p r)) ∧ Below W.heap.size W w'
theorem pair_asks_mono {g : Nat} {cb : Array Value} {n₀ n₁ : Nat} {w : World} {p : ByteArray × ByteArray → Bool} (h : AsksP g cb n₀ w p) (hn : n₀ ≤ n₁) : AsksP g cb n₁ w p := fun W r hb => h W r (hb.mono hn)
theorem pair_asks_below {g : Nat} {cb : Array Value} {n₀ : Nat} {w w' : World} {p : ByteArray × ByteArray → Bool} (h : AsksP g cb n₀ w p) (hb : Below n₀ w w') : AsksP g cb n₀ w' p := fun W r hb' => h W r (hb.trans hb')
/-- The first index at which p holds; -1 if there is none. -/
def pair_first (L : List (ByteArray × ByteArray)) (p : ByteArray × ByteArray → Bool) : Int := match (List.range L.length).find? (fun i => p (pg L i)) with
  | some i => i
  | none => -1
theorem pair_first_hit (L : List (ByteArray × ByteArray)) (p : ByteArray × ByteArray → Bool) (k : Nat) (hk : k < L.length) (h : p (pg L k) = true) (hn : ∀ j, j < k → p (pg L j) = false) : pair_first L p = k := by
  unfold pair_first
  have : (List.range L.length).find? (fun i => p (pg L i)) = some k := by
    rw [List.find?_eq_some_iff_getElem]
    refine ⟨by simpa using h, k, by simpa using hk, by simp, fun j hj => ?_⟩
    simpa using hn j hj
  rw [this]
theorem pair_first_miss (L : List (ByteArray × ByteArray)) (p : ByteArray × ByteArray → Bool) (hn : ∀ j, j < L.length → p (pg L j) = false) : pair_first L p = -1 := by
  unfold pair_first
  have : (List.range L.length).find? (fun i => p (pg L i)) = none := by
    rw [List.find?_eq_none]
    intro x hx
    simpa using hn x (by simpa using hx)
  rw [this]
theorem pair_first_cases (L : List (ByteArray × ByteArray)) (p : ByteArray × ByteArray → Bool) : (pair_first L p = -1 ∧ ∀ j, j < L.length → p (pg L j) = false) ∨ ∃ k : Nat, k < L.length ∧ pair_first L p = k ∧ p (pg L k) = true ∧ ∀ j, j < k → p (pg L j) = false := by
  have main : ∀ n, n ≤ L.length → (∀ j, j < n → p (pg L j) = false) ∨ ∃ k, k < n ∧ p (pg L k) = true ∧ ∀ j, j < k → p (pg L j) = false := by
    intro n
    induction n with
    | zero => exact fun _ => .inl fun j hj => absurd hj (Nat.not_lt_zero _)
    | succ n ih =>
      intro hn
      rcases ih (by omega) with h | ⟨k, hk, h1, h2⟩
      · cases e : p (pg L n)
        · refine .inl fun j hj => ?_
          rcases Nat.lt_or_ge j n with l | l
          · exact h j l
          · obtain rfl : j = n := by omega
            exact e
        · exact .inr ⟨n, by omega, e, h⟩
      · exact .inr ⟨k, by omega, h1, h2⟩
  rcases main L.length (Nat.le_refl _) with h | ⟨k, hk, h1, h2⟩
  · exact .inl ⟨pair_first_miss L p h, h⟩
  · exact .inr ⟨k, hk, pair_first_hit L p k hk h1 h2, h1, h2⟩
def pair_any (L : List (ByteArray × ByteArray)) (p : ByteArray × ByteArray → Bool) : Bool := decide (0 ≤ pair_first L p)
theorem pair_any_eq (L : List (ByteArray × ByteArray)) (p : ByteArray × ByteArray → Bool) : pair_any L p = L.any p := by
  unfold pair_any
  rw [Bool.eq_iff_iff, List.any_eq_true, decide_eq_true_eq]
  rcases pair_first_cases L p with ⟨h, h2⟩ | ⟨k, hk, h, h1, _⟩
  · rw [h]
    refine ⟨fun h => by omega, fun ⟨x, hx, hp⟩ => ?_⟩
    obtain ⟨j, hj, e⟩ := List.getElem_of_mem hx
    have := h2 j hj
    rw [pg_eq L j hj, e, hp] at this
    cases this
  · rw [h]
    exact ⟨fun _ => ⟨_, by rw [pg_eq L k hk]; exact List.getElem_mem hk, h1⟩, fun _ => by omega⟩

/-- A sheet: its cues, and the pairs that must not overlap. -/
structure SheetR where
  ca : Option Addr
  cues : List CueR
  cc : Nat
  pa : Option Addr
  pairs : List (ByteArray × ByteArray)
  pc : Nat
/-- What lies in memory of a sheet. -/
structure SheetIn0 (w : World) (s : SheetR) : Prop where
  lies : Cues w.heap.size w s.ca s.cues
  each : ∀ i, i < s.cues.length → Movs w.heap.size w (cg s.cues i).ma (cg s.cues i).moves
  plies : Pairs w.heap.size w s.pa s.pairs
  ccap : s.cues.length ≤ s.cc
  cnil : s.ca = none → s.cc = 0
  mcap : ∀ i, i < s.cues.length → (cg s.cues i).moves.length ≤ (cg s.cues i).mc
  mnil : ∀ i, i < s.cues.length → (cg s.cues i).ma = none → (cg s.cues i).mc = 0
  pcap : s.pairs.length ≤ s.pc
  pnil : s.pa = none → s.pc = 0
theorem SheetIn0.grow {w w' : World} {s : SheetR} (x : SheetIn0 w s) (hb : Below w.heap.size w w') : SheetIn0 w' s :=
  ⟨x.lies.grow hb, fun i hi => (x.each i hi).grow hb, x.plies.grow hb, x.ccap, x.cnil, x.mcap, x.mnil, x.pcap, x.pnil⟩
/-- The cells of a sheet that lies in a block. -/
def SheetAt (w : World) (b : Nat) (s : SheetR) : Prop := w.cell? ⟨b, 0, none⟩ = some (.slice s.ca s.cues.length s.cc) ∧ w.cell? ⟨b, 1, none⟩ = some (.slice s.pa s.pairs.length s.pc)
theorem SheetAt.carry {w w' : World} {b : Nat} {s : SheetR} (x : SheetAt w b s) (hb : Below w.heap.size w w') : SheetAt w' b s := by
  have hlt : b < w.heap.size := World.block_lt_of_cell? _ _ x.1
  exact ⟨(hb.cell (p := ⟨b, 0, none⟩) hlt).trans x.1, (hb.cell (p := ⟨b, 1, none⟩) hlt).trans x.2⟩

end Go.Proofs.YthldfijlcoobgaaGreat
namespace Go.Proofs.YthldfijlcoobgaaGreat
open Go.RowKit

/-- The moves of cues, one after the other. -/
def movesOf (C : List CueR) : List MovR := C.flatMap (·.moves)
def idxs (S : List SetR) (M : List MovR) : List Int := M.map fun m => findS S m.set
/-- How often each number below n stands in a list. -/
def cntK (K : List Int) (i : Nat) : Nat := (K.filter fun k => decide (k = (i : Int))).length
def countTo (n : Nat) (K : List Int) : List Int := (List.range n).map fun i => (cntK K i : Int)
def allIn (K : List Int) : Bool := K.all fun k => decide (0 ≤ k)
noncomputable def runsE (h : HouseR) (C : List CueR) : Int := if houseB h = true then (if 60 < C.length ∨ 100 < (movesOf C).length then 4 else if allIn (idxs h.sets (movesOf C)) = true then 0 else 9) else 1
noncomputable def runsX (h : HouseR) (C : List CueR) : List Int := if runsE h C = 0 then countTo h.sets.length (idxs h.sets (movesOf C)) else []
theorem countTo_len (n : Nat) (K : List Int) : (countTo n K).length = n := by simp [countTo]
theorem countTo_at {n : Nat} (K : List Int) {i : Nat} (h : i < n) : ig (countTo n K) i = cntK K i := by
  unfold ig countTo
  rw [List.getElem?_map, List.getElem?_range h]
  rfl
theorem countTo_nil (n : Nat) : countTo n [] = List.replicate n 0 := by
  refine List.ext_getElem? fun j => ?_
  unfold countTo
  by_cases h : j < n
  · rw [List.getElem?_map, List.getElem?_range h, List.getElem?_replicate, if_pos h]; rfl
  · rw [List.getElem?_eq_none (by simp; omega), List.getElem?_replicate, if_neg h]
theorem cntK_snoc (K : List Int) (j i : Nat) : cntK (K ++ [(j : Int)]) i = cntK K i + if i = j then 1 else 0 := by
  unfold cntK
  rw [List.filter_append, List.length_append]
  by_cases e : i = j
  · subst e; simp
  · rw [if_neg e, List.filter_cons_of_neg (by simp; omega)]; rfl
theorem cntK_append (K K' : List Int) (i : Nat) : cntK (K ++ K') i = cntK K i + cntK K' i := by unfold cntK; rw [List.filter_append, List.length_append]
theorem cntK_le (K : List Int) (i : Nat) : cntK K i ≤ K.length := List.length_filter_le _ _
theorem countTo_snoc {n : Nat} (K : List Int) {j : Nat} (h : j < n) : countTo n (K ++ [(j : Int)]) = (countTo n K).set j (ig (countTo n K) j + 1) := by
  refine List.ext_getElem? fun i => ?_
  rw [List.getElem?_set, countTo_len]
  by_cases hi : i < n
  · have e1 : ∀ X, (countTo n X)[i]? = some (cntK X i : Int) := fun X => by
      unfold countTo
      rw [List.getElem?_map, List.getElem?_range hi]
      rfl
    rw [e1, e1, countTo_at K h, cntK_snoc]
    by_cases e : j = i
    · subst e; simp [h]
    · rw [if_neg e, if_neg (fun q => e q.symm)]; rfl
  · have e1 : ∀ X, (countTo n X)[i]? = none := fun X => List.getElem?_eq_none (by rw [countTo_len]; omega)
    rw [e1, e1, if_neg (by omega)]
theorem movesOf_next (C : List CueR) {k : Nat} (h : k < C.length) : movesOf (C.take (k + 1)) = movesOf (C.take k) ++ (cg C k).moves := by
  unfold movesOf
  rw [List.take_succ_eq_append_getElem h, List.flatMap_append, cg_eq C k h]
  simp
theorem movesOf_append (C D : List CueR) : movesOf (C ++ D) = movesOf C ++ movesOf D := List.flatMap_append
theorem idxs_append (S : List SetR) (M N : List MovR) : idxs S (M ++ N) = idxs S M ++ idxs S N := List.map_append
theorem idxs_snoc (S : List SetR) (M : List MovR) {m : Nat} (h : m < M.length) : idxs S (M.take (m + 1)) = idxs S (M.take m) ++ [findS S (mg M m).set] := by
  rw [List.take_succ_eq_append_getElem h, idxs_append, mg_eq M m h]
  rfl
theorem movesOf_part (C : List CueR) (k : Nat) : (movesOf (C.take k)).length ≤ (movesOf C).length := by
  conv => rhs; rw [← List.take_append_drop k C, movesOf_append, List.length_append]
  omega
theorem findS_range (S : List SetR) (s : ByteArray) : findS S s = -1 ∨ ∃ k : Nat, k < S.length ∧ findS S s = k := by
  unfold findS
  rcases set_first_cases S (fun y => decide (y.name = s)) with ⟨e, _⟩ | ⟨i, hi, e, _⟩
  · exact .inl e
  · exact .inr ⟨i, hi, e⟩
theorem allIn_append (K K' : List Int) : allIn (K ++ K') = (allIn K && allIn K') := List.all_append
theorem allIn_no {K : List Int} {k : Int} (hk : k ∈ K) (h : k < 0) : allIn K = false := by
  unfold allIn
  rw [List.all_eq_false]
  exact ⟨k, hk, by simp; omega⟩
theorem idx_in {C : List CueR} {k m : Nat} (hk : k < C.length) (hm : m < (cg C k).moves.length) (S : List SetR) : findS S (mg (cg C k).moves m).set ∈ idxs S (movesOf C) := by
  unfold idxs
  refine List.mem_map.2 ⟨mg (cg C k).moves m, ?_, rfl⟩
  unfold movesOf
  rw [List.mem_flatMap]
  exact ⟨cg C k, by rw [cg_eq C k hk]; exact List.getElem_mem hk, by rw [mg_eq _ m hm]; exact List.getElem_mem hm⟩
/-- The numbers of all sets are together all moves. -/
theorem count_all (n : Nat) : ∀ K : List Int, (∀ k ∈ K, 0 ≤ k ∧ k < n) → ((List.range n).map (cntK K)).sum = K.length
  | [], _ => by
    have : (List.range n).map (cntK []) = List.replicate n 0 := by
      refine List.ext_getElem? fun j => ?_
      by_cases h : j < n
      · rw [List.getElem?_map, List.getElem?_range h, List.getElem?_replicate, if_pos h]; rfl
      · rw [List.getElem?_eq_none (by simp; omega), List.getElem?_replicate, if_neg h]
    rw [this, List.sum_replicate_nat]; simp
  | k :: K, h => by
    obtain ⟨k0, k1⟩ := h k (List.mem_cons_self ..)
    obtain ⟨j, rfl⟩ : ∃ j : Nat, k = j := ⟨k.toNat, by omega⟩
    have ih := count_all n K fun x hx => h x (List.mem_cons_of_mem _ hx)
    have e : ∀ i, cntK ((j : Int) :: K) i = cntK K i + if i = j then 1 else 0 := fun i => by
      have := cntK_append [(j : Int)] K i
      have h2 := cntK_snoc [] j i
      simp only [List.nil_append] at h2
      rw [show ((j : Int) :: K) = [(j : Int)] ++ K from rfl, this, h2]
      show 0 + _ + _ = _
      omega
    have hs : ∀ (X : List Nat), (X.map (cntK ((j : Int) :: K))).sum = (X.map (cntK K)).sum + (X.filter (· == j)).length := fun X => by
      induction X with
      | nil => rfl
      | cons x X ihx =>
        rw [List.map_cons, List.sum_cons, ihx, List.map_cons, List.sum_cons, e x, List.filter_cons]
        by_cases q : x = j
        · rw [if_pos q, if_pos (by simp [q]), List.length_cons]; omega
        · rw [if_neg q, if_neg (by simp [q])]; omega
    rw [hs, ih, List.length_cons]
    have : ((List.range n).filter (· == j)).length = 1 := by
      have h1 := List.count_eq_length_filter (a := j) (l := List.range n)
      rw [← h1, List.count_range]
      simp; omega
    omega
end Go.Proofs.YthldfijlcoobgaaGreat
namespace Go.Proofs.YthldfijlcoobgaaGreat
open Go.RowKit Go.Shelf
attribute [local go_sem] Oper.semAt_some
/-- The cells of a beam that lies in a block. -/
def RoofIn (w : World) (b : Nat) (x : RoofR) : Prop := w.cell? ⟨b, 0, none⟩ = some (.string x.name) ∧ w.cell? ⟨b, 1, none⟩ = some (.int .i64 x.lo) ∧ w.cell? ⟨b, 2, none⟩ = some (.int .i64 x.hi) ∧ w.cell? ⟨b, 3, none⟩ = some (.int .i64 x.most)
theorem RoofIn.carry {w w' : World} {b : Nat} {x : RoofR} (h : RoofIn w b x) (hb : Below w.heap.size w w') : RoofIn w' b x := by
  have hlt : b < w.heap.size := World.block_lt_of_cell? _ _ h.1
  obtain ⟨a0, a1, a2, a3⟩ := h
  exact ⟨(hb.cell (p := ⟨b, 0, none⟩) hlt).trans a0, (hb.cell (p := ⟨b, 1, none⟩) hlt).trans a1, (hb.cell (p := ⟨b, 2, none⟩) hlt).trans a2, (hb.cell (p := ⟨b, 3, none⟩) hlt).trans a3⟩
theorem RoofIn.new (w : World) (x : RoofR) (t : TypeId) : RoofIn (w.alloc (.cells #[.string x.name, .int .i64 x.lo, .int .i64 x.hi, .int .i64 x.most] t)) w.heap.size x := by
  unfold RoofIn
  simp
set_option maxHeartbeats 1000000 in
theorem gname_any (s : ByteArray) (w : World) : Calls Tryz.prog 50 #[.string s] w fun e w' => e = .returned (.bool (isNameB s)) ∧ w = w' := by
  go_enter Tryz.func50, Tryz.ntmps50
  go_wp2_with (go_at_call 35; (with_reducible refine (isName_any s _).mono ?_); rintro e w1 ⟨rfl, rfl⟩)
  go_ret
  exact ⟨rfl, rfl⟩
set_option maxHeartbeats 1000000 in
theorem gwithin_any (n : Int) (w : World) : Calls Tryz.prog 51 #[.int .i64 n] w fun e w' => e = .returned (.bool (betB n 0 1048576)) ∧ w = w' := by
  by_cases h : 0 ≤ n
  · have g := decide_eq_true h
    have HR : Hid (betB n 0 1048576 = decide (n ≤ 1048576)) := Lib.hid (by unfold betB; rw [g]; rfl)
    rw [HR.out]
    clear h
    go_enter Tryz.func51, Tryz.ntmps51
    go_wp2_with fail
    go_ret
    exact ⟨rfl, rfl⟩
  · have g := decide_eq_false h
    have HR : Hid (betB n 0 1048576 = false) := Lib.hid (by unfold betB; rw [g]; rfl)
    rw [HR.out]
    clear h
    go_enter Tryz.func51, Tryz.ntmps51
    go_wp2_with fail
    go_ret
    exact ⟨rfl, rfl⟩
theorem ent_gvalid (args : Array Value) (w : World) : (callFunc 53 args).run Tryz.prog w = .ok (.enter 53 args) w := enters_of Tryz.func53 (by kernel_rfl) rfl args w
set_option maxHeartbeats 2000000 in
theorem gsame_any (b : Nat) (x y : RoofR) (w : World) (h : RoofIn w b x) (hlt : b < w.heap.size) :
    Calls Tryz.prog 53 #[.agg #[.string y.name, .int .i64 y.lo, .int .i64 y.hi, .int .i64 y.most], .pointer (some ⟨b, 0, none⟩)] w fun e w' => e = .returned (.bool (decide (y.name = x.name))) ∧ Below w.heap.size w w' := by
  obtain ⟨a0, a1, a2, a3⟩ := h
  go_enter Tryz.func53, Tryz.ntmps53
  go_wp2_with fail
  go_ret
  exact ⟨ret_bool (str_eq _ _), below_new _ _⟩
theorem asks_roof {w : World} {b : Nat} {x : RoofR} (h : RoofIn w b x) (hlt : b < w.heap.size) : AsksRoof 53 #[.pointer (some ⟨b, 0, none⟩)] w.heap.size w (fun y => decide (y.name = x.name)) := by
  intro W r hb
  exact gsame_any b x r W (h.carry hb) (Nat.lt_of_lt_of_le hlt hb.size)
theorem roof_contains_n (a : Option Addr) (M : List RoofR) (n cap n₀ g : Nat) (cb : Array Value) (p : RoofR → Bool) (w : World) (hn : n = M.length) (eg : ∀ args w, (callFunc g args).run Tryz.prog w = .ok (.enter g args) w)
    (hl : n ≤ 1100) (hn₀ : n₀ ≤ w.heap.size) (hI : Roofs n₀ w a M) (hp : AsksRoof g cb n₀ w p) :
    Calls Tryz.prog 52 #[.slice a n cap, .func (.func g) #[] cb] w fun e w' => e = .returned (.bool (roof_any M p)) ∧ Below w.heap.size w w' := by
  subst hn
  exact roof_containsFunc a M cap n₀ g cb p w eg hl hn₀ hI hp
theorem rg_take {L : List RoofR} {k j : Nat} (h : j < k) : rg (L.take k) j = rg L j := by
  unfold rg
  rw [List.getElem?_take, if_pos h]
theorem roof_twice {L : List RoofR} {k : Nat} (hk : k ≤ L.length) (s : ByteArray) : roof_any (L.take k) (fun y => decide (y.name = s)) = false ↔ ∀ j, j < k → (rg L j).name ≠ s := by
  unfold roof_any
  rw [decide_eq_false_iff_not]
  have hl : (L.take k).length = k := by rw [List.length_take]; omega
  rcases roof_first_cases (L.take k) (fun y => decide (y.name = s)) with ⟨e, n⟩ | ⟨i, hi, e, hn, _⟩
  · rw [hl] at n
    refine ⟨fun _ j hj => ?_, fun _ => by omega⟩
    have := n j hj
    rw [rg_take hj] at this
    simpa using this
  · rw [hl] at hi
    refine ⟨fun h => absurd (by omega) h, fun h => absurd ?_ (h i hi)⟩
    rw [rg_take hi] at hn
    simpa using hn
set_option maxRecDepth 100000 in
set_option maxHeartbeats 16000000 in
theorem gridvalid_any (a : Option Addr) (L : List RoofR) (c : Nat) (w : World) (hl : L.length ≤ 1000) (hcap : L.length ≤ c) (h : Roofs w.heap.size w a L) :
    Calls Tryz.prog 36 #[.slice a L.length c] w fun e w' => e = .returned (.bool (roofsB L)) ∧ Below w.heap.size w w' := by
  have HU := Lib.hid h
  clear h
  by_cases q : 20 < L.length
  · have HR : Hid (roofsB L = false) := Lib.hid (by
      cases e : roofsB L
      · rfl
      · have := (roofsB_iff.1 e).1; omega)
    rw [HR.out]
    have g : decide ((20 : Int) < L.length) = true := decide_eq_true (by omega)
    clear q
    go_enter Tryz.func36, Tryz.ntmps36
    go_wp2_with fail
    go_ret
    exact ⟨rfl, Below.refl _ _⟩
  have g : decide ((20 : Int) < L.length) = false := decide_eq_false (by omega)
  have hq : L.length ≤ 20 := by omega
  clear q
  go_enter Tryz.func36, Tryz.ntmps36
  go_wp2_with fail
  clear g
  go_loopw [10] (fun i wr => ∃ k : Nat, k ≤ L.length ∧ i = .int .i64 k ∧ Hid (∀ j, j < k → RoofAt L j) ∧ Below w.heap.size w wr) (fun i _ => L.length - (intOf i).toNat)
  case atStart => exact ⟨0, Nat.zero_le _, rfl, Lib.hid (fun _ h => absurd h (Nat.not_lt_zero _)), Below.refl _ _⟩
  case round =>
    obtain ⟨k, hk, rfl, HO, hB⟩ := hrel
    by_cases hlt : k < L.length
    · obtain ⟨b, off, rfl, hb, hc⟩ := HU.out (by omega)
      obtain ⟨e0, e1, e2, e3⟩ := hc k hlt
      have c0 := (hB.cell (p := ⟨b, _, none⟩) hb).trans e0
      have c1 := (hB.cell (p := ⟨b, _, none⟩) hb).trans e1
      have c2 := (hB.cell (p := ⟨b, _, none⟩) hb).trans e2
      have c3 := (hB.cell (p := ⟨b, _, none⟩) hb).trans e3
      have i0 : 0 ≤ (k : Int) := by omega
      have i1 : (k : Int) < (L.length : Int) := by omega
      have s1 : IntKind.i64.wrap ((k : Int) + 1) = (k : Int) + 1 := IntWalk.i64_in _ (by omega)
      have hTl : k = (L.take k).length := by rw [List.length_take]; omega
      have HTL := Lib.hid hTl
      have k1 : k ≤ c := by omega
      have k2 : (k : Int) ≤ (c : Int) := by omega
      have HN : Hid (¬ RoofAt L k → roofsB L = false) := Lib.hid (roofs_no hlt)
      have HAT : Hid (RoofAt L k ↔ RoofOK (rg L k) ∧ ∀ j, j < k → (rg L j).name ≠ (rg L k).name) := Lib.hid Iff.rfl
      have HTW := Lib.hid (roof_twice (L := L) (k := k) hk (rg L k).name)
      have HTK : Hid (Roofs w.heap.size w (some ⟨b, off, none⟩) (L.take k)) := Lib.hid (HU.out.take k)
      have HB := Lib.hid hB
      have HO2 : Hid (RoofAt L k → ∀ j, j < k + 1 → RoofAt L j) := Lib.hid fun h j hj => by
        rcases Nat.lt_or_eq_of_le (Nat.le_of_lt_succ hj) with l | l
        · exact HO.out j l
        · subst l; exact h
      generalize rg L k = x at *
      have HNEW := Lib.hid (RoofIn.new wr x 87)
      have hB1 := hB.alloc hB.size (.cells #[.string x.name, .int .i64 x.lo, .int .i64 x.hi, .int .i64 x.most] 87)
      clear hc e0 e1 e2 e3 HO hTl hB
      go_upto_region 6 with (fail)
      have HS1 : Hid (Below wr.heap.size wr (wr.alloc (.cells #[.string x.name, .int .i64 x.lo, .int .i64 x.hi, .int .i64 x.most] 87))) := Lib.hid (below_new _ _)
      have hz : wr.heap.size < (wr.alloc (.cells #[.string x.name, .int .i64 x.lo, .int .i64 x.hi, .int .i64 x.most] 87)).heap.size := by simp
      clear c0 c1 c2 c3
      obtain ⟨B, hBe⟩ : ∃ b, wr.heap.size = b := ⟨_, rfl⟩
      simp only [hBe] at HNEW hz ⊢
      generalize wr.alloc (.cells #[.string x.name, .int .i64 x.lo, .int .i64 x.hi, .int .i64 x.most] 87) = W1 at *
      obtain ⟨d0, d1, d2, d3⟩ := HNEW.out
      cases h1 : isNameB x.name
      · have H1 := Lib.hid h1
        have HZ := Lib.hid (HN.out (fun hh => absurd (HAT.out.1 hh) (fun h => by have := h.1.1; rw [H1.out] at this; cases this)))
        clear h1
        go_wp2_with (first
          | (go_at_call 50; (with_reducible refine (gname_any x.name _).mono ?_); rintro e w2 ⟨rfl, rfl⟩; rw [H1.out])
          | (go_at_call 51; (with_reducible refine (gwithin_any x.lo _).mono ?_); rintro e w3 ⟨rfl, rfl⟩; rw [H2.out])
          | (go_at_call 51; (with_reducible refine (gwithin_any x.hi _).mono ?_); rintro e w4 ⟨rfl, rfl⟩; rw [H3.out]))
        go_ret
        exact ⟨ret_bool HZ.out.symm, hB1⟩
      have H1 := Lib.hid h1
      clear h1
      cases h2 : betB x.lo 0 1048576
      · have H2 := Lib.hid h2
        have HZ := Lib.hid (HN.out (fun hh => absurd (HAT.out.1 hh) (fun h => by have := h.1; unfold RoofOK at this; have e : betB x.lo 0 1048576 = true := betB_iff.2 (by omega); rw [H2.out] at e; cases e)))
        clear h2
        go_wp2_with (first
          | (go_at_call 50; (with_reducible refine (gname_any x.name _).mono ?_); rintro e w2 ⟨rfl, rfl⟩; rw [H1.out])
          | (go_at_call 51; (with_reducible refine (gwithin_any x.lo _).mono ?_); rintro e w3 ⟨rfl, rfl⟩; rw [H2.out])
          | (go_at_call 51; (with_reducible refine (gwithin_any x.hi _).mono ?_); rintro e w4 ⟨rfl, rfl⟩; rw [H3.out]))
        go_ret
        exact ⟨ret_bool HZ.out.symm, hB1⟩
      have H2 := Lib.hid h2
      clear h2
      cases h3 : betB x.hi 0 1048576
      · have H3 := Lib.hid h3
        have HZ := Lib.hid (HN.out (fun hh => absurd (HAT.out.1 hh) (fun h => by have := h.1; unfold RoofOK at this; have e : betB x.hi 0 1048576 = true := betB_iff.2 (by omega); rw [H3.out] at e; cases e)))
        clear h3
        go_wp2_with (first
          | (go_at_call 50; (with_reducible refine (gname_any x.name _).mono ?_); rintro e w2 ⟨rfl, rfl⟩; rw [H1.out])
          | (go_at_call 51; (with_reducible refine (gwithin_any x.lo _).mono ?_); rintro e w3 ⟨rfl, rfl⟩; rw [H2.out])
          | (go_at_call 51; (with_reducible refine (gwithin_any x.hi _).mono ?_); rintro e w4 ⟨rfl, rfl⟩; rw [H3.out]))
        go_ret
        exact ⟨ret_bool HZ.out.symm, hB1⟩
      have H3 := Lib.hid h3
      clear h3
      cases h4 : decide (x.hi < x.lo)
      case true =>
        have H4 := Lib.hid h4
        have HZ := Lib.hid (HN.out (fun hh => absurd (HAT.out.1 hh) (fun h => by have := h.1; unfold RoofOK at this; have e := of_decide_eq_true H4.out; omega)))
        go_wp2_with (first
          | (go_at_call 50; (with_reducible refine (gname_any x.name _).mono ?_); rintro e w2 ⟨rfl, rfl⟩; rw [H1.out])
          | (go_at_call 51; (with_reducible refine (gwithin_any x.lo _).mono ?_); rintro e w3 ⟨rfl, rfl⟩; rw [H2.out])
          | (go_at_call 51; (with_reducible refine (gwithin_any x.hi _).mono ?_); rintro e w4 ⟨rfl, rfl⟩; rw [H3.out]))
        go_ret
        exact ⟨ret_bool HZ.out.symm, hB1⟩
      have H4 := Lib.hid h4
      cases h5 : decide (x.most < 0)
      case true =>
        have H5 := Lib.hid h5
        have HZ := Lib.hid (HN.out (fun hh => absurd (HAT.out.1 hh) (fun h => by have := h.1; unfold RoofOK at this; have e := of_decide_eq_true H5.out; omega)))
        go_wp2_with (first
          | (go_at_call 50; (with_reducible refine (gname_any x.name _).mono ?_); rintro e w2 ⟨rfl, rfl⟩; rw [H1.out])
          | (go_at_call 51; (with_reducible refine (gwithin_any x.lo _).mono ?_); rintro e w3 ⟨rfl, rfl⟩; rw [H2.out])
          | (go_at_call 51; (with_reducible refine (gwithin_any x.hi _).mono ?_); rintro e w4 ⟨rfl, rfl⟩; rw [H3.out]))
        go_ret
        exact ⟨ret_bool HZ.out.symm, hB1⟩
      have H5 := Lib.hid h5
      cases h6 : decide (67108864 < x.most)
      case true =>
        have H6 := Lib.hid h6
        have HZ := Lib.hid (HN.out (fun hh => absurd (HAT.out.1 hh) (fun h => by have := h.1; unfold RoofOK at this; have e := of_decide_eq_true H6.out; omega)))
        go_wp2_with (first
          | (go_at_call 50; (with_reducible refine (gname_any x.name _).mono ?_); rintro e w2 ⟨rfl, rfl⟩; rw [H1.out])
          | (go_at_call 51; (with_reducible refine (gwithin_any x.lo _).mono ?_); rintro e w3 ⟨rfl, rfl⟩; rw [H2.out])
          | (go_at_call 51; (with_reducible refine (gwithin_any x.hi _).mono ?_); rintro e w4 ⟨rfl, rfl⟩; rw [H3.out]))
        go_ret
        exact ⟨ret_bool HZ.out.symm, hB1⟩
      have H6 := Lib.hid h6
      have HOK : Hid (RoofOK x) := Lib.hid (by
        have a2 := betB_iff.1 H2.out
        have a3 := betB_iff.1 H3.out
        have a4 := of_decide_eq_false H4.out
        have a5 := of_decide_eq_false H5.out
        have a6 := of_decide_eq_false H6.out
        exact ⟨H1.out, by omega, by omega, by omega, by omega, by omega⟩)
      have HCON : Hid (Calls Tryz.prog 52 #[.slice (some ⟨b, off, none⟩) k c, .func (.func 53) #[] #[.pointer (some ⟨B, 0, none⟩)]] W1 fun e w' => e = .returned (.bool (roof_any (L.take k) (fun y => decide (y.name = x.name)))) ∧ Below W1.heap.size W1 w') := Lib.hid
        (roof_contains_n (some ⟨b, off, none⟩) (L.take k) k c _ _ _ (fun y => decide (y.name = x.name)) _ HTL.out ent_gvalid (by omega) (Nat.le_refl _) ((HTK.out.below hB1).mono hB1.size) (asks_roof HNEW.out hz))
      cases h7 : roof_any (L.take k) (fun y => decide (y.name = x.name))
      · have H7 := Lib.hid h7
        have HY := Lib.hid (HO2.out (HAT.out.2 ⟨HOK.out, HTW.out.1 h7⟩))
        rw [h7] at HCON
        clear h7
        go_wp2_with (first
          | (go_at_call 50; (with_reducible refine (gname_any x.name _).mono ?_); rintro e w2 ⟨rfl, rfl⟩; rw [H1.out])
          | (go_at_call 51; (with_reducible refine (gwithin_any x.lo _).mono ?_); rintro e w3 ⟨rfl, rfl⟩; rw [H2.out])
          | (go_at_call 51; (with_reducible refine (gwithin_any x.hi _).mono ?_); rintro e w4 ⟨rfl, rfl⟩; rw [H3.out])
          | (go_at_call 52; (with_reducible refine HCON.out.mono ?_); rintro e w5 ⟨rfl, hb5⟩))
        go_roundw
        case rel => exact ⟨k + 1, by omega, by go_num, HY, hB1.trans (hb5.mono hB1.size)⟩
        case measure => simp [intOf]; omega
      · have H7 := Lib.hid h7
        have HZ := Lib.hid (HN.out (fun hh => by
          have := HTW.out.2 (HAT.out.1 hh).2
          rw [H7.out] at this
          cases this))
        rw [h7] at HCON
        clear h7
        go_wp2_with (first
          | (go_at_call 50; (with_reducible refine (gname_any x.name _).mono ?_); rintro e w2 ⟨rfl, rfl⟩; rw [H1.out])
          | (go_at_call 51; (with_reducible refine (gwithin_any x.lo _).mono ?_); rintro e w3 ⟨rfl, rfl⟩; rw [H2.out])
          | (go_at_call 51; (with_reducible refine (gwithin_any x.hi _).mono ?_); rintro e w4 ⟨rfl, rfl⟩; rw [H3.out])
          | (go_at_call 52; (with_reducible refine HCON.out.mono ?_); rintro e w5 ⟨rfl, hb5⟩))
        go_ret
        exact ⟨ret_bool HZ.out.symm, hB1.trans (hb5.mono hB1.size)⟩
    · obtain rfl : k = L.length := by omega
      have HR := Lib.hid (roofsB_iff.2 ⟨hq, HO.out⟩)
      go_wp2_with fail
      go_ret
      exact ⟨ret_bool HR.out.symm, hB⟩
end Go.Proofs.YthldfijlcoobgaaGreat
namespace Go.Proofs.YthldfijlcoobgaaGreat
open Go.RowKit Go.Shelf
attribute [local go_sem] Oper.semAt_some
theorem ent_find (args : Array Value) (w : World) : (callFunc 58 args).run Tryz.prog w = .ok (.enter 58 args) w := enters_of Tryz.func58 (by kernel_rfl) rfl args w
set_option maxHeartbeats 2000000 in
theorem hsame_any (b : Nat) (s : ByteArray) (y : SetR) (w : World) (h : w.cell? ⟨b, 0, none⟩ = some (.string s)) :
    Calls Tryz.prog 58 #[.agg #[.string y.name, .int .i64 y.depth, .int .i64 y.low, .int .i64 y.high, .int .i64 y.length, .slice y.la y.lines.length y.lc, .int .i64 y.pipe, .int .i64 y.arbor, .int .i64 y.purchase, .int .i64 y.most, .int .i64 y.brake, .slice y.ia y.items.length y.ic, .slice y.ba y.bricks.length y.bc], .pointer (some ⟨b, 0, none⟩)] w fun e w' => e = .returned (.bool (decide (y.name = s))) ∧ Below w.heap.size w w' := by
  have hlt : b < w.heap.size := World.block_lt_of_cell? _ _ h
  go_enter Tryz.func58, Tryz.ntmps58
  go_wp2_with fail
  go_ret
  exact ⟨ret_bool (str_eq _ _), below_new _ _⟩
theorem asks_find {w : World} {b : Nat} {s : ByteArray} (h : w.cell? ⟨b, 0, none⟩ = some (.string s)) : AsksSet 58 #[.pointer (some ⟨b, 0, none⟩)] w.heap.size w (fun y => decide (y.name = s)) := by
  intro W r hb
  exact hsame_any b s r W ((hb.cell (p := ⟨b, 0, none⟩) (World.block_lt_of_cell? _ _ h)).trans h)
set_option maxRecDepth 100000 in
set_option maxHeartbeats 4000000 in
theorem hfind_any (h : HouseR) (s : ByteArray) (w : World) (hh : HouseIn w h) :
    Calls Tryz.prog 38 #[.agg #[.string h.name, .int .i64 h.height, .slice h.sa h.sets.length h.sc, .slice h.ra h.roofs.length h.rc], .string s] w fun e w' => e = .returned (.int .i64 (findS h.sets s)) ∧ Below w.heap.size w w' := by
  have hB := (below_new w (.cells #[.string h.name, .int .i64 h.height, .slice h.sa h.sets.length h.sc, .slice h.ra h.roofs.length h.rc] 25)).alloc (by simp) (.cells #[.string s] 9)
  have hs0 : ((w.alloc (.cells #[.string h.name, .int .i64 h.height, .slice h.sa h.sets.length h.sc, .slice h.ra h.roofs.length h.rc] 25)).alloc (.cells #[.string s] 9)).cell? ⟨w.heap.size + 1, 0, none⟩ = some (.string s) := by simp
  have HA := Lib.hid (asks_find hs0)
  have HI : Hid (Calls Tryz.prog 21 #[.slice h.sa h.sets.length h.sc, .func (.func 58) #[] #[.pointer (some ⟨w.heap.size + 1, 0, none⟩)]] ((w.alloc (.cells #[.string h.name, .int .i64 h.height, .slice h.sa h.sets.length h.sc, .slice h.ra h.roofs.length h.rc] 25)).alloc (.cells #[.string s] 9)) fun e w' => e = .returned (.int .i64 (set_first h.sets (fun y => decide (y.name = s)))) ∧ Below ((w.alloc (.cells #[.string h.name, .int .i64 h.height, .slice h.sa h.sets.length h.sc, .slice h.ra h.roofs.length h.rc] 25)).alloc (.cells #[.string s] 9)).heap.size ((w.alloc (.cells #[.string h.name, .int .i64 h.height, .slice h.sa h.sets.length h.sc, .slice h.ra h.roofs.length h.rc] 25)).alloc (.cells #[.string s] 9)) w') := Lib.hid
    (set_indexFunc h.sa h.sets h.sc _ _ _ (fun y => decide (y.name = s)) _ ent_find (by have := hh.slen; omega) (Nat.le_refl _) (hh.sets.grow hB) HA.out)
  have HBB := Lib.hid hB
  clear hs0 HA hB hh
  go_enter Tryz.func38, Tryz.ntmps38
  go_wp2_with (go_at_call 21; (with_reducible refine HI.out.mono ?_); rintro e w1 ⟨rfl, hb1⟩)
  go_ret
  exact ⟨rfl, HBB.out.trans (hb1.mono HBB.out.size)⟩
set_option maxRecDepth 100000 in
set_option maxHeartbeats 32000000 in
theorem housevalid_any (h : HouseR) (w : World) (hh : HouseIn w h) :
    Calls Tryz.prog 20 #[.agg #[.string h.name, .int .i64 h.height, .slice h.sa h.sets.length h.sc, .slice h.ra h.roofs.length h.rc]] w fun e w' => e = .returned (.bool (houseB h)) ∧ Below w.heap.size w w' := by
  have HH := Lib.hid hh
  have hsl := hh.slen
  have hcap := hh.scap
  have HGV : Hid (∀ w' : World, Below w.heap.size w w' → Calls Tryz.prog 36 #[.slice h.ra h.roofs.length h.rc] w' fun e w2 => e = .returned (.bool (roofsB h.roofs)) ∧ Below w'.heap.size w' w2) := Lib.hid fun w' hb => gridvalid_any h.ra h.roofs h.rc w' hh.rlen hh.rcap (hh.roofs.grow hb)
  have HNO : Hid ((¬ (isNameB h.name = true ∧ 1 ≤ h.height ∧ h.height ≤ 1048576 ∧ h.sets.length ≤ 60 ∧ RoofsOK h.roofs)) → houseB h = false) := Lib.hid fun n => by
    cases e : houseB h
    · rfl
    · obtain ⟨a, b, c, d, e, _⟩ := houseB_iff.1 e
      exact absurd ⟨a, b, c, d, e⟩ n
  have hat := HouseAt.new w h 25
  obtain ⟨sa, hsa⟩ : ∃ a, h.sa = a := ⟨_, rfl⟩
  have HSA := Lib.hid hsa
  rw [hsa] at hat ⊢
  have HAT := Lib.hid hat
  have hW0 := below_new w (.cells #[.string h.name, .int .i64 h.height, .slice sa h.sets.length h.sc, .slice h.ra h.roofs.length h.rc] 25)
  clear hh hat hsa
  cases h1 : isNameB h.name
  case false =>
    have H1 := Lib.hid h1
    have HZ := Lib.hid (HNO.out (fun q => by rw [H1.out] at q; exact absurd q.1 (by decide)))
    clear h1
    go_enter Tryz.func20, Tryz.ntmps20
    go_upto_region 1 with (fail)
    generalize w.alloc (.cells #[.string h.name, .int .i64 h.height, .slice sa h.sets.length h.sc, .slice h.ra h.roofs.length h.rc] 25) = W0 at *
    obtain ⟨k0, k1, k2, k3⟩ := HAT.out
    rw [HSA.out] at k2
    go_wp2_with (first
      | (go_at_call 35; (with_reducible refine (isName_any h.name _).mono ?_); rintro e w1 ⟨rfl, rfl⟩; rw [H1.out])
      | (go_at_call 36; (with_reducible refine (HGV.out _ hW0).mono ?_); rintro e w2 ⟨rfl, hb2⟩; rw [H5.out]; clear k0 k1 k2 k3; obtain ⟨k0, k1, k2, k3⟩ := HAT.out.carry hb2; rw [HSA.out] at k2))
    go_ret
    exact ⟨ret_bool HZ.out.symm, hW0⟩
  have H1 := Lib.hid h1
  clear h1
  cases h2 : decide (h.height < 1)
  case true =>
    have H2 := Lib.hid h2
    have HZ := Lib.hid (HNO.out (fun q => by have := of_decide_eq_true H2.out; omega))
    go_enter Tryz.func20, Tryz.ntmps20
    go_upto_region 1 with (fail)
    generalize w.alloc (.cells #[.string h.name, .int .i64 h.height, .slice sa h.sets.length h.sc, .slice h.ra h.roofs.length h.rc] 25) = W0 at *
    obtain ⟨k0, k1, k2, k3⟩ := HAT.out
    rw [HSA.out] at k2
    go_wp2_with (first
      | (go_at_call 35; (with_reducible refine (isName_any h.name _).mono ?_); rintro e w1 ⟨rfl, rfl⟩; rw [H1.out])
      | (go_at_call 36; (with_reducible refine (HGV.out _ hW0).mono ?_); rintro e w2 ⟨rfl, hb2⟩; rw [H5.out]; clear k0 k1 k2 k3; obtain ⟨k0, k1, k2, k3⟩ := HAT.out.carry hb2; rw [HSA.out] at k2))
    go_ret
    exact ⟨ret_bool HZ.out.symm, hW0⟩
  have H2 := Lib.hid h2
  cases h3 : decide (1048576 < h.height)
  case true =>
    have H3 := Lib.hid h3
    have HZ := Lib.hid (HNO.out (fun q => by have := of_decide_eq_true H3.out; omega))
    go_enter Tryz.func20, Tryz.ntmps20
    go_upto_region 1 with (fail)
    generalize w.alloc (.cells #[.string h.name, .int .i64 h.height, .slice sa h.sets.length h.sc, .slice h.ra h.roofs.length h.rc] 25) = W0 at *
    obtain ⟨k0, k1, k2, k3⟩ := HAT.out
    rw [HSA.out] at k2
    go_wp2_with (first
      | (go_at_call 35; (with_reducible refine (isName_any h.name _).mono ?_); rintro e w1 ⟨rfl, rfl⟩; rw [H1.out])
      | (go_at_call 36; (with_reducible refine (HGV.out _ hW0).mono ?_); rintro e w2 ⟨rfl, hb2⟩; rw [H5.out]; clear k0 k1 k2 k3; obtain ⟨k0, k1, k2, k3⟩ := HAT.out.carry hb2; rw [HSA.out] at k2))
    go_ret
    exact ⟨ret_bool HZ.out.symm, hW0⟩
  have H3 := Lib.hid h3
  cases h4 : decide ((60 : Int) < (h.sets.length : Int))
  case true =>
    have H4 := Lib.hid h4
    have HZ := Lib.hid (HNO.out (fun q => by have := of_decide_eq_true H4.out; omega))
    go_enter Tryz.func20, Tryz.ntmps20
    go_upto_region 1 with (fail)
    generalize w.alloc (.cells #[.string h.name, .int .i64 h.height, .slice sa h.sets.length h.sc, .slice h.ra h.roofs.length h.rc] 25) = W0 at *
    obtain ⟨k0, k1, k2, k3⟩ := HAT.out
    rw [HSA.out] at k2
    go_wp2_with (first
      | (go_at_call 35; (with_reducible refine (isName_any h.name _).mono ?_); rintro e w1 ⟨rfl, rfl⟩; rw [H1.out])
      | (go_at_call 36; (with_reducible refine (HGV.out _ hW0).mono ?_); rintro e w2 ⟨rfl, hb2⟩; rw [H5.out]; clear k0 k1 k2 k3; obtain ⟨k0, k1, k2, k3⟩ := HAT.out.carry hb2; rw [HSA.out] at k2))
    go_ret
    exact ⟨ret_bool HZ.out.symm, hW0⟩
  have H4 := Lib.hid h4
  cases h5 : roofsB h.roofs
  case false =>
    have H5 := Lib.hid h5
    have HZ := Lib.hid (HNO.out (fun q => by rw [roofsB_iff.2 q.2.2.2.2] at H5; exact absurd H5.out (by decide)))
    clear h5
    go_enter Tryz.func20, Tryz.ntmps20
    go_upto_region 1 with (fail)
    generalize w.alloc (.cells #[.string h.name, .int .i64 h.height, .slice sa h.sets.length h.sc, .slice h.ra h.roofs.length h.rc] 25) = W0 at *
    obtain ⟨k0, k1, k2, k3⟩ := HAT.out
    rw [HSA.out] at k2
    go_wp2_with (first
      | (go_at_call 35; (with_reducible refine (isName_any h.name _).mono ?_); rintro e w1 ⟨rfl, rfl⟩; rw [H1.out])
      | (go_at_call 36; (with_reducible refine (HGV.out _ hW0).mono ?_); rintro e w2 ⟨rfl, hb2⟩; rw [H5.out]; clear k0 k1 k2 k3; obtain ⟨k0, k1, k2, k3⟩ := HAT.out.carry hb2; rw [HSA.out] at k2))
    go_ret
    exact ⟨ret_bool HZ.out.symm, hW0.trans (hb2.mono hW0.size)⟩
  have H5 := Lib.hid h5
  clear h5
  have HOK : Hid ((∀ k, k < h.sets.length → SetAtOK h k) → houseB h = true) := Lib.hid fun q => houseB_iff.2 ⟨H1.out, by have := of_decide_eq_false H2.out; omega, by have := of_decide_eq_false H3.out; omega, by have := of_decide_eq_false H4.out; omega, roofsB_iff.1 H5.out, q⟩
  go_enter Tryz.func20, Tryz.ntmps20
  go_upto_region 1 with (fail)
  generalize w.alloc (.cells #[.string h.name, .int .i64 h.height, .slice sa h.sets.length h.sc, .slice h.ra h.roofs.length h.rc] 25) = W0 at *
  obtain ⟨k0, k1, k2, k3⟩ := HAT.out
  rw [HSA.out] at k2
  go_wp2_with (first
      | (go_at_call 35; (with_reducible refine (isName_any h.name _).mono ?_); rintro e w1 ⟨rfl, rfl⟩; rw [H1.out])
      | (go_at_call 36; (with_reducible refine (HGV.out _ hW0).mono ?_); rintro e w2 ⟨rfl, hb2⟩; rw [H5.out]; clear k0 k1 k2 k3; obtain ⟨k0, k1, k2, k3⟩ := HAT.out.carry hb2; rw [HSA.out] at k2))
  have hB1 := hW0.trans (hb2.mono hW0.size)
  have HAT1 := Lib.hid (HAT.out.carry hb2)
  have hz : w.heap.size < w2.heap.size := World.block_lt_of_cell? _ _ HAT1.out.1
  clear k0 k1 k2 k3 hb2 hW0 h2 h3 h4 HNO HGV HAT
  go_loopw [34] (fun i wr => ∃ k : Nat, k ≤ h.sets.length ∧ i = .int .i64 k ∧ Hid (∀ j, j < k → SetAtOK h j) ∧ Below w2.heap.size w2 wr) (fun i _ => h.sets.length - (intOf i).toNat)
  case atStart => exact ⟨0, Nat.zero_le _, rfl, Lib.hid (fun _ h => absurd h (Nat.not_lt_zero _)), Below.refl _ _⟩
  case round =>
    obtain ⟨k, hk, rfl, HO, hB⟩ := hrel
    have HB := Lib.hid hB
    by_cases hlt : k < h.sets.length
    · have HIN : Hid (∀ w' : World, Below w2.heap.size w2 w' → HouseIn w' h) := Lib.hid fun w' q => HH.out.grow (hB1.trans (q.mono hB1.size))
      obtain ⟨b, off, esa, hb, hc⟩ := (HIN.out wr hB).sets (by omega)
      obtain rfl : sa = some ⟨b, off, none⟩ := HSA.out.symm.trans esa
      have HSET := Lib.hid ((HIN.out wr hB).all k hlt)
      obtain ⟨c0, c1, c2, c3, c4, c5, c6, c7, c8, c9, c10, c11, c12⟩ := hc k hlt
      have i0 : 0 ≤ (k : Int) := by omega
      have i1 : (k : Int) < (h.sets.length : Int) := by omega
      have s1 : IntKind.i64.wrap ((k : Int) + 1) = (k : Int) + 1 := IntWalk.i64_in _ (by omega)
      have HN : Hid (¬ SetAtOK h k → houseB h = false) := Lib.hid (house_no hlt)
      have HDEF : Hid (SetAtOK h k ↔ setB (hsg h.sets k) = true ∧ (hsg h.sets k).high ≤ h.height ∧ ∀ j, j < k → (hsg h.sets j).name ≠ (hsg h.sets k).name) := Lib.hid Iff.rfl
      have HFX := Lib.hid (find_at hlt)
      have HO2 : Hid (SetAtOK h k → ∀ j, j < k + 1 → SetAtOK h j) := Lib.hid fun q j hj => by
        rcases Nat.lt_or_eq_of_le (Nat.le_of_lt_succ hj) with l | l
        · exact HO.out j l
        · subst l; exact q
      generalize hsg h.sets k = x at *
      have HNEW := Lib.hid (SetAt.new wr x 71)
      have hBW := below_new wr (.cells #[.string x.name, .int .i64 x.depth, .int .i64 x.low, .int .i64 x.high, .int .i64 x.length, .slice x.la x.lines.length x.lc, .int .i64 x.pipe, .int .i64 x.arbor, .int .i64 x.purchase, .int .i64 x.most, .int .i64 x.brake, .slice x.ia x.items.length x.ic, .slice x.ba x.bricks.length x.bc] 71)
      have hz2 : wr.heap.size < (wr.alloc (.cells #[.string x.name, .int .i64 x.depth, .int .i64 x.low, .int .i64 x.high, .int .i64 x.length, .slice x.la x.lines.length x.lc, .int .i64 x.pipe, .int .i64 x.arbor, .int .i64 x.purchase, .int .i64 x.most, .int .i64 x.brake, .slice x.ia x.items.length x.ic, .slice x.ba x.bricks.length x.bc] 71)).heap.size := by simp
      clear hc HO esa
      go_upto_region 6 with (fail)
      clear c0 c1 c2 c3 c4 c5 c6 c7 c8 c9 c10 c11 c12
      obtain ⟨B, hBe⟩ : ∃ b, wr.heap.size = b := ⟨_, rfl⟩
      simp only [hBe] at HNEW hz2 ⊢
      generalize wr.alloc (.cells #[.string x.name, .int .i64 x.depth, .int .i64 x.low, .int .i64 x.high, .int .i64 x.length, .slice x.la x.lines.length x.lc, .int .i64 x.pipe, .int .i64 x.arbor, .int .i64 x.purchase, .int .i64 x.most, .int .i64 x.brake, .slice x.ia x.items.length x.ic, .slice x.ba x.bricks.length x.bc] 71) = W1 at *
      have hBX : Below w2.heap.size w2 W1 := HB.out.trans (hBW.mono HB.out.size)
      have HHW := Lib.hid (HIN.out W1 hBX)
      have HBV := Lib.hid (batvalid_any x W1 (HSET.out.grow hBW))
      have x0 : ∀ wx, Below W1.heap.size W1 wx → wx.cell? ⟨B, 0, none⟩ = some (.string x.name) := fun wx q => (HNEW.out.below q hz2).1
      have x3 : ∀ wx, Below W1.heap.size W1 wx → wx.cell? ⟨B, 3, none⟩ = some (.int .i64 x.high) := fun wx q => (HNEW.out.below q hz2).2.2.2.1
      obtain ⟨d0, d1, d2, d3, d4, d5, d6, d7, d8, d9, d10, d11, d12⟩ := HNEW.out
      have HY : Hid (∀ wx, Below W1.heap.size W1 wx → HouseAt wx w.heap.size h) := Lib.hid fun wx q => HAT1.out.carry (hBX.trans (q.mono hBX.size))
      have y0 : ∀ wx, Below W1.heap.size W1 wx → wx.cell? ⟨w.heap.size, 0, none⟩ = some (.string h.name) := fun wx q => (HY.out wx q).1
      have y1 : ∀ wx, Below W1.heap.size W1 wx → wx.cell? ⟨w.heap.size, 1, none⟩ = some (.int .i64 h.height) := fun wx q => (HY.out wx q).2.1
      have y2 : ∀ wx, Below W1.heap.size W1 wx → wx.cell? ⟨w.heap.size, 2, none⟩ = some (.slice (some ⟨b, off, none⟩) h.sets.length h.sc) := fun wx q => by have := (HY.out wx q).2.2.1; rwa [HSA.out] at this
      have y3 : ∀ wx, Below W1.heap.size W1 wx → wx.cell? ⟨w.heap.size, 3, none⟩ = some (.slice h.ra h.roofs.length h.rc) := fun wx q => (HY.out wx q).2.2.2
      clear hB hBW
      cases h6 : setB x
      · have H6 := Lib.hid h6
        have HZ := Lib.hid (HN.out (fun q => by have := (HDEF.out.1 q).1; rw [H6.out] at this; cases this))
        rw [h6] at HBV
        clear h6
        go_wp2_with (first
          | (go_at_call 37; (with_reducible refine HBV.out.mono ?_); rintro e w3 ⟨rfl, hb3⟩))
        go_ret
        exact ⟨ret_bool HZ.out.symm, hB1.trans ((hBX.trans (hb3.mono hBX.size)).mono hB1.size)⟩
      have H6 := Lib.hid h6
      rw [h6] at HBV
      clear h6
      cases h7 : decide (h.height < x.high)
      case true =>
        have H7 := Lib.hid h7
        have HZ := Lib.hid (HN.out (fun q => by have := (HDEF.out.1 q).2.1; have e := of_decide_eq_true H7.out; omega))
        go_wp2_with (first
          | (go_at_call 37; (with_reducible refine HBV.out.mono ?_); rintro e w3 ⟨rfl, hb3⟩))
        go_ret
        exact ⟨ret_bool HZ.out.symm, hB1.trans ((hBX.trans (hb3.mono hBX.size)).mono hB1.size)⟩
      have H7 := Lib.hid h7
      have HFI : Hid (∀ wx, Below W1.heap.size W1 wx → Calls Tryz.prog 38 #[.agg #[.string h.name, .int .i64 h.height, .slice (some ⟨b, off, none⟩) h.sets.length h.sc, .slice h.ra h.roofs.length h.rc], .string x.name] wx fun e w' => e = .returned (.int .i64 (findS h.sets x.name)) ∧ Below wx.heap.size wx w') := Lib.hid fun wx q => by
        have := hfind_any h x.name wx (HIN.out wx (hBX.trans (q.mono hBX.size)))
        rwa [HSA.out] at this
      obtain ⟨F, hF⟩ : ∃ F, findS h.sets x.name = F := ⟨_, rfl⟩
      rw [hF] at HFI HFX
      by_cases h8 : F = (k : Int)
      · have g8 : (F != (k : Int)) = false := by simpa using h8
        have HT := Lib.hid (HO2.out (HDEF.out.2 ⟨H6.out, by have := of_decide_eq_false H7.out; omega, HFX.out.1 h8⟩))
        clear h8 hF
        go_wp2_with (first
          | (go_at_call 37; (with_reducible refine HBV.out.mono ?_); rintro e w3 ⟨rfl, hb3⟩)
          | (go_at_call 38; (with_reducible refine (HFI.out _ hb3).mono ?_); rintro e w4 ⟨rfl, hb4⟩))
        go_roundw
        case rel => exact ⟨k + 1, by omega, by go_num, HT, hBX.trans ((hb3.trans (hb4.mono hb3.size)).mono hBX.size)⟩
        case measure => simp [intOf]; omega
      · have g8 : (F != (k : Int)) = true := by simpa using h8
        have HZ := Lib.hid (HN.out (fun q => h8 (HFX.out.2 (HDEF.out.1 q).2.2)))
        clear h8 hF
        go_wp2_with (first
          | (go_at_call 37; (with_reducible refine HBV.out.mono ?_); rintro e w3 ⟨rfl, hb3⟩)
          | (go_at_call 38; (with_reducible refine (HFI.out _ hb3).mono ?_); rintro e w4 ⟨rfl, hb4⟩))
        go_ret
        exact ⟨ret_bool HZ.out.symm, hB1.trans ((hBX.trans ((hb3.trans (hb4.mono hb3.size)).mono hBX.size)).mono hB1.size)⟩
    · obtain rfl : k = h.sets.length := by omega
      have HR := Lib.hid (HOK.out HO.out)
      go_wp2_with fail
      go_ret
      exact ⟨ret_bool HR.out.symm, hB1.trans (hB.mono hB1.size)⟩
end Go.Proofs.YthldfijlcoobgaaGreat
namespace Go.Proofs.YthldfijlcoobgaaGreat
open Go.RowKit Go.Shelf
attribute [local go_sem] Oper.semAt_some

theorem runs_int_info : (Tryz.prog.info? 3).map (fun i => (i.zero, i.size, i.bytes)) = some (some (.int .i64 0), 1, 8) := by kernel_rfl
theorem made_count (n : Nat) : (madeCells (Value.int .i64 0).cells (n * 1)).toList = nflat (countTo n []) := by
  have e : ∀ m : Nat, nflat (List.replicate m 0) = List.replicate m (.int .i64 0) := fun m => by
    induction m with
    | zero => rfl
    | succ m ih => rw [List.replicate_succ, List.replicate_succ, ← ih]; rfl
  rw [countTo_nil, e, Nat.mul_one]
  exact toList_madeCells_one _ _
theorem nflat_set' : ∀ (X : List Int) (i : Nat) (v : Int), nflat (X.set i v) = (nflat X).set i (.int .i64 v)
  | [], _, _ => rfl
  | x :: X, 0, v => rfl
  | x :: X, i + 1, v => by
    have e : ∀ (y : Int) (Q : List Int), nflat (y :: Q) = .int .i64 y :: nflat Q := fun _ _ => rfl
    rw [List.set_cons_succ, e, e, List.set_cons_succ, nflat_set' X i v]
theorem ent_runs1 (args : Array Value) (w : World) : (callFunc 22 args).run Tryz.prog w = .ok (.enter 22 args) w := enters_of Tryz.func22 (by kernel_rfl) rfl args w
set_option maxHeartbeats 2000000 in
theorem runsame_any (b : Nat) (s : ByteArray) (y : SetR) (w : World) (h : w.cell? ⟨b, 0, none⟩ = some (.string s)) :
    Calls Tryz.prog 22 #[.agg #[.string y.name, .int .i64 y.depth, .int .i64 y.low, .int .i64 y.high, .int .i64 y.length, .slice y.la y.lines.length y.lc, .int .i64 y.pipe, .int .i64 y.arbor, .int .i64 y.purchase, .int .i64 y.most, .int .i64 y.brake, .slice y.ia y.items.length y.ic, .slice y.ba y.bricks.length y.bc], .pointer (some ⟨b, 0, none⟩)] w fun e w' => e = .returned (.bool (decide (y.name = s))) ∧ Below w.heap.size w w' := by
  have hlt : b < w.heap.size := World.block_lt_of_cell? _ _ h
  go_enter Tryz.func22, Tryz.ntmps22
  go_wp2_with fail
  go_ret
  exact ⟨ret_bool (str_eq _ _), below_new _ _⟩
theorem asks_runs {w : World} {b : Nat} {s : ByteArray} (h : w.cell? ⟨b, 0, none⟩ = some (.string s)) : AsksSet 22 #[.pointer (some ⟨b, 0, none⟩)] w.heap.size w (fun y => decide (y.name = s)) := by
  intro W r hb
  exact runsame_any b s r W ((hb.cell (p := ⟨b, 0, none⟩) (World.block_lt_of_cell? _ _ h)).trans h)
set_option maxRecDepth 100000 in
set_option maxHeartbeats 16000000 in
theorem runs_any (h : HouseR) (s : SheetR) (w : World) (hh : HouseIn w h) (hs : SheetIn0 w s) (hc : s.cues.length ≤ 1000) (hm : ∀ i, i < s.cues.length → (cg s.cues i).moves.length ≤ 1000) :
    Calls Tryz.prog 6 #[.agg #[.string h.name, .int .i64 h.height, .slice h.sa h.sets.length h.sc, .slice h.ra h.roofs.length h.rc], .agg #[.slice s.ca s.cues.length s.cc, .slice s.pa s.pairs.length s.pc]] w fun e w' => Hid (∃ v c, e = .returned (.tuple #[.slice v (runsX h s.cues).length c, .int .i64 (runsE h s.cues)]) ∧ Nums w'.heap.size w' v (runsX h s.cues)) ∧ Below w.heap.size w w' := by
  have HM := Lib.hid hm
  have hsl := hh.slen
  have hb0 : Below w.heap.size w ((w.alloc (.cells #[.string h.name, .int .i64 h.height, .slice h.sa h.sets.length h.sc, .slice h.ra h.roofs.length h.rc] 25)).alloc (.cells #[.slice s.ca s.cues.length s.cc, .slice s.pa s.pairs.length s.pc] 29)) := (below_new w _).alloc (by simp) _
  have hat : HouseAt ((w.alloc (.cells #[.string h.name, .int .i64 h.height, .slice h.sa h.sets.length h.sc, .slice h.ra h.roofs.length h.rc] 25)).alloc (.cells #[.slice s.ca s.cues.length s.cc, .slice s.pa s.pairs.length s.pc] 29)) w.heap.size h := (HouseAt.new w h _).carry (below_new _ _)
  have sat : SheetAt ((w.alloc (.cells #[.string h.name, .int .i64 h.height, .slice h.sa h.sets.length h.sc, .slice h.ra h.roofs.length h.rc] 25)).alloc (.cells #[.slice s.ca s.cues.length s.cc, .slice s.pa s.pairs.length s.pc] 29)) (w.heap.size + 1) s := by unfold SheetAt; simp
  have hz : ∀ E : Int, E ≠ 0 → runsE h s.cues = E → runsX h s.cues = [] := fun E h1 h2 => by unfold runsX; rw [h2, if_neg h1]
  have HH := Lib.hid (hh.grow hb0)
  have HS := Lib.hid (hs.grow hb0)
  have HNI : Hid (∀ (w' : World) (n₀ : Nat) (v : Option Addr), Nums n₀ w' v []) := Lib.hid fun _ _ _ => Nums.nil
  clear hm hh hs
  cases hv : houseB h
  · have hE : runsE h s.cues = 1 := by unfold runsE; rw [hv, if_neg (by decide)]
    have hX := hz 1 (by decide) hE
    rw [hE, hX]
    have HV := Lib.hid hv
    clear hv hE hX hz
    go_enter Tryz.func6, Tryz.ntmps6
    go_upto_region 1 with (fail)
    obtain ⟨W0, hW0⟩ : ∃ W0 : World, (w.alloc (.cells #[.string h.name, .int .i64 h.height, .slice h.sa h.sets.length h.sc, .slice h.ra h.roofs.length h.rc] 25)).alloc (.cells #[.slice s.ca s.cues.length s.cc, .slice s.pa s.pairs.length s.pc] 29) = W0 := ⟨_, rfl⟩
    simp only [hW0] at hb0 hat sat HH HS ⊢
    clear hW0
    obtain ⟨a0, a1, a2, a3⟩ := hat
    go_wp2_with (go_at_call 20; (with_reducible refine (housevalid_any h _ HH.out).mono ?_); rintro e w1 ⟨rfl, hb1⟩; rw [HV.out])
    go_ret2
    exact ⟨Lib.hid ⟨none, 0, rfl, HNI.out _ _ _⟩, hb0.trans (hb1.mono hb0.size)⟩
  · have HV := Lib.hid hv
    have hE0 : runsE h s.cues = if 60 < s.cues.length ∨ 100 < (movesOf s.cues).length then 4 else if allIn (idxs h.sets (movesOf s.cues)) = true then 0 else 9 := by unfold runsE; rw [hv, if_pos rfl]
    have HE0 := Lib.hid hE0
    have HZ := Lib.hid hz
    clear hv hE0 hz
    go_enter Tryz.func6, Tryz.ntmps6
    go_upto_region 1 with (fail)
    obtain ⟨W0, hW0⟩ : ∃ W0 : World, (w.alloc (.cells #[.string h.name, .int .i64 h.height, .slice h.sa h.sets.length h.sc, .slice h.ra h.roofs.length h.rc] 25)).alloc (.cells #[.slice s.ca s.cues.length s.cc, .slice s.pa s.pairs.length s.pc] 29) = W0 := ⟨_, rfl⟩
    simp only [hW0] at hb0 hat sat HH HS ⊢
    clear hW0
    obtain ⟨B1, hB1⟩ : ∃ b, w.heap.size = b := ⟨_, rfl⟩
    obtain ⟨B2, hB2⟩ : ∃ b, w.heap.size + 1 = b := ⟨_, rfl⟩
    rw [hB2] at sat ⊢
    rw [hB1] at hat ⊢
    have HAT := Lib.hid hat
    have HSA := Lib.hid sat
    obtain ⟨a0, a1, a2, a3⟩ := hat
    go_upto_region 4 with (go_at_call 20; (with_reducible refine (housevalid_any h _ HH.out).mono ?_); rintro e w1 ⟨rfl, hb1⟩; rw [HV.out])
    clear a0 a1 a2 a3 sat
    replace HAT := Lib.hid (HAT.out.carry hb1)
    replace HSA := Lib.hid (HSA.out.carry hb1)
    have HHW := Lib.hid (HH.out.grow hb1)
    have HSW := Lib.hid (HS.out.grow hb1)
    have hbw : Below w.heap.size w w1 := hb0.trans (hb1.mono hb0.size)
    have hB0w := hbw.size
    clear hb1 HH HS
    obtain ⟨s0, s1⟩ := HSA.out
    go_upto_region 5 with (fail)
    obtain ⟨W, rfl⟩ : ∃ W : World, W = w1 := ⟨_, rfl⟩
    go_loopw [6, 21] (fun ov iv wr => ∃ k : Nat, ov = .int .i64 ((movesOf (s.cues.take k)).length : Int) ∧ iv = .int .i64 k ∧ k ≤ s.cues.length ∧ (movesOf (s.cues.take k)).length ≤ 1000 * k ∧ Below W.heap.size W wr) (fun _ iv _ => s.cues.length - (intOf iv).toNat)
    case atStart => exact ⟨0, rfl, rfl, Nat.zero_le _, by simp [movesOf], Below.refl _ _⟩
    case round =>
      obtain ⟨k, rfl, rfl, hk, hml, hB⟩ := hrel
      by_cases hlt : k < s.cues.length
      · obtain ⟨cb, co, hca, hcb, hcc⟩ := HSW.out.lies (by omega)
        obtain ⟨e0, e1, e2, e3, e4, e5, e6⟩ := hcc k hlt
        have d0 := (hB.cell (p := ⟨cb, _, none⟩) hcb).trans e0
        have d1 := (hB.cell (p := ⟨cb, _, none⟩) hcb).trans e1
        have d2 := (hB.cell (p := ⟨cb, _, none⟩) hcb).trans e2
        have d3 := (hB.cell (p := ⟨cb, _, none⟩) hcb).trans e3
        have d4 := (hB.cell (p := ⟨cb, _, none⟩) hcb).trans e4
        have d5 := (hB.cell (p := ⟨cb, _, none⟩) hcb).trans e5
        have d6 := (hB.cell (p := ⟨cb, _, none⟩) hcb).trans e6
        have HN : Hid ((movesOf (s.cues.take (k + 1))).length = (movesOf (s.cues.take k)).length + (cg s.cues k).moves.length) := Lib.hid (by rw [movesOf_next _ hlt, List.length_append])
        have hmk := HM.out k hlt
        rw [hca]
        obtain ⟨q, hq⟩ : ∃ q, cg s.cues k = q := ⟨_, rfl⟩
        rw [hq] at d0 d1 d2 d3 d4 d5 d6 HN hmk
        obtain ⟨mt, hmt⟩ : ∃ m : Nat, (movesOf (s.cues.take k)).length = m := ⟨_, rfl⟩
        rw [hmt] at HN hml ⊢
        clear e0 e1 e2 e3 e4 e5 e6 hcc hq hmt
        go_wp2_with fail
        go_roundw
        case rel => exact ⟨k + 1, by rw [HN.out]; go_num, by go_num, by omega, by rw [HN.out]; omega, hB.alloc hB.size _⟩
        case measure => simp [intOf]; omega
      · obtain rfl : k = s.cues.length := by omega
        rw [List.take_length] at hml ⊢
        have hwr : Below w.heap.size w wr := hbw.trans (hB.mono hB0w)
        have HAT2 := Lib.hid (HAT.out.carry hB)
        have HSA2 := Lib.hid (HSA.out.carry hB)
        obtain ⟨s0, s1⟩ := HSA2.out
        by_cases hc60 : 60 < s.cues.length
        · have hE : runsE h s.cues = 4 := by rw [HE0.out, if_pos (.inl hc60)]
          have HX4 := Lib.hid (HZ.out 4 (by decide) hE)
          have HE4 := Lib.hid hE
          have g1 : decide (60 < (s.cues.length : Int)) = true := decide_eq_true (by omega)
          clear hE hc60 hml
          go_wp2_with fail
          go_ret2
          exact ⟨Lib.hid ⟨none, 0, by rw [HE4.out, HX4.out]; rfl, by rw [HX4.out]; exact HNI.out _ _ _⟩, hwr⟩
        · have g1 : decide (60 < (s.cues.length : Int)) = false := decide_eq_false (by omega)
          by_cases hm100 : 100 < (movesOf s.cues).length
          · have hE : runsE h s.cues = 4 := by rw [HE0.out, if_pos (.inr hm100)]
            have HX4 := Lib.hid (HZ.out 4 (by decide) hE)
            have HE4 := Lib.hid hE
            have g2 : decide (100 < ((movesOf s.cues).length : Int)) = true := decide_eq_true (by omega)
            clear hE hc60 hml hm100
            go_wp2_with fail
            go_ret2
            exact ⟨Lib.hid ⟨none, 0, by rw [HE4.out, HX4.out]; rfl, by rw [HX4.out]; exact HNI.out _ _ _⟩, hwr⟩
          · have g2 : decide (100 < ((movesOf s.cues).length : Int)) = false := decide_eq_false (by omega)
            have HE1 : Hid (runsE h s.cues = if allIn (idxs h.sets (movesOf s.cues)) = true then 0 else 9) := Lib.hid (by rw [HE0.out, if_neg (by omega)])
            have hm1 : (movesOf s.cues).length ≤ 100 := by omega
            have HE9 : Hid (∀ k m, k < s.cues.length → m < (cg s.cues k).moves.length → findS h.sets (mg (cg s.cues k).moves m).set = -1 → runsE h s.cues = 9) := Lib.hid fun k m hk hm hf => by
              rw [HE1.out, allIn_no (idx_in hk hm h.sets) (by rw [hf]; decide)]
              rfl
            have HSR := Lib.hid (HSW.out.grow hB)
            have HHR := Lib.hid (HHW.out.grow hB)
            obtain ⟨a0, a1, a2, a3⟩ := HAT2.out
            obtain ⟨i0, hi, hz1, hz2, hz3⟩ := info_parts runs_int_info
            clear hc60 hm100 hml
            go_upto_region 11 with (fail)
            go_upto_region 13 with (at_make; refine wpList_make_full _ rfl _ _ 32 rfl wr.heap.size 3 i0 (.int .i64 0) 1 Tryz.underlying32 hi hz1 hz2 _ _ _ _ h.sets.length rfl rfl rfl rfl (by rw [hz3]; omega) (by unfold maxLen; omega) (Nat.le_refl _) ?_; intro w3 hown3 hg3; have HD3 := Lib.hid (show w3.ownsRow wr.heap.size 3 1 (.slice (some ⟨wr.heap.size, 0, none⟩) h.sets.length h.sets.length) h.sets.length (nflat (countTo h.sets.length [])) by rw [← made_count]; exact hown3); have hb3 : Below wr.heap.size wr w3 := (Below.refl _ _).grown hg3 (Nat.le_refl _) (fun k e => by cases e); have s2 := (HSA2.out.carry hb3).1; clear hown3 hg3)
            have hgw : wr.heap.size < w3.heap.size := (HD3.out.lt _ rfl).2
            have HX : Hid (∀ w', Below wr.heap.size wr w' → HouseAt w' B1 h ∧ SheetAt w' B2 s ∧ SetRows wr.heap.size w' h.sa h.sets ∧ Cues wr.heap.size w' s.ca s.cues ∧ (∀ i, i < s.cues.length → Movs wr.heap.size w' (cg s.cues i).ma (cg s.cues i).moves) ∧ Below w.heap.size w w') := Lib.hid fun w' q => ⟨HAT2.out.carry q, HSA2.out.carry q, HHR.out.sets.below q, HSR.out.lies.below q, fun i hi => (HSR.out.each i hi).below q, hwr.trans (q.mono hwr.size)⟩
            clear HAT2 HSA2 HHR HSR HAT HSA HHW HSW a0 a1 a2 a3 s0 s1 hi hz1 hz2 hz3 i0 g1 g2 hwr hbw hB0w hb0 hB HE0 HZ HV
            obtain ⟨W1, rfl⟩ : ∃ W : World, W = wr := ⟨_, rfl⟩
            obtain ⟨g, hg⟩ : ∃ g, W1.heap.size = g := ⟨_, rfl⟩
            rw [hg] at HX HD3 hb3 hgw ⊢
            clear hg
            go_loopw [46] (fun iv wr => ∃ k : Nat, iv = .int .i64 k ∧ k ≤ s.cues.length ∧ Below g W1 wr ∧ g < wr.heap.size ∧ Hid (wr.ownsRow g 3 1 (.slice (some ⟨g, 0, none⟩) h.sets.length h.sets.length) h.sets.length (nflat (countTo h.sets.length (idxs h.sets (movesOf (s.cues.take k)))))) ∧ Hid (allIn (idxs h.sets (movesOf (s.cues.take k))) = true)) (fun iv _ => s.cues.length - (intOf iv).toNat)
            case atStart => exact ⟨0, rfl, Nat.zero_le _, hb3, hgw, Lib.hid (by rw [List.take_zero]; exact HD3.out), Lib.hid (by rw [List.take_zero]; rfl)⟩
            case round =>
              clear HD3 hb3 hgw s2
              obtain ⟨k, rfl, hk, hB, hgl, HR, HA⟩ := hrel
              by_cases hlt : k < s.cues.length
              · obtain ⟨⟨a0, a1, a2, a3⟩, -, -, hcu, hmv, -⟩ := HX.out _ hB
                obtain ⟨cb, co, hca, hcb, hcc⟩ := hcu (by omega)
                obtain ⟨d0, d1, d2, d3, d4, d5, d6⟩ := hcc k hlt
                have HNX : Hid (movesOf (s.cues.take (k + 1)) = movesOf (s.cues.take k) ++ (cg s.cues k).moves) := Lib.hid (movesOf_next _ hlt)
                have HIN : Hid (∀ m, m < (cg s.cues k).moves.length → findS h.sets (mg (cg s.cues k).moves m).set = -1 → runsE h s.cues = 9) := Lib.hid fun m hm hf => HE9.out k m hlt hm hf
                have HMV : Hid (∀ w', Below g W1 w' → Movs g w' (cg s.cues k).ma (cg s.cues k).moves) := Lib.hid fun w' q => (HX.out w' q).2.2.2.2.1 k hlt
                have hmk := HM.out k hlt
                rw [hca]
                obtain ⟨q, hq⟩ : ∃ q, cg s.cues k = q := ⟨_, rfl⟩
                rw [hq] at d0 d1 d2 d3 d4 d5 d6 HNX HIN HMV hmk
                clear hq hcc hmv hcu a0 a1 a2 a3
                have HKN : Hid (idxs h.sets (movesOf (s.cues.take (k + 1))) = idxs h.sets (movesOf (s.cues.take k)) ++ idxs h.sets q.moves) := Lib.hid (by rw [HNX.out, idxs_append])
                obtain ⟨K, hK⟩ : ∃ K, idxs h.sets (movesOf (s.cues.take k)) = K := ⟨_, rfl⟩
                rw [hK] at HR HA HKN
                have hkl : K.length ≤ 100 := by rw [← hK]; unfold idxs; rw [List.length_map]; have := movesOf_part s.cues k; omega
                clear hK HNX
                go_upto_region 16 with (fail)
                have hB2 : Below g W1 (wr.alloc (.cells #[.string q.name, .string q.after, .int .i64 q.link, .int .i64 q.delay, .slice q.ma q.moves.length q.mc, .int .i64 q.crew, .int .i64 q.power] 60)) := hB.alloc (by omega) _
                have hgl2 : g < (wr.alloc (.cells #[.string q.name, .string q.after, .int .i64 q.link, .int .i64 q.delay, .slice q.ma q.moves.length q.mc, .int .i64 q.crew, .int .i64 q.power] 60)).heap.size := by simp; omega
                have HR2 := Lib.hid (HR.out.alloc (.cells #[.string q.name, .string q.after, .int .i64 q.link, .int .i64 q.delay, .slice q.ma q.moves.length q.mc, .int .i64 q.crew, .int .i64 q.power] 60))
                clear d0 d1 d2 d3 d4 d5 d6 HR hB
                generalize wr.alloc (.cells #[.string q.name, .string q.after, .int .i64 q.link, .int .i64 q.delay, .slice q.ma q.moves.length q.mc, .int .i64 q.crew, .int .i64 q.power] 60) = w4 at *
                obtain ⟨B4, hB4⟩ : ∃ b, wr.heap.size = b := ⟨_, rfl⟩
                rw [hB4]
                clear hB4 hgl
                obtain ⟨wo, rfl⟩ : ∃ wo : World, wo = wr := ⟨_, rfl⟩
                go_loopw [53] (fun iv wr => ∃ m : Nat, iv = .int .i64 m ∧ m ≤ q.moves.length ∧ Below g W1 wr ∧ g < wr.heap.size ∧ Hid (wr.ownsRow g 3 1 (.slice (some ⟨g, 0, none⟩) h.sets.length h.sets.length) h.sets.length (nflat (countTo h.sets.length (K ++ idxs h.sets (q.moves.take m))))) ∧ Hid (allIn (K ++ idxs h.sets (q.moves.take m)) = true)) (fun iv _ => q.moves.length - (intOf iv).toNat)
                case atStart => exact ⟨0, rfl, Nat.zero_le _, hB2, hgl2, Lib.hid (by rw [List.take_zero, show idxs h.sets [] = [] from rfl, List.append_nil]; exact HR2.out), Lib.hid (by rw [List.take_zero, show idxs h.sets [] = [] from rfl, List.append_nil]; exact HA.out)⟩
                case round =>
                  clear HR2 hB2 hgl2 HA
                  obtain ⟨m, rfl, hm, hB, hgl, HR, HA⟩ := hrel
                  by_cases hlm : m < q.moves.length
                  · obtain ⟨⟨a0, a1, a2, a3⟩, -, hsr, -, -, hbw⟩ := HX.out _ hB
                    have hb1w : B1 < wr.heap.size := World.block_lt_of_cell? _ _ a2
                    obtain ⟨mb, mo, hma, hmb, hmc⟩ := HMV.out _ hB (by omega)
                    obtain ⟨d0, d1, d2, d3, d4⟩ := hmc m hlm
                    have HNX : Hid (K ++ idxs h.sets (q.moves.take (m + 1)) = (K ++ idxs h.sets (q.moves.take m)) ++ [findS h.sets (mg q.moves m).set]) := Lib.hid (by rw [idxs_snoc _ _ hlm, List.append_assoc])
                    have HI9 := Lib.hid (HIN.out m hlm)
                    have HSR := Lib.hid hsr
                    rw [hma]
                    obtain ⟨x, hx⟩ : ∃ x, mg q.moves m = x := ⟨_, rfl⟩
                    rw [hx] at d0 d1 d2 d3 d4 HNX HI9
                    obtain ⟨K2, hK2⟩ : ∃ K2, K ++ idxs h.sets (q.moves.take m) = K2 := ⟨_, rfl⟩
                    rw [hK2] at HR HA HNX
                    have hkl2 : K2.length ≤ 1100 := by rw [← hK2]; unfold idxs; rw [List.length_append, List.length_map, List.length_take]; omega
                    clear hx hK2 hmc hsr
                    have HB5 := Lib.hid (hB.alloc (by omega : g ≤ wr.heap.size) (.cells #[.string x.set, .int .i64 x.dest, .int .i64 x.speed, .int .i64 x.rise, .int .i64 x.fall] 63))
                    have HR5 := Lib.hid (HR.out.alloc (.cells #[.string x.set, .int .i64 x.dest, .int .i64 x.speed, .int .i64 x.rise, .int .i64 x.fall] 63))
                    have HW5 : Hid (SetRows (wr.alloc (.cells #[.string x.set, .int .i64 x.dest, .int .i64 x.speed, .int .i64 x.rise, .int .i64 x.fall] 63)).heap.size (wr.alloc (.cells #[.string x.set, .int .i64 x.dest, .int .i64 x.speed, .int .i64 x.rise, .int .i64 x.fall] 63)) h.sa h.sets) := Lib.hid ((((HX.out _ HB5.out).2.2.1).mono (by simp; omega)))
                    have HC5 : Hid (AsksSet 22 #[.pointer (some ⟨wr.heap.size, 0, none⟩)] (wr.alloc (.cells #[.string x.set, .int .i64 x.dest, .int .i64 x.speed, .int .i64 x.rise, .int .i64 x.fall] 63)).heap.size (wr.alloc (.cells #[.string x.set, .int .i64 x.dest, .int .i64 x.speed, .int .i64 x.rise, .int .i64 x.fall] 63)) (fun y => decide (y.name = x.set))) := Lib.hid (asks_runs (by simp))
                    have HQ : Hid (Calls Tryz.prog 21 #[.slice h.sa h.sets.length h.sc, .func (.func 22) #[] #[.pointer (some ⟨wr.heap.size, 0, none⟩)]] (wr.alloc (.cells #[.string x.set, .int .i64 x.dest, .int .i64 x.speed, .int .i64 x.rise, .int .i64 x.fall] 63)) fun e w' => e = .returned (.int .i64 (findS h.sets x.set)) ∧ Below (wr.alloc (.cells #[.string x.set, .int .i64 x.dest, .int .i64 x.speed, .int .i64 x.rise, .int .i64 x.fall] 63)).heap.size (wr.alloc (.cells #[.string x.set, .int .i64 x.dest, .int .i64 x.speed, .int .i64 x.rise, .int .i64 x.fall] 63)) w') := Lib.hid (set_indexFunc h.sa h.sets h.sc _ _ _ (fun y => decide (y.name = x.set)) _ ent_runs1 (by omega) (Nat.le_refl _) HW5.out HC5.out)
                    clear HW5 HC5 HSR HR hB
                    rcases findS_range h.sets x.set with hf | ⟨j, hj, hf⟩
                    · have HZ9 := Lib.hid (HI9.out hf)
                      have HX9 : Hid (runsX h s.cues = []) := Lib.hid (by unfold runsX; rw [HZ9.out, if_neg (by decide)])
                      rw [hf] at HQ
                      clear hf HI9
                      go_wp2_with (go_at_call 21; (with_reducible refine HQ.out.mono ?_); rintro e w6 ⟨rfl, hb6⟩)
                      go_ret2
                      have hB6 := HB5.out.trans (hb6.mono (by simp; omega))
                      exact ⟨Lib.hid ⟨none, 0, by rw [HZ9.out, HX9.out]; rfl, by rw [HX9.out]; exact HNI.out _ _ _⟩, (HX.out _ hB6).2.2.2.2.2⟩
                    · have HNS : Hid (countTo h.sets.length (K2 ++ [findS h.sets x.set]) = (countTo h.sets.length K2).set j (ig (countTo h.sets.length K2) j + 1)) := Lib.hid (by rw [hf]; exact countTo_snoc K2 hj)
                      have hcn : ig (countTo h.sets.length K2) j = cntK K2 j := countTo_at K2 hj
                      have HALL : Hid (allIn (K2 ++ [findS h.sets x.set]) = true) := Lib.hid (by rw [allIn_append, HA.out, hf]; unfold allIn; simp)
                      have hc1 := cntK_le K2 j
                      have s1 : IntKind.i64.wrap (ig (countTo h.sets.length K2) j + 1) = ig (countTo h.sets.length K2) j + 1 := IntWalk.i64_in _ (by omega)
                      have HCL : Hid ((countTo h.sets.length K2).length = h.sets.length) := Lib.hid (countTo_len _ _)
                      rw [hf] at HQ HNS HALL
                      rw [hf] at HNX
                      clear hf HI9 HA hcn hc1
                      go_upto_region 21 with (go_at_call 21; (with_reducible refine HQ.out.mono ?_); rintro e w6 ⟨rfl, hb6⟩)
                      have hB6 := HB5.out.trans (hb6.mono (by simp; omega))
                      have hs6 : wr.heap.size < w6.heap.size := by have := hb6.size; simp at this; omega
                      have HR6 := Lib.hid (ownsRow_below HR5.out hb6)
                      have o2 : w6.cell? ⟨g, j, none⟩ = some (.int .i64 (ig (countTo h.sets.length K2) j)) := by rw [HR6.out.cellAt j (by omega), nflat_at _ _ (by rw [HCL.out]; exact hj)]
                      have o3 := HR6.out.frozenAt j
                      have how : g < w6.heap.size := by omega
                      obtain ⟨v, hv⟩ : ∃ v, ig (countTo h.sets.length K2) j = v := ⟨_, rfl⟩
                      rw [hv] at o2 s1 HNS
                      clear hv
                      go_wp2_with fail
                      have HST := Lib.hid (show (w6.setCell ⟨g, j, none⟩ (.int .i64 (v + 1))).ownsRow g 3 1 (.slice (some ⟨g, 0, none⟩) h.sets.length h.sets.length) h.sets.length (nflat (countTo h.sets.length (K2 ++ [(j : Int)]))) by rw [HNS.out, nflat_set']; exact (HR6.out.stored j _).1)
                      go_roundw
                      case rel => exact ⟨m + 1, by go_num, by omega, hB6.setCell (show g ≤ (⟨g, j, none⟩ : Addr).block from Nat.le_refl _) _, by simp; omega, Lib.hid (by rw [HNX.out]; exact HST.out), Lib.hid (by rw [HNX.out]; exact HALL.out)⟩
                      case measure => simp [intOf]; omega
                  · obtain rfl : m = q.moves.length := by omega
                    rw [List.take_length] at HR HA
                    go_wp2_with fail
                    go_roundw
                    case rel => exact ⟨k + 1, by go_num, by omega, hB, hgl, Lib.hid (by rw [HKN.out]; exact HR.out), Lib.hid (by rw [HKN.out]; exact HA.out)⟩
                    case measure => simp [intOf]; omega
              · obtain rfl : k = s.cues.length := by omega
                rw [List.take_length] at HR HA
                have HE : Hid (runsE h s.cues = 0) := Lib.hid (by rw [HE1.out, HA.out]; rfl)
                have HXF : Hid (runsX h s.cues = countTo h.sets.length (idxs h.sets (movesOf s.cues))) := Lib.hid (by unfold runsX; rw [HE.out, if_pos rfl])
                go_wp2_with fail
                go_ret2
                obtain ⟨a, c, e1, _, _, _, e5⟩ := num_of_row (L := countTo h.sets.length (idxs h.sets (movesOf s.cues))) (by rw [countTo_len]; exact HR.out)
                rw [countTo_len] at e1
                exact ⟨Lib.hid ⟨a, c, by rw [HE.out, HXF.out, countTo_len, ← e1]; rfl, by rw [HXF.out]; exact e5⟩, (HX.out _ hB).2.2.2.2.2⟩
end Go.Proofs.YthldfijlcoobgaaGreat
