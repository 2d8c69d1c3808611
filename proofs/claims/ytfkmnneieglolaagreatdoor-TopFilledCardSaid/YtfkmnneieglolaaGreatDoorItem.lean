/-
  HOW SLICES OF ITEMS LIE IN MEMORY; slices.IndexFunc, ContainsFunc and Clone at them.
-/
import Derived.Test.YtfkmnneieglolaaGreatDoorSetP
namespace Go.Proofs.YtfkmnneieglolaaGreatDoor
open Go.RowKit Go.Shelf
attribute [local go_sem] Oper.semAt_some

/-! ### Slices of api.Item -/

def tg (L : List (ItemR)) (i : Nat) : ItemR := (L[i]?).getD ⟨⟨#[]⟩, 0, 0, 0, 0, 0, 0⟩
theorem tg_eq (L : List (ItemR)) (i : Nat) (h : i < L.length) : tg L i = L[i] := by unfold tg; rw [List.getElem?_eq_getElem h]; rfl
theorem tg_get {L : List (ItemR)} {i : Nat} (h : i < L.length) : L[i]? = some (tg L i) := by rw [tg_eq L i h, List.getElem?_eq_getElem h]
theorem tg_ext (F1 F2 : List (ItemR)) (hl : F1.length = F2.length) (h : ∀ j, j < F1.length → tg F1 j = tg F2 j) : F1 = F2 := by
  refine List.ext_getElem hl fun i h1 h2 => ?_
  have := h i h1
  rwa [tg_eq F1 i h1, tg_eq F2 i h2] at this
theorem tg_old (L : List (ItemR)) (x : ItemR) (i : Nat) (h : i < L.length) : tg (L ++ [x]) i = tg L i := by unfold tg; rw [List.getElem?_append_left h]
theorem tg_new (L : List (ItemR)) (x : ItemR) : tg (L ++ [x]) L.length = x := by unfold tg; simp
def itemV (r : ItemR) : Value := .agg #[.string r.name, .int .i64 r.pos, .int .i64 r.width, .int .i64 r.weight, .int .i64 r.hang, .int .i64 r.front, .int .i64 r.back]
def tflat (L : List (ItemR)) : List Value := L.flatMap fun r => [.string r.name, .int .i64 r.pos, .int .i64 r.width, .int .i64 r.weight, .int .i64 r.hang, .int .i64 r.front, .int .i64 r.back]
theorem tflat_at (L : List (ItemR)) (i : Nat) (hi : i < L.length) : (tflat L)[i * 7]? = some (.string (tg L i).name) ∧ (tflat L)[i * 7 + 1]? = some (.int .i64 (tg L i).pos) ∧ (tflat L)[i * 7 + 2]? = some (.int .i64 (tg L i).width) ∧ (tflat L)[i * 7 + 3]? = some (.int .i64 (tg L i).weight) ∧ (tflat L)[i * 7 + 4]? = some (.int .i64 (tg L i).hang) ∧ (tflat L)[i * 7 + 5]? = some (.int .i64 (tg L i).front) ∧ (tflat L)[i * 7 + 6]? = some (.int .i64 (tg L i).back) := by
  induction L generalizing i with
  | nil => simp at hi
  | cons x r ih =>
    match i with
    | 0 => exact ⟨rfl, rfl, rfl, rfl, rfl, rfl, rfl⟩
    | i + 1 =>
      have := ih i (by simpa using hi)
      have e : tflat (x :: r) = .string x.name :: .int .i64 x.pos :: .int .i64 x.width :: .int .i64 x.weight :: .int .i64 x.hang :: .int .i64 x.front :: .int .i64 x.back :: tflat r := rfl
      rw [e, show (i + 1) * 7 = i * 7 + 1 + 1 + 1 + 1 + 1 + 1 + 1 by omega]
      simpa [tg] using this
theorem tflat_snoc (L : List (ItemR)) (r : ItemR) : tflat (L ++ [r]) = tflat L ++ [.string r.name, .int .i64 r.pos, .int .i64 r.width, .int .i64 r.weight, .int .i64 r.hang, .int .i64 r.front, .int .i64 r.back] := by simp [tflat]
/-- The elements of a slice at address a are L; they lie in a block below n₀. -/
def Items (n₀ : Nat) (w : World) (a : Option Addr) (L : List (ItemR)) : Prop :=
  0 < L.length → ∃ b off, a = some ⟨b, off, none⟩ ∧ b < n₀ ∧ ∀ i, i < L.length → w.cell? ⟨b, off + i * 7, none⟩ = some (.string (tg L i).name) ∧ w.cell? ⟨b, off + i * 7 + 1, none⟩ = some (.int .i64 (tg L i).pos) ∧ w.cell? ⟨b, off + i * 7 + 2, none⟩ = some (.int .i64 (tg L i).width) ∧ w.cell? ⟨b, off + i * 7 + 3, none⟩ = some (.int .i64 (tg L i).weight) ∧ w.cell? ⟨b, off + i * 7 + 4, none⟩ = some (.int .i64 (tg L i).hang) ∧ w.cell? ⟨b, off + i * 7 + 5, none⟩ = some (.int .i64 (tg L i).front) ∧ w.cell? ⟨b, off + i * 7 + 6, none⟩ = some (.int .i64 (tg L i).back)
theorem Items.below {n₀ : Nat} {w w' : World} {a : Option Addr} {L : List (ItemR)} (h : Items n₀ w a L) (hb : Below n₀ w w') : Items n₀ w' a L := fun hl => by
  obtain ⟨b, off, rfl, hlt, hc⟩ := h hl
  refine ⟨b, off, rfl, hlt, fun i hi => ?_⟩
  obtain ⟨c0, c1, c2, c3, c4, c5, c6⟩ := hc i hi
  exact ⟨(hb.cell (p := ⟨b, _, none⟩) hlt).trans c0, (hb.cell (p := ⟨b, _, none⟩) hlt).trans c1, (hb.cell (p := ⟨b, _, none⟩) hlt).trans c2, (hb.cell (p := ⟨b, _, none⟩) hlt).trans c3, (hb.cell (p := ⟨b, _, none⟩) hlt).trans c4, (hb.cell (p := ⟨b, _, none⟩) hlt).trans c5, (hb.cell (p := ⟨b, _, none⟩) hlt).trans c6⟩
theorem Items.mono {n₀ n₁ : Nat} {w : World} {a : Option Addr} {L : List (ItemR)} (h : Items n₀ w a L) (hn : n₀ ≤ n₁) : Items n₁ w a L := fun hl => by
  obtain ⟨b, off, rfl, hlt, hc⟩ := h hl
  exact ⟨b, off, rfl, by omega, hc⟩
theorem Items.grow {w w' : World} {a : Option Addr} {L : List (ItemR)} (h : Items w.heap.size w a L) (hb : Below w.heap.size w w') : Items w'.heap.size w' a L := (h.below hb).mono hb.size
theorem Items.nil {n₀ : Nat} {w : World} {a : Option Addr} : Items n₀ w a [] := fun h => absurd h (Nat.not_lt_zero _)
/-- The first n of them. -/
theorem Items.take {n₀ : Nat} {w : World} {a : Option Addr} {L : List (ItemR)} (h : Items n₀ w a L) (n : Nat) : Items n₀ w a (L.take n) := fun hl => by
  have hl' : 0 < L.length := by rw [List.length_take] at hl; omega
  obtain ⟨b, off, rfl, hlt, hc⟩ := h hl'
  refine ⟨b, off, rfl, hlt, fun i hi => ?_⟩
  rw [List.length_take] at hi
  have e : tg (L.take n) i = tg L i := by unfold tg; rw [List.getElem?_take, if_pos (by omega)]
  rw [e]
  exact hc i (by omega)
theorem item_len (L : List (ItemR)) : (tflat L).length = L.length * 7 := by
  induction L with
  | nil => rfl
  | cons x r ih =>
    have e : tflat (x :: r) = .string x.name :: .int .i64 x.pos :: .int .i64 x.width :: .int .i64 x.weight :: .int .i64 x.hang :: .int .i64 x.front :: .int .i64 x.back :: tflat r := rfl
    rw [e]
    simp only [List.length_cons, ih]
    try omega
theorem item_one (L : List (ItemR)) : ∀ u ∈ tflat L, u.oneCell' = true := by
  induction L with
  | nil => intro u hu; cases hu
  | cons x r ih =>
    have e : tflat (x :: r) = .string x.name :: .int .i64 x.pos :: .int .i64 x.width :: .int .i64 x.weight :: .int .i64 x.hang :: .int .i64 x.front :: .int .i64 x.back :: tflat r := rfl
    rw [e]
    intro u hu
    simp only [List.mem_cons] at hu
    rcases hu with rfl | rfl | rfl | rfl | rfl | rfl | rfl | hu
    · rfl
    · rfl
    · rfl
    · rfl
    · rfl
    · rfl
    · rfl
    · exact ih u hu
/-- A slice of records: its cells, one behind the other. -/
theorem item_cells {n₀ : Nat} {w : World} {b off : Nat} {L : List (ItemR)} (h : Items n₀ w (some ⟨b, off, none⟩) L) : ∀ j u, (tflat L)[j]? = some u → w.cell? ((⟨b, off, none⟩ : Addr).add j) = some u := by
  intro j u hj
  have hlt : j < L.length * 7 := by
    rw [← item_len]
    exact (List.getElem?_eq_some_iff.1 hj).1
  obtain ⟨b', off', e, _, hc⟩ := h (by omega)
  simp only [Option.some.injEq, Addr.mk.injEq, and_true] at e
  obtain ⟨rfl, rfl⟩ := e
  rw [Go.WideShapes.add_plain]
  obtain ⟨f0, f1, f2, f3, f4, f5, f6⟩ := tflat_at L (j / 7) (by omega)
  obtain ⟨c0, c1, c2, c3, c4, c5, c6⟩ := hc (j / 7) (by omega)
  rcases (show j = j / 7 * 7 ∨ j = j / 7 * 7 + 1 ∨ j = j / 7 * 7 + 2 ∨ j = j / 7 * 7 + 3 ∨ j = j / 7 * 7 + 4 ∨ j = j / 7 * 7 + 5 ∨ j = j / 7 * 7 + 6 by omega) with e | e | e | e | e | e | e
  · first | (rw [e, f0] at hj; rw [e, c0]; exact hj) | (rw [e, f0] at hj; rw [e, ← Nat.add_assoc, c0]; exact hj)
  · first | (rw [e, f1] at hj; rw [e, c1]; exact hj) | (rw [e, f1] at hj; rw [e, ← Nat.add_assoc, c1]; exact hj)
  · first | (rw [e, f2] at hj; rw [e, c2]; exact hj) | (rw [e, f2] at hj; rw [e, ← Nat.add_assoc, c2]; exact hj)
  · first | (rw [e, f3] at hj; rw [e, c3]; exact hj) | (rw [e, f3] at hj; rw [e, ← Nat.add_assoc, c3]; exact hj)
  · first | (rw [e, f4] at hj; rw [e, c4]; exact hj) | (rw [e, f4] at hj; rw [e, ← Nat.add_assoc, c4]; exact hj)
  · first | (rw [e, f5] at hj; rw [e, c5]; exact hj) | (rw [e, f5] at hj; rw [e, ← Nat.add_assoc, c5]; exact hj)
  · first | (rw [e, f6] at hj; rw [e, c6]; exact hj) | (rw [e, f6] at hj; rw [e, ← Nat.add_assoc, c6]; exact hj)
/-- A row of the call's own reads so. -/
theorem item_of_row {w : World} {base : Nat} {v : Value} {L : List (ItemR)} (h : w.ownsRow base 59 7 v L.length (tflat L)) : ∃ a cap, v = .slice a L.length cap ∧ L.length ≤ cap ∧ cap ≤ maxLen ∧ (a = none → cap = 0) ∧ Items w.heap.size w a L := by
  rcases h.2 with ⟨rfl, h0⟩ | ⟨g, cap, cur, rfl, hb, hg, h1, h2, _⟩
  · exact ⟨none, 0, by rw [h0], by omega, by unfold maxLen; omega, fun _ => rfl, fun hl => by omega⟩
  · refine ⟨_, cap, rfl, h1, h2, (fun e => by cases e), fun _ => ⟨g, 0, rfl, (Array.getElem?_eq_some_iff.1 hg).1, fun i hi => ?_⟩⟩
    obtain ⟨f0, f1, f2, f3, f4, f5, f6⟩ := tflat_at L i hi
    have c0 := h.cellAt (i * 7) (by omega)
    have c1 := h.cellAt (i * 7 + 1) (by omega)
    have c2 := h.cellAt (i * 7 + 2) (by omega)
    have c3 := h.cellAt (i * 7 + 3) (by omega)
    have c4 := h.cellAt (i * 7 + 4) (by omega)
    have c5 := h.cellAt (i * 7 + 5) (by omega)
    have c6 := h.cellAt (i * 7 + 6) (by omega)
    rw [f0] at c0
    rw [f1] at c1
    rw [f2] at c2
    rw [f3] at c3
    rw [f4] at c4
    rw [f5] at c5
    rw [f6] at c6
    rw [Nat.zero_add]
    exact ⟨c0, c1, c2, c3, c4, c5, c6⟩
/-- A closure that asks p of an element, wherever it is called later. -/
def AsksI (g : Nat) (cb : Array Value) (n₀ : Nat) (w : World) (p : ItemR → Bool) : Prop :=
  ∀ (W : World) (r : ItemR), Below n₀ w W → Calls Tryz.prog g (#[itemV r] ++ cb) W fun e w' => e = .returned (.bool (p r)) ∧ Below W.heap.size W w'
theorem item_asks_mono {g : Nat} {cb : Array Value} {n₀ n₁ : Nat} {w : World} {p : ItemR → Bool} (h : AsksI g cb n₀ w p) (hn : n₀ ≤ n₁) : AsksI g cb n₁ w p := fun W r hb => h W r (hb.mono hn)
theorem item_asks_below {g : Nat} {cb : Array Value} {n₀ : Nat} {w w' : World} {p : ItemR → Bool} (h : AsksI g cb n₀ w p) (hb : Below n₀ w w') : AsksI g cb n₀ w' p := fun W r hb' => h W r (hb.trans hb')
/-- The first index at which p holds; -1 if there is none. -/
def item_first (L : List (ItemR)) (p : ItemR → Bool) : Int := match (List.range L.length).find? (fun i => p (tg L i)) with
  | some i => i
  | none => -1
theorem item_first_hit (L : List (ItemR)) (p : ItemR → Bool) (k : Nat) (hk : k < L.length) (h : p (tg L k) = true) (hn : ∀ j, j < k → p (tg L j) = false) : item_first L p = k := by
  unfold item_first
  have : (List.range L.length).find? (fun i => p (tg L i)) = some k := by
    rw [List.find?_eq_some_iff_getElem]
    refine ⟨by simpa using h, k, by simpa using hk, by simp, fun j hj => ?_⟩
    simpa using hn j hj
  rw [this]
theorem item_first_miss (L : List (ItemR)) (p : ItemR → Bool) (hn : ∀ j, j < L.length → p (tg L j) = false) : item_first L p = -1 := by
  unfold item_first
  have : (List.range L.length).find? (fun i => p (tg L i)) = none := by
    rw [List.find?_eq_none]
    intro x hx
    simpa using hn x (by simpa using hx)
  rw [this]
theorem item_first_cases (L : List (ItemR)) (p : ItemR → Bool) : (item_first L p = -1 ∧ ∀ j, j < L.length → p (tg L j) = false) ∨ ∃ k : Nat, k < L.length ∧ item_first L p = k ∧ p (tg L k) = true ∧ ∀ j, j < k → p (tg L j) = false := by
  have main : ∀ n, n ≤ L.length → (∀ j, j < n → p (tg L j) = false) ∨ ∃ k, k < n ∧ p (tg L k) = true ∧ ∀ j, j < k → p (tg L j) = false := by
    intro n
    induction n with
    | zero => exact fun _ => .inl fun j hj => absurd hj (Nat.not_lt_zero _)
    | succ n ih =>
      intro hn
      rcases ih (by omega) with h | ⟨k, hk, h1, h2⟩
      · cases e : p (tg L n)
        · refine .inl fun j hj => ?_
          rcases Nat.lt_or_ge j n with l | l
          · exact h j l
          · obtain rfl : j = n := by omega
            exact e
        · exact .inr ⟨n, by omega, e, h⟩
      · exact .inr ⟨k, by omega, h1, h2⟩
  rcases main L.length (Nat.le_refl _) with h | ⟨k, hk, h1, h2⟩
  · exact .inl ⟨item_first_miss L p h, h⟩
  · exact .inr ⟨k, hk, item_first_hit L p k hk h1 h2, h1, h2⟩
def item_any (L : List (ItemR)) (p : ItemR → Bool) : Bool := decide (0 ≤ item_first L p)
theorem item_any_eq (L : List (ItemR)) (p : ItemR → Bool) : item_any L p = L.any p := by
  unfold item_any
  rw [Bool.eq_iff_iff, List.any_eq_true, decide_eq_true_eq]
  rcases item_first_cases L p with ⟨h, h2⟩ | ⟨k, hk, h, h1, _⟩
  · rw [h]
    refine ⟨fun h => by omega, fun ⟨x, hx, hp⟩ => ?_⟩
    obtain ⟨j, hj, e⟩ := List.getElem_of_mem hx
    have := h2 j hj
    rw [tg_eq L j hj, e, hp] at this
    cases this
  · rw [h]
    exact ⟨fun _ => ⟨_, by rw [tg_eq L k hk]; exact List.getElem_mem hk, h1⟩, fun _ => by omega⟩

set_option maxHeartbeats 2000000 in
theorem item_indexFunc (a : Option Addr) (L : List (ItemR)) (cap n₀ g : Nat) (cb : Array Value) (p : ItemR → Bool) (w : World) (eg : ∀ args w, (callFunc g args).run Tryz.prog w = .ok (.enter g args) w)
    (hl : L.length ≤ 1100) (hn₀ : n₀ ≤ w.heap.size) (hI : Items n₀ w a L) (hp : AsksI g cb n₀ w p) :
    Calls Tryz.prog 102 #[.slice a L.length cap, .func (.func g) #[] cb] w fun e w' => e = .returned (.int .i64 (item_first L p)) ∧ Below w.heap.size w w' := by
  have HI := Lib.hid hI; clear hI
  have HP := Lib.hid hp; clear hp
  go_enter Tryz.func102, Tryz.ntmps102
  go_wp2
  go_loopw [8] (fun i wr => ∃ k : Nat, k ≤ L.length ∧ i = .int .i64 k ∧ Below w.heap.size w wr ∧ Hid (∀ j, j < k → p (tg L j) = false)) (fun i _ => L.length - (intOf i).toNat)
  case atStart => exact ⟨0, Nat.zero_le _, rfl, Below.refl _ _, Lib.hid (fun _ h => absurd h (Nat.not_lt_zero _))⟩
  case round =>
    obtain ⟨k, hk, rfl, hB, HA⟩ := hrel
    by_cases hlt : k < L.length
    · obtain ⟨b, off, rfl, hb, hc⟩ := HI.out (by omega)
      obtain ⟨c0, c1, c2, c3, c4, c5, c6⟩ := hc k hlt
      have d0 := (hB.cell (p := ⟨b, off + k * 7, none⟩) (show b < w.heap.size by omega)).trans c0
      have d1 := (hB.cell (p := ⟨b, off + k * 7 + 1, none⟩) (show b < w.heap.size by omega)).trans c1
      have d2 := (hB.cell (p := ⟨b, off + k * 7 + 2, none⟩) (show b < w.heap.size by omega)).trans c2
      have d3 := (hB.cell (p := ⟨b, off + k * 7 + 3, none⟩) (show b < w.heap.size by omega)).trans c3
      have d4 := (hB.cell (p := ⟨b, off + k * 7 + 4, none⟩) (show b < w.heap.size by omega)).trans c4
      have d5 := (hB.cell (p := ⟨b, off + k * 7 + 5, none⟩) (show b < w.heap.size by omega)).trans c5
      have d6 := (hB.cell (p := ⟨b, off + k * 7 + 6, none⟩) (show b < w.heap.size by omega)).trans c6
      clear c0 c1 c2 c3 c4 c5 c6 hc
      have HC := Lib.hid (show Calls Tryz.prog g (#[.agg #[.string (tg L k).name, .int .i64 (tg L k).pos, .int .i64 (tg L k).width, .int .i64 (tg L k).weight, .int .i64 (tg L k).hang, .int .i64 (tg L k).front, .int .i64 (tg L k).back]] ++ cb) wr _ from HP.out wr (tg L k) (hB.mono hn₀))
      obtain ⟨bv, hbv⟩ : ∃ bv, p (tg L k) = bv := ⟨_, rfl⟩
      rw [hbv] at HC
      cases bv
      · have HB : Hid (∀ j, j < k + 1 → p (tg L j) = false) := Lib.hid fun j hj => by
          rcases Nat.lt_or_ge j k with l | l
          · exact HA.out j l
          · obtain rfl : j = k := by omega
            exact hbv
        clear hbv
        go_wp2_with ((with_reducible refine HC.out.mono ?_); rintro e w1 ⟨rfl, hb1⟩)
        go_roundw
        case rel => exact ⟨k + 1, by omega, by go_num, hB.trans (hb1.mono hB.size), HB⟩
        case measure => simp [intOf]; omega
      · have H := Lib.hid (item_first_hit L p k hlt hbv HA.out)
        clear hbv
        go_wp2_with ((with_reducible refine HC.out.mono ?_); rintro e w1 ⟨rfl, hb1⟩)
        go_ret
        exact ⟨ret_int H.out.symm, hB.trans (hb1.mono hB.size)⟩
    · obtain rfl : k = L.length := by omega
      have H := Lib.hid (item_first_miss L p HA.out)
      go_wp2
      go_ret
      exact ⟨ret_int H.out.symm, hB⟩

set_option maxHeartbeats 1000000 in
theorem item_containsFunc (a : Option Addr) (L : List (ItemR)) (cap n₀ g : Nat) (cb : Array Value) (p : ItemR → Bool) (w : World) (eg : ∀ args w, (callFunc g args).run Tryz.prog w = .ok (.enter g args) w)
    (hl : L.length ≤ 1100) (hn₀ : n₀ ≤ w.heap.size) (hI : Items n₀ w a L) (hp : AsksI g cb n₀ w p) :
    Calls Tryz.prog 80 #[.slice a L.length cap, .func (.func g) #[] cb] w fun e w' => e = .returned (.bool (item_any L p)) ∧ Below w.heap.size w w' := by
  have HC := Lib.hid (item_indexFunc a L cap n₀ g cb p w eg hl hn₀ hI hp)
  clear hI hp eg
  go_enter Tryz.func80, Tryz.ntmps80
  go_wp2_with (go_at_call 102; (with_reducible refine HC.out.mono ?_); rintro e w1 ⟨rfl, hb1⟩)
  go_ret
  exact ⟨rfl, hb1⟩

theorem item_info : (Tryz.prog.info? 59).map (fun i => (i.zero, i.size, i.bytes)) = some (some (.agg #[.string ⟨#[]⟩, .int .i64 0, .int .i64 0, .int .i64 0, .int .i64 0, .int .i64 0, .int .i64 0]), 7, 64) := by kernel_rfl

set_option maxHeartbeats 2000000 in
theorem item_clone (a : Option Addr) (L : List (ItemR)) (cap : Nat) (w : World) (hlen : L.length ≤ 1100) (hnil : a = none → cap = 0) (hI : Items w.heap.size w a L) :
    Calls Tryz.prog 27 #[.slice a L.length cap] w fun e w' => Hid (∃ v, e = .returned v ∧ w'.ownsRow w.heap.size 59 7 v L.length (tflat L) ∧ Below w.heap.size w w') := by
  obtain ⟨i0, hi, hz0, hz1, hz2⟩ := info_parts item_info
  cases a with
  | none =>
    have h0 : L.length = 0 := by
      rcases Nat.eq_zero_or_pos L.length with h | h
      · exact h
      · obtain ⟨b, off, e, _⟩ := hI h
        cases e
    obtain rfl : L = [] := List.eq_nil_of_length_eq_zero h0
    obtain rfl := hnil rfl
    clear hI h0 hnil
    have hne := fun (w : World) => Lib.run_eql_slice_nil (P := Tryz.prog) w 23 59 none 0 0 0 0 Tryz.underlying23
    go_enter Tryz.func27, Tryz.ntmps27
    go_wp2
    go_ret
    exact Lib.hid ⟨_, rfl, World.ownsRow_nil _ _ _ _, Below.refl _ _⟩
  | some ad =>
    have HI := Lib.hid hI; clear hI
    have hne := fun (w : World) => Lib.run_eql_slice_nil (P := Tryz.prog) w 23 59 (some ad) L.length cap 0 0 Tryz.underlying23
    have hnews : ∀ j u, (tflat L)[j]? = some u → (w.alloc (.cells #[] 59)).cell? (ad.add j) = some u := fun j u hj => by
      have hlt : j < L.length * 7 := by
        rw [← item_len]
        exact (List.getElem?_eq_some_iff.1 hj).1
      obtain ⟨b, off, e, _⟩ := HI.out (by omega)
      cases e
      have h1 := item_cells HI.out j u hj
      rw [Go.WideShapes.add_plain] at h1 ⊢
      exact (World.cell?_alloc_lt _ _ _ (World.block_lt_of_cell? w _ h1)).trans h1
    have HN := Lib.hid hnews; clear hnews
    go_enter Tryz.func27, Tryz.ntmps27
    go_wp2_with (at_builtin; refine wpList_append_own _ rfl _ _ 23 rfl w.heap.size 59 i0 (.agg #[.string ⟨#[]⟩, .int .i64 0, .int .i64 0, .int .i64 0, .int .i64 0, .int .i64 0, .int .i64 0]) 7 64 Tryz.underlying23 hi hz0 hz1 hz2 rfl (by decide) _ 0 [] rfl (World.ownsRow_lit w #[] 0 (Nat.le_refl _) (by unfold maxLen; omega) rfl) ad L.length cap (tflat L) rfl (item_len L) HN.out (item_one L) (by unfold maxLen; omega) (by omega) (by simp) ?_; intro v' w1 hown1 hgrow1 _)
    go_ret
    rw [Nat.zero_add, List.nil_append] at hown1
    exact Lib.hid ⟨_, rfl, hown1, ((Below.refl _ w).alloc (Nat.le_refl _) _).grown hgrow1 (by simp) (fun k e => by cases e; exact Nat.le_refl _)⟩
end Go.Proofs.YtfkmnneieglolaaGreatDoor
