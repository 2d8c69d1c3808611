/-
  append of one element to a row of the call's own, at numbers, names, findings, pairs; bools: how they lie.
-/
import Derived.Test.YtapjhjpibefooaaEq
namespace Go.Proofs.Ytapjhjpibefooaa
open Go.RowKit Go.Shelf

/-! ### Slices of bool -/

def bg (L : List (Bool)) (i : Nat) : Bool := (L[i]?).getD false
theorem bg_eq (L : List (Bool)) (i : Nat) (h : i < L.length) : bg L i = L[i] := by unfold bg; rw [List.getElem?_eq_getElem h]; rfl
theorem bg_get {L : List (Bool)} {i : Nat} (h : i < L.length) : L[i]? = some (bg L i) := by rw [bg_eq L i h, List.getElem?_eq_getElem h]
theorem bg_ext (F1 F2 : List (Bool)) (hl : F1.length = F2.length) (h : ∀ j, j < F1.length → bg F1 j = bg F2 j) : F1 = F2 := by
  refine List.ext_getElem hl fun i h1 h2 => ?_
  have := h i h1
  rwa [bg_eq F1 i h1, bg_eq F2 i h2] at this
theorem bg_old (L : List (Bool)) (x : Bool) (i : Nat) (h : i < L.length) : bg (L ++ [x]) i = bg L i := by unfold bg; rw [List.getElem?_append_left h]
theorem bg_new (L : List (Bool)) (x : Bool) : bg (L ++ [x]) L.length = x := by unfold bg; simp
def bitV (r : Bool) : Value := .bool r
def bflat (L : List (Bool)) : List Value := L.flatMap fun r => [.bool r]
theorem bflat_at (L : List (Bool)) (i : Nat) (hi : i < L.length) : (bflat L)[i]? = some (.bool (bg L i)) := by
  induction L generalizing i with
  | nil => simp at hi
  | cons x r ih =>
    match i with
    | 0 => exact rfl
    | i + 1 =>
      have := ih i (by simpa using hi)
      have e : bflat (x :: r) = .bool x :: bflat r := rfl
      rw [e, show (i + 1) = i + 1 by omega]
      simpa [bg] using this
theorem bflat_snoc (L : List (Bool)) (r : Bool) : bflat (L ++ [r]) = bflat L ++ [.bool r] := by simp [bflat]
/-- The elements of a slice at address a are L; they lie in a block below n₀. -/
def Bits (n₀ : Nat) (w : World) (a : Option Addr) (L : List (Bool)) : Prop :=
  0 < L.length → ∃ b off, a = some ⟨b, off, none⟩ ∧ b < n₀ ∧ ∀ i, i < L.length → w.cell? ⟨b, off + i, none⟩ = some (.bool (bg L i))
theorem Bits.below {n₀ : Nat} {w w' : World} {a : Option Addr} {L : List (Bool)} (h : Bits n₀ w a L) (hb : Below n₀ w w') : Bits n₀ w' a L := fun hl => by
  obtain ⟨b, off, rfl, hlt, hc⟩ := h hl
  refine ⟨b, off, rfl, hlt, fun i hi => ?_⟩
  have c0 := hc i hi
  exact (hb.cell (p := ⟨b, _, none⟩) hlt).trans c0
theorem Bits.mono {n₀ n₁ : Nat} {w : World} {a : Option Addr} {L : List (Bool)} (h : Bits n₀ w a L) (hn : n₀ ≤ n₁) : Bits n₁ w a L := fun hl => by
  obtain ⟨b, off, rfl, hlt, hc⟩ := h hl
  exact ⟨b, off, rfl, by omega, hc⟩
theorem Bits.grow {w w' : World} {a : Option Addr} {L : List (Bool)} (h : Bits w.heap.size w a L) (hb : Below w.heap.size w w') : Bits w'.heap.size w' a L := (h.below hb).mono hb.size
theorem Bits.nil {n₀ : Nat} {w : World} {a : Option Addr} : Bits n₀ w a [] := fun h => absurd h (Nat.not_lt_zero _)
/-- The first n of them. -/
theorem Bits.take {n₀ : Nat} {w : World} {a : Option Addr} {L : List (Bool)} (h : Bits n₀ w a L) (n : Nat) : Bits n₀ w a (L.take n) := fun hl => by
  have hl' : 0 < L.length := by rw [List.length_take] at hl; omega
  obtain ⟨b, off, rfl, hlt, hc⟩ := h hl'
  refine ⟨b, off, rfl, hlt, fun i hi => ?_⟩
  rw [List.length_take] at hi
  have e : bg (L.take n) i = bg L i := by unfold bg; rw [List.getElem?_take, if_pos (by omega)]
  rw [e]
  exact hc i (by omega)
theorem bit_len (L : List (Bool)) : (bflat L).length = L.length := by
  induction L with
  | nil => rfl
  | cons x r ih =>
    have e : bflat (x :: r) = .bool x :: bflat r := rfl
    rw [e]
    simp only [List.length_cons, ih]
    try omega
theorem bit_one (L : List (Bool)) : ∀ u ∈ bflat L, u.oneCell' = true := by
  induction L with
  | nil => intro u hu; cases hu
  | cons x r ih =>
    have e : bflat (x :: r) = .bool x :: bflat r := rfl
    rw [e]
    intro u hu
    simp only [List.mem_cons] at hu
    rcases hu with rfl | hu
    · rfl
    · exact ih u hu
/-- A slice of records: its cells, one behind the other. -/
theorem bit_cells {n₀ : Nat} {w : World} {b off : Nat} {L : List (Bool)} (h : Bits n₀ w (some ⟨b, off, none⟩) L) : ∀ j u, (bflat L)[j]? = some u → w.cell? ((⟨b, off, none⟩ : Addr).add j) = some u := by
  intro j u hj
  have hlt : j < L.length := by
    rw [← bit_len]
    exact (List.getElem?_eq_some_iff.1 hj).1
  obtain ⟨b', off', e, _, hc⟩ := h (by omega)
  simp only [Option.some.injEq, Addr.mk.injEq, and_true] at e
  obtain ⟨rfl, rfl⟩ := e
  rw [Go.WideShapes.add_plain]
  have f0 := bflat_at L j hlt
  have c0 := hc j hlt
  rw [f0] at hj; rw [c0]; exact hj
/-- A row of the call's own reads so. -/
theorem bit_of_row {w : World} {base : Nat} {v : Value} {L : List (Bool)} (h : w.ownsRow base 4 1 v L.length (bflat L)) : ∃ a cap, v = .slice a L.length cap ∧ L.length ≤ cap ∧ cap ≤ maxLen ∧ (a = none → cap = 0) ∧ Bits w.heap.size w a L := by
  rcases h.2 with ⟨rfl, h0⟩ | ⟨g, cap, cur, rfl, hb, hg, h1, h2, _⟩
  · exact ⟨none, 0, by rw [h0], by omega, by unfold maxLen; omega, fun _ => rfl, fun hl => by omega⟩
  · refine ⟨_, cap, rfl, h1, h2, (fun e => by cases e), fun _ => ⟨g, 0, rfl, (Array.getElem?_eq_some_iff.1 hg).1, fun i hi => ?_⟩⟩
    have f0 := bflat_at L i hi
    have c0 := h.cellAt (i) (by omega)
    rw [f0] at c0
    rw [Nat.zero_add]
    exact c0
/-- A closure that asks p of an element, wherever it is called later. -/
def AsksB (g : Nat) (cb : Array Value) (n₀ : Nat) (w : World) (p : Bool → Bool) : Prop :=
  ∀ (W : World) (r : Bool), Below n₀ w W → Calls Try.prog g (#[bitV r] ++ cb) W fun e w' => e = .returned (.bool (p r)) ∧ Below W.heap.size W w'
theorem bit_asks_mono {g : Nat} {cb : Array Value} {n₀ n₁ : Nat} {w : World} {p : Bool → Bool} (h : AsksB g cb n₀ w p) (hn : n₀ ≤ n₁) : AsksB g cb n₁ w p := fun W r hb => h W r (hb.mono hn)
theorem bit_asks_below {g : Nat} {cb : Array Value} {n₀ : Nat} {w w' : World} {p : Bool → Bool} (h : AsksB g cb n₀ w p) (hb : Below n₀ w w') : AsksB g cb n₀ w' p := fun W r hb' => h W r (hb.trans hb')
/-- The first index at which p holds; -1 if there is none. -/
def bit_first (L : List (Bool)) (p : Bool → Bool) : Int := match (List.range L.length).find? (fun i => p (bg L i)) with
  | some i => i
  | none => -1
theorem bit_first_hit (L : List (Bool)) (p : Bool → Bool) (k : Nat) (hk : k < L.length) (h : p (bg L k) = true) (hn : ∀ j, j < k → p (bg L j) = false) : bit_first L p = k := by
  unfold bit_first
  have : (List.range L.length).find? (fun i => p (bg L i)) = some k := by
    rw [List.find?_eq_some_iff_getElem]
    refine ⟨by simpa using h, k, by simpa using hk, by simp, fun j hj => ?_⟩
    simpa using hn j hj
  rw [this]
theorem bit_first_miss (L : List (Bool)) (p : Bool → Bool) (hn : ∀ j, j < L.length → p (bg L j) = false) : bit_first L p = -1 := by
  unfold bit_first
  have : (List.range L.length).find? (fun i => p (bg L i)) = none := by
    rw [List.find?_eq_none]
    intro x hx
    simpa using hn x (by simpa using hx)
  rw [this]
theorem bit_first_cases (L : List (Bool)) (p : Bool → Bool) : (bit_first L p = -1 ∧ ∀ j, j < L.length → p (bg L j) = false) ∨ ∃ k : Nat, k < L.length ∧ bit_first L p = k ∧ p (bg L k) = true ∧ ∀ j, j < k → p (bg L j) = false := by
  have main : ∀ n, n ≤ L.length → (∀ j, j < n → p (bg L j) = false) ∨ ∃ k, k < n ∧ p (bg L k) = true ∧ ∀ j, j < k → p (bg L j) = false := by
    intro n
    induction n with
    | zero => exact fun _ => .inl fun j hj => absurd hj (Nat.not_lt_zero _)
    | succ n ih =>
      intro hn
      rcases ih (by omega) with h | ⟨k, hk, h1, h2⟩
      · cases e : p (bg L n)
        · refine .inl fun j hj => ?_
          rcases Nat.lt_or_ge j n with l | l
          · exact h j l
          · obtain rfl : j = n := by omega
            exact e
        · exact .inr ⟨n, by omega, e, h⟩
      · exact .inr ⟨k, by omega, h1, h2⟩
  rcases main L.length (Nat.le_refl _) with h | ⟨k, hk, h1, h2⟩
  · exact .inl ⟨bit_first_miss L p h, h⟩
  · exact .inr ⟨k, hk, bit_first_hit L p k hk h1 h2, h1, h2⟩
def bit_any (L : List (Bool)) (p : Bool → Bool) : Bool := decide (0 ≤ bit_first L p)
theorem bit_any_eq (L : List (Bool)) (p : Bool → Bool) : bit_any L p = L.any p := by
  unfold bit_any
  rw [Bool.eq_iff_iff, List.any_eq_true, decide_eq_true_eq]
  rcases bit_first_cases L p with ⟨h, h2⟩ | ⟨k, hk, h, h1, _⟩
  · rw [h]
    refine ⟨fun h => by omega, fun ⟨x, hx, hp⟩ => ?_⟩
    obtain ⟨j, hj, e⟩ := List.getElem_of_mem hx
    have := h2 j hj
    rw [bg_eq L j hj, e, hp] at this
    cases this
  · rw [h]
    exact ⟨fun _ => ⟨_, by rw [bg_eq L k hk]; exact List.getElem_mem hk, h1⟩, fun _ => by omega⟩

theorem str_info : (Try.prog.info? 9).map (fun i => (i.zero, i.size, i.bytes)) = some (some (.string ⟨#[]⟩), 1, 16) := by kernel_rfl

theorem fin_info : (Try.prog.info? 50).map (fun i => (i.zero, i.size, i.bytes)) = some (some (.agg #[.int .i64 0, .string ⟨#[]⟩]), 2, 24) := by kernel_rfl

theorem pair_info : (Try.prog.info? 52).map (fun i => (i.zero, i.size, i.bytes)) = some (some (.agg #[.string ⟨#[]⟩, .string ⟨#[]⟩]), 2, 32) := by kernel_rfl

theorem num_append {ops : Array Oper} {rest : List Oper} {o : Oper} {a : Act} {w : World} {Q : Exit → Act → World → Prop} (hgd : o.guard = none) (s x : Operand)
    (ho : o.op = .call { callee := .builtin .append, args := #[s, x], argTypes := #[26, 26] })
    (base : Nat) (v : Value) (L : List (Int)) (hs : a.eval s = v) (hown : w.ownsRow base 3 1 v L.length (nflat L))
    (bl : Nat) (y : Int) (hx : a.eval x = .slice (some ⟨bl, 0, none⟩) 1 1) (hc : w.cell? ⟨bl, 0, none⟩ = some (.int .i64 y)) (hl : L.length ≤ 1000000) (hbase : base ≤ w.heap.size)
    (h : ∀ v' w', w'.ownsRow base 3 1 v' (L ++ [y]).length (nflat (L ++ [y])) → w.grownBy w' v.ownBlock → wpList Try.prog ops Q rest (a.put o.dst v') w') : wpList Try.prog ops Q (o :: rest) a w := by
  obtain ⟨i0, hi, hz0, hz1, hz2⟩ := info_parts num_info
  refine wpList_append_own _ hgd s x 26 ho base 3 i0 _ 1 8 Try.underlying26 hi hz0 hz1 hz2 rfl (by decide) v L.length (nflat L) hs hown ⟨bl, 0, none⟩ 1 1 [.int .i64 y] hx rfl ?_ (by simp [Value.oneCell']) (by unfold maxLen; omega) (by omega) hbase ?_
  · have c0 := hc
    intro j u hj
    rw [Go.WideShapes.add_plain, Nat.zero_add]
    match j, hj with
    | 0, hj => simp at hj; subst hj; exact c0
  · intro v' w' h1 h2 _
    refine h v' w' ?_ h2
    rw [nflat_snoc, List.length_append]
    exact h1

theorem str_append {ops : Array Oper} {rest : List Oper} {o : Oper} {a : Act} {w : World} {Q : Exit → Act → World → Prop} (hgd : o.guard = none) (s x : Operand)
    (ho : o.op = .call { callee := .builtin .append, args := #[s, x], argTypes := #[32, 32] })
    (base : Nat) (v : Value) (L : List (ByteArray)) (hs : a.eval s = v) (hown : w.ownsRow base 9 1 v L.length (sflat L))
    (bl : Nat) (y : ByteArray) (hx : a.eval x = .slice (some ⟨bl, 0, none⟩) 1 1) (hc : w.cell? ⟨bl, 0, none⟩ = some (.string y)) (hl : L.length ≤ 1000000) (hbase : base ≤ w.heap.size)
    (h : ∀ v' w', w'.ownsRow base 9 1 v' (L ++ [y]).length (sflat (L ++ [y])) → w.grownBy w' v.ownBlock → wpList Try.prog ops Q rest (a.put o.dst v') w') : wpList Try.prog ops Q (o :: rest) a w := by
  obtain ⟨i0, hi, hz0, hz1, hz2⟩ := info_parts str_info
  refine wpList_append_own _ hgd s x 32 ho base 9 i0 _ 1 16 Try.underlying32 hi hz0 hz1 hz2 rfl (by decide) v L.length (sflat L) hs hown ⟨bl, 0, none⟩ 1 1 [.string y] hx rfl ?_ (by simp [Value.oneCell']) (by unfold maxLen; omega) (by omega) hbase ?_
  · have c0 := hc
    intro j u hj
    rw [Go.WideShapes.add_plain, Nat.zero_add]
    match j, hj with
    | 0, hj => simp at hj; subst hj; exact c0
  · intro v' w' h1 h2 _
    refine h v' w' ?_ h2
    rw [sflat_snoc, List.length_append]
    exact h1

theorem fin_append {ops : Array Oper} {rest : List Oper} {o : Oper} {a : Act} {w : World} {Q : Exit → Act → World → Prop} (hgd : o.guard = none) (s x : Operand)
    (ho : o.op = .call { callee := .builtin .append, args := #[s, x], argTypes := #[43, 43] })
    (base : Nat) (v : Value) (L : List (Int × ByteArray)) (hs : a.eval s = v) (hown : w.ownsRow base 50 2 v L.length (flat L))
    (bl : Nat) (y : Int × ByteArray) (hx : a.eval x = .slice (some ⟨bl, 0, none⟩) 1 1) (hc : w.cell? ⟨bl, 0, none⟩ = some (.int .i64 y.1) ∧ w.cell? ⟨bl, 1, none⟩ = some (.string y.2)) (hl : L.length ≤ 1000000) (hbase : base ≤ w.heap.size)
    (h : ∀ v' w', w'.ownsRow base 50 2 v' (L ++ [y]).length (flat (L ++ [y])) → w.grownBy w' v.ownBlock → wpList Try.prog ops Q rest (a.put o.dst v') w') : wpList Try.prog ops Q (o :: rest) a w := by
  obtain ⟨i0, hi, hz0, hz1, hz2⟩ := info_parts fin_info
  refine wpList_append_own _ hgd s x 43 ho base 50 i0 _ 2 24 Try.underlying43 hi hz0 hz1 hz2 rfl (by decide) v L.length (flat L) hs hown ⟨bl, 0, none⟩ 1 1 [.int .i64 y.1, .string y.2] hx rfl ?_ (by simp [Value.oneCell']) (by unfold maxLen; omega) (by omega) hbase ?_
  · obtain ⟨c0, c1⟩ := hc
    intro j u hj
    rw [Go.WideShapes.add_plain, Nat.zero_add]
    match j, hj with
    | 0, hj => simp at hj; subst hj; exact c0
    | 1, hj => simp at hj; subst hj; exact c1
  · intro v' w' h1 h2 _
    refine h v' w' ?_ h2
    rw [flat_snoc, List.length_append]
    exact h1

theorem pair_append {ops : Array Oper} {rest : List Oper} {o : Oper} {a : Act} {w : World} {Q : Exit → Act → World → Prop} (hgd : o.guard = none) (s x : Operand)
    (ho : o.op = .call { callee := .builtin .append, args := #[s, x], argTypes := #[23, 23] })
    (base : Nat) (v : Value) (L : List (ByteArray × ByteArray)) (hs : a.eval s = v) (hown : w.ownsRow base 52 2 v L.length (pflat L))
    (bl : Nat) (y : ByteArray × ByteArray) (hx : a.eval x = .slice (some ⟨bl, 0, none⟩) 1 1) (hc : w.cell? ⟨bl, 0, none⟩ = some (.string y.1) ∧ w.cell? ⟨bl, 1, none⟩ = some (.string y.2)) (hl : L.length ≤ 1000000) (hbase : base ≤ w.heap.size)
    (h : ∀ v' w', w'.ownsRow base 52 2 v' (L ++ [y]).length (pflat (L ++ [y])) → w.grownBy w' v.ownBlock → wpList Try.prog ops Q rest (a.put o.dst v') w') : wpList Try.prog ops Q (o :: rest) a w := by
  obtain ⟨i0, hi, hz0, hz1, hz2⟩ := info_parts pair_info
  refine wpList_append_own _ hgd s x 23 ho base 52 i0 _ 2 32 Try.underlying23 hi hz0 hz1 hz2 rfl (by decide) v L.length (pflat L) hs hown ⟨bl, 0, none⟩ 1 1 [.string y.1, .string y.2] hx rfl ?_ (by simp [Value.oneCell']) (by unfold maxLen; omega) (by omega) hbase ?_
  · obtain ⟨c0, c1⟩ := hc
    intro j u hj
    rw [Go.WideShapes.add_plain, Nat.zero_add]
    match j, hj with
    | 0, hj => simp at hj; subst hj; exact c0
    | 1, hj => simp at hj; subst hj; exact c1
  · intro v' w' h1 h2 _
    refine h v' w' ?_ h2
    rw [pflat_snoc, List.length_append]
    exact h1
end Go.Proofs.Ytapjhjpibefooaa
