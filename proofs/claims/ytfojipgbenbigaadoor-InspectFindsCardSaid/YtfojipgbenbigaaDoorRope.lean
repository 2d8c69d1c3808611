/-
  THE WALKS of what asks for one rope: slices.IndexFunc and ContainsFunc at []api.Log with their closures, isRetired, due; the reference's last, Retired, First, Due.
-/
import Derived.Test.YtfojipgbenbigaaDoorLast
namespace Go.Proofs.YtfojipgbenbigaaDoor
open Go.RowKit Go.Shelf

theorem Logs.grow {w w' : World} {a : Option Addr} {L : List LogR} (h : Logs w.heap.size w a L) (hb : Below w.heap.size w w') : Logs w'.heap.size w' a L := (h.below hb).mono hb.size
theorem last_cases (L : List LogR) (rope : ByteArray) (ks : List Int) (n : Nat) :
    (lastTo L rope ks n = -1 ∧ ∀ i, i < n → mt L rope ks i = false) ∨ ∃ k : Nat, k < n ∧ lastTo L rope ks n = k ∧ mt L rope ks k = true ∧ ∀ j, k < j → j < n → mt L rope ks j = false := by
  induction n with
  | zero => exact .inl ⟨rfl, fun i h => absurd h (Nat.not_lt_zero _)⟩
  | succ n ih =>
    by_cases h : mt L rope ks n = true
    · exact .inr ⟨n, by omega, by simp [lastTo, h], h, fun j h1 h2 => by omega⟩
    · have h' : mt L rope ks n = false := by simpa using h
      rcases ih with ⟨e, hn⟩ | ⟨k, hk, e, h1, h2⟩
      · refine .inl ⟨by simp [lastTo, h', e], fun i hi => ?_⟩
        rcases Nat.lt_or_ge i n with l | l
        · exact hn i l
        · obtain rfl : i = n := by omega
          exact h'
      · refine .inr ⟨k, by omega, by simp [lastTo, h', e], h1, fun j hj hj' => ?_⟩
        rcases Nat.lt_or_ge j n with l | l
        · exact h2 j hj l
        · obtain rfl : j = n := by omega
          exact h'

/-- A rope is retired by the first m entries. -/
def retTo (L : List LogR) (rope : ByteArray) (m : Nat) : Bool := decide (0 ≤ lastTo L rope [2, 4] m) && (lg L (lastTo L rope [2, 4] m).toNat).kind == 4
def retB (L : List LogR) (rope : ByteArray) : Bool := retTo L rope L.length
theorem ret_no (L : List LogR) (rope : ByteArray) (m : Nat) (h : lastTo L rope [2, 4] m = -1) : retTo L rope m = false := by simp [retTo, h]
theorem ret_at (L : List LogR) (rope : ByteArray) (m k : Nat) (h : lastTo L rope [2, 4] m = k) : retTo L rope m = ((lg L k).kind == 4) := by simp [retTo, h]

/-- The first entry of a rope; -1 if there is none. -/
def firstI (L : List LogR) (rope : ByteArray) : Int := match (List.range L.length).find? (fun i => decide ((lg L i).rope = rope)) with
  | some i => i
  | none => -1
theorem first_hit (L : List LogR) (rope : ByteArray) (k : Nat) (hk : k < L.length) (h : (lg L k).rope = rope) (hn : ∀ j, j < k → (lg L j).rope ≠ rope) : firstI L rope = k := by
  unfold firstI
  have : (List.range L.length).find? (fun i => decide ((lg L i).rope = rope)) = some k := by
    rw [List.find?_eq_some_iff_getElem]
    refine ⟨by simpa using h, k, by simpa using hk, by simp, fun j hj => ?_⟩
    simpa using hn j hj
  rw [this]
theorem first_miss (L : List LogR) (rope : ByteArray) (hn : ∀ j, j < L.length → (lg L j).rope ≠ rope) : firstI L rope = -1 := by
  unfold firstI
  have : (List.range L.length).find? (fun i => decide ((lg L i).rope = rope)) = none := by
    rw [List.find?_eq_none]
    intro x hx
    simpa using hn x (by simpa using hx)
  rw [this]
theorem first_cases (L : List LogR) (rope : ByteArray) : (firstI L rope = -1 ∧ ∀ j, j < L.length → (lg L j).rope ≠ rope) ∨ ∃ k : Nat, k < L.length ∧ firstI L rope = k ∧ (lg L k).rope = rope ∧ ∀ j, j < k → (lg L j).rope ≠ rope := by
  have main : ∀ n, n ≤ L.length → (∀ j, j < n → (lg L j).rope ≠ rope) ∨ ∃ k : Nat, k < n ∧ (lg L k).rope = rope ∧ ∀ j, j < k → (lg L j).rope ≠ rope := by
    intro n
    induction n with
    | zero => exact fun _ => .inl fun j h => absurd h (Nat.not_lt_zero _)
    | succ n ih =>
      intro hn
      rcases ih (by omega) with h | ⟨k, hk, h1, h2⟩
      · by_cases e : (lg L n).rope = rope
        · exact .inr ⟨n, by omega, e, h⟩
        · refine .inl fun j hj => ?_
          rcases Nat.lt_or_ge j n with l | l
          · exact h j l
          · obtain rfl : j = n := by omega
            exact e
      · exact .inr ⟨k, by omega, h1, h2⟩
  rcases main L.length (Nat.le_refl _) with h | ⟨k, hk, h1, h2⟩
  · exact .inl ⟨first_miss L rope h, h⟩
  · exact .inr ⟨k, hk, first_hit L rope k hk h1 h2, h1, h2⟩

/-- A closure that asks p of an entry, wherever it is called later. -/
def Asks (g : Nat) (cb : Array Value) (n₀ : Nat) (w : World) (p : LogR → Bool) : Prop :=
  ∀ (W : World) (r : LogR), Below n₀ w W → Calls Tryd.prog g (#[logV r] ++ cb) W fun e w' => e = .returned (.bool (p r)) ∧ Below W.heap.size W w'

/-- The first index at which p holds. -/
def firstP (L : List LogR) (p : LogR → Bool) : Int := match (List.range L.length).find? (fun i => p (lg L i)) with
  | some i => i
  | none => -1
theorem firstP_hit (L : List LogR) (p : LogR → Bool) (k : Nat) (hk : k < L.length) (h : p (lg L k) = true) (hn : ∀ j, j < k → p (lg L j) = false) : firstP L p = k := by
  unfold firstP
  have : (List.range L.length).find? (fun i => p (lg L i)) = some k := by
    rw [List.find?_eq_some_iff_getElem]
    refine ⟨by simpa using h, k, by simpa using hk, by simp, fun j hj => ?_⟩
    simpa using hn j hj
  rw [this]
theorem firstP_miss (L : List LogR) (p : LogR → Bool) (hn : ∀ j, j < L.length → p (lg L j) = false) : firstP L p = -1 := by
  unfold firstP
  have : (List.range L.length).find? (fun i => p (lg L i)) = none := by
    rw [List.find?_eq_none]
    intro x hx
    simpa using hn x (by simpa using hx)
  rw [this]

set_option maxHeartbeats 2000000 in
theorem indexFunc_any (a : Option Addr) (L : List LogR) (cap n₀ g : Nat) (cb : Array Value) (p : LogR → Bool) (w : World) (eg : ∀ args w, (callFunc g args).run Tryd.prog w = .ok (.enter g args) w)
    (hl : L.length ≤ 1100) (hn₀ : n₀ ≤ w.heap.size) (hI : Logs n₀ w a L) (hp : Asks g cb n₀ w p) :
    Calls Tryd.prog 53 #[.slice a L.length cap, .func (.func g) #[] cb] w fun e w' => e = .returned (.int .i64 (firstP L p)) ∧ Below w.heap.size w w' := by
  have HI := Lib.hid hI; clear hI
  have HP := Lib.hid hp; clear hp
  go_enter Tryd.func53, Tryd.ntmps53
  go_wp2
  go_loopw [8] (fun i wr => ∃ k : Nat, k ≤ L.length ∧ i = .int .i64 k ∧ Below w.heap.size w wr ∧ Hid (∀ j, j < k → p (lg L j) = false)) (fun i _ => L.length - (intOf i).toNat)
  case atStart => exact ⟨0, Nat.zero_le _, rfl, Below.refl _ _, Lib.hid (fun _ h => absurd h (Nat.not_lt_zero _))⟩
  case round =>
    obtain ⟨k, hk, rfl, hB, HA⟩ := hrel
    by_cases hlt : k < L.length
    · obtain ⟨b, off, rfl, hb, hc⟩ := HI.out (by omega)
      obtain ⟨c0, c1, c2, c3⟩ := hc k hlt
      have d0 := (hB.cell (p := ⟨b, off + k * 4, none⟩) (show b < w.heap.size by omega)).trans c0
      have d1 := (hB.cell (p := ⟨b, off + k * 4 + 1, none⟩) (show b < w.heap.size by omega)).trans c1
      have d2 := (hB.cell (p := ⟨b, off + k * 4 + 2, none⟩) (show b < w.heap.size by omega)).trans c2
      have d3 := (hB.cell (p := ⟨b, off + k * 4 + 3, none⟩) (show b < w.heap.size by omega)).trans c3
      clear c0 c1 c2 c3 hc
      have HC := Lib.hid (show Calls Tryd.prog g (#[.agg #[.int .i64 (lg L k).day, .string (lg L k).rope, .int .i64 (lg L k).kind, .int .i64 (lg L k).runs]] ++ cb) wr _ from HP.out wr (lg L k) (hB.mono hn₀))
      obtain ⟨bv, hbv⟩ : ∃ bv, p (lg L k) = bv := ⟨_, rfl⟩
      rw [hbv] at HC
      cases bv
      · have HB : Hid (∀ j, j < k + 1 → p (lg L j) = false) := Lib.hid fun j hj => by
          rcases Nat.lt_or_ge j k with l | l
          · exact HA.out j l
          · obtain rfl : j = k := by omega
            exact hbv
        clear hbv
        go_wp2_with ((with_reducible refine HC.out.mono ?_); rintro e w1 ⟨rfl, hb1⟩)
        go_roundw
        case rel => exact ⟨k + 1, by omega, by go_num, hB.trans (hb1.mono hB.size), HB⟩
        case measure => simp [intOf]; omega
      · have H := Lib.hid (firstP_hit L p k hlt hbv HA.out)
        clear hbv
        go_wp2_with ((with_reducible refine HC.out.mono ?_); rintro e w1 ⟨rfl, hb1⟩)
        go_ret
        exact ⟨ret_int H.out.symm, hB.trans (hb1.mono hB.size)⟩
    · obtain rfl : k = L.length := by omega
      have H := Lib.hid (firstP_miss L p HA.out)
      go_wp2
      go_ret
      exact ⟨ret_int H.out.symm, hB⟩

def hasP (L : List LogR) (p : LogR → Bool) : Bool := decide (0 ≤ firstP L p)

set_option maxHeartbeats 1000000 in
theorem containsFunc_any (a : Option Addr) (L : List LogR) (cap n₀ g : Nat) (cb : Array Value) (p : LogR → Bool) (w : World) (eg : ∀ args w, (callFunc g args).run Tryd.prog w = .ok (.enter g args) w)
    (hl : L.length ≤ 1100) (hn₀ : n₀ ≤ w.heap.size) (hI : Logs n₀ w a L) (hp : Asks g cb n₀ w p) :
    Calls Tryd.prog 43 #[.slice a L.length cap, .func (.func g) #[] cb] w fun e w' => e = .returned (.bool (hasP L p)) ∧ Below w.heap.size w w' := by
  have HC := Lib.hid (indexFunc_any a L cap n₀ g cb p w eg hl hn₀ hI hp)
  clear hI hp eg
  go_enter Tryd.func43, Tryd.ntmps43
  go_wp2_with (go_at_call 53; (with_reducible refine HC.out.mono ?_); rintro e w1 ⟨rfl, hb1⟩)
  go_ret
  exact ⟨rfl, hb1⟩

set_option maxHeartbeats 1000000 in
theorem asks_due (bx : Nat) (rope : ByteArray) (n₀ : Nat) (w : World) (hbx : bx < n₀) (hc : w.cell? ⟨bx, 0, none⟩ = some (.string rope)) :
    Asks 55 #[.pointer (some ⟨bx, 0, none⟩)] n₀ w (fun r => decide (r.rope = rope)) := by
  intro W r hB
  have hc' := (hB.cell (p := ⟨bx, 0, none⟩) hbx).trans hc
  have hc2 : ∀ o, (W.alloc o).cell? ⟨bx, 0, none⟩ = some (.string rope) := fun o => ((Below.refl W.heap.size W).alloc (Nat.le_refl _) o |>.cell (p := ⟨bx, 0, none⟩) (World.block_lt_of_cell? W _ hc')).trans hc'
  have H := Lib.hid (str_eq r.rope rope)
  show Calls _ _ #[logV r, .pointer (some ⟨bx, 0, none⟩)] _ _
  unfold logV
  go_enter Tryd.func55, Tryd.ntmps55
  go_wp2
  go_ret
  exact ⟨ret_bool H.out, (Below.refl _ _).alloc (Nat.le_refl _) _⟩
set_option maxHeartbeats 1000000 in
theorem asks_given (bx : Nat) (rope : ByteArray) (n₀ : Nat) (w : World) (hbx : bx < n₀) (hc : w.cell? ⟨bx, 0, none⟩ = some (.string rope)) :
    Asks 58 #[.pointer (some ⟨bx, 0, none⟩)] n₀ w (fun r => decide (r.rope = rope)) := by
  intro W r hB
  have hc' := (hB.cell (p := ⟨bx, 0, none⟩) hbx).trans hc
  have hc2 : ∀ o, (W.alloc o).cell? ⟨bx, 0, none⟩ = some (.string rope) := fun o => ((Below.refl W.heap.size W).alloc (Nat.le_refl _) o |>.cell (p := ⟨bx, 0, none⟩) (World.block_lt_of_cell? W _ hc')).trans hc'
  have H := Lib.hid (str_eq r.rope rope)
  show Calls _ _ #[logV r, .pointer (some ⟨bx, 0, none⟩)] _ _
  unfold logV
  go_enter Tryd.func58, Tryd.ntmps58
  go_wp2
  go_ret
  exact ⟨ret_bool H.out, (Below.refl _ _).alloc (Nat.le_refl _) _⟩
set_option maxHeartbeats 1000000 in
theorem asks_short (n₀ : Nat) (w : World) :
    Asks 44 #[] n₀ w (fun r => decide ((60 : Int) < r.rope.size)) := by
  intro W r hB
  show Calls _ _ #[logV r] _ _
  unfold logV
  go_enter Tryd.func44, Tryd.ntmps44
  go_wp2
  go_ret
  exact ⟨rfl, (Below.refl _ _).alloc (Nat.le_refl _) _⟩

theorem firstP_rope (L : List LogR) (rope : ByteArray) : firstP L (fun r => decide (r.rope = rope)) = firstI L rope := rfl
end Go.Proofs.YtfojipgbenbigaaDoor
