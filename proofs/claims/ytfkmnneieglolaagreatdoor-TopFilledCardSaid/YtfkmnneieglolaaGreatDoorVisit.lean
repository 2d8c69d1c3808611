/-
  THE WALK of the closure that visits the choices (bricks: first).
-/
import Derived.Test.YtfkmnneieglolaaGreatDoorVisP
import Derived.BigQuiet
namespace Go.Proofs.YtfkmnneieglolaaGreatDoor
open Go.RowKit Go.Shelf
theorem VisS.drewN {B Bs N : Nat} {w : World} {low high : Int} {pre : List Int} {st : St} (h : VisS B w Bs low high N pre st) (n : Nat) : VisS B (w.drewN n) Bs low high N pre st := h.grow (below_drewN (Below.refl _ _) n)
theorem bounds_bg {L : List BrickR} (ok : BrickOK L) (hl : L.length ≤ 8) : 0 ≤ restC L ∧ restC L ≤ 503316480 := by
  obtain ⟨a, b⟩ := rest_bd ok
  omega
set_option maxRecDepth 100000 in
set_option maxHeartbeats 16000000 in
theorem visit_skip {B Bs : Nat} {low high : Int} (a : Option Addr) (L : List BrickR) (cap : Nat) (k : Nat) (pre : List Int) (s n : Int) (st : St) (w : World) (hk : k ≤ L.length)
    (hs : 0 ≤ s ∧ s + restC (L.drop k) ≤ 503316480) (hr : 0 ≤ restC (L.drop k)) (hV : VisS B w Bs low high L.length pre st) (hS : SearchAt B w Bs a L cap)
    (h : (∃ b m, st = some (b, m) ∧ m ≤ n) ∨ high < s ∨ s + restC (L.drop k) < low) :
    Calls Tryz.prog 100 #[.slice (some ⟨B + 7, 0, none⟩) k L.length, .int .i64 s, .int .i64 n, .pointer (some ⟨B + 5, 0, none⟩), .pointer (some ⟨B + 4, 0, none⟩), .pointer (some ⟨B + 2, 0, none⟩), .pointer (some ⟨B, 0, none⟩), .pointer (some ⟨B + 1, 0, none⟩), .pointer (some ⟨B + 3, 0, none⟩), .pointer (some ⟨B + 6, 0, none⟩)] w fun e w' => e = .returned (.tuple #[]) ∧ ∃ m, w' = w.drewN m := by
  have q0 := hV.cs
  have q1 := hV.cl
  have q2 := hV.ch
  have q3 := hV.cm
  have q4 := hV.cf
  obtain ⟨_, q5, Br, hBr, q6, hR⟩ := hS
  have q7 := hR k hk
  clear hV hR
  generalize restC (L.drop k) = R at *
  have s1 : IntKind.i64.wrap (s + R) = s + R := IntWalk.i64_in _ (by omega)
  have j1 : (k : Int) < (L.length : Int) + 1 := by omega
  have j2 : (0 : Int) ≤ (k : Int) := by omega
  have j3 : k < L.length + 1 := by omega
  cases st with
  | none =>
    simp only [mostS, Option.isSome_none] at q3 q4
    have hc : (decide (high < s) = true) ∨ (decide (high < s) = false ∧ decide (s + R < low) = true) := by
      simp only [decide_eq_true_eq, decide_eq_false_iff_not]
      rcases h with ⟨b, m, e, _⟩ | h | h
      · cases e
      · exact Or.inl h
      · omega
    clear h
    rcases hc with g2 | ⟨g2, g3⟩
    all_goals
      go_enter Tryz.func100, Tryz.ntmps100
      go_wp2_with fail
      go_quiet (fail)
      go_wp2_with fail
      refine bodyPost_ret (v := .tuple #[]) (by simp [results, Tryz.results100, go_sem]) rfl ⟨rfl, _, rfl⟩
  | some p =>
    obtain ⟨b, m⟩ := p
    simp only [mostS, Option.isSome_some] at q3 q4
    have hc : (decide (m ≤ n) = true) ∨ (decide (m ≤ n) = false ∧ decide (high < s) = true) ∨ (decide (m ≤ n) = false ∧ decide (high < s) = false ∧ decide (s + R < low) = true) := by
      simp only [decide_eq_true_eq, decide_eq_false_iff_not]
      rcases h with ⟨b', m', e, h⟩ | h | h
      · injection e with e; injection e with _ e; subst e; exact Or.inl h
      · omega
      · omega
    clear h
    rcases hc with g1 | ⟨g1, g2⟩ | ⟨g1, g2, g3⟩
    all_goals
      go_enter Tryz.func100, Tryz.ntmps100
      go_wp2_with fail
      go_quiet (fail)
      go_wp2_with fail
      refine bodyPost_ret (v := .tuple #[]) (by simp [results, Tryz.results100, go_sem]) rfl ⟨rfl, _, rfl⟩
theorem leaf_clone {B Bs N : Nat} {w : World} {low high : Int} {pre : List Int} {st : St} (hN : N ≤ 1000) (hp : pre.length = N) (h : VisS B w Bs low high N pre st) :
    Calls Tryz.prog 26 #[.slice (some ⟨B + 7, 0, none⟩) N N] w fun e w' => Hid (∃ v, e = .returned v ∧ w'.ownsRow w.heap.size 3 1 v pre.length (nflat pre) ∧ Below w.heap.size w w') := by
  have := num_clone (some ⟨B + 7, 0, none⟩) pre N w (by omega) (fun e => by cases e) (fun _ => ⟨B + 7, 0, rfl, by have := h.size; omega, fun i hi => by rw [Nat.zero_add]; exact h.pre i hi⟩)
  rw [hp] at this ⊢
  exact this
set_option maxRecDepth 100000 in
set_option maxHeartbeats 16000000 in
theorem visit_leaf {B Bs : Nat} {low high : Int} (a : Option Addr) (L : List BrickR) (cap : Nat) (pre : List Int) (s n : Int) (st : St) (w : World) (hl : L.length ≤ 8) (hp : pre.length = L.length)
    (hs : 0 ≤ s ∧ s ≤ 503316480) (hV : VisS B w Bs low high L.length pre st) (hS : SearchAt B w Bs a L cap)
    (h1 : ∀ b m, st = some (b, m) → n < m) (h2 : s ≤ high) (h3 : low ≤ s) :
    Calls Tryz.prog 100 #[.slice (some ⟨B + 7, 0, none⟩) L.length L.length, .int .i64 s, .int .i64 n, .pointer (some ⟨B + 5, 0, none⟩), .pointer (some ⟨B + 4, 0, none⟩), .pointer (some ⟨B + 2, 0, none⟩), .pointer (some ⟨B, 0, none⟩), .pointer (some ⟨B + 1, 0, none⟩), .pointer (some ⟨B + 3, 0, none⟩), .pointer (some ⟨B + 6, 0, none⟩)] w fun e w' => e = .returned (.tuple #[]) ∧ VisS B w' Bs low high L.length pre (some (pre, n)) ∧ Below B w w' := by
  have HV := Lib.hid hV
  have hz := hV.size
  have q0 := hV.cs
  have q1 := hV.cl
  have q2 := hV.ch
  have q3 := hV.cm
  have q4 := hV.cf
  obtain ⟨hbs, q5, Br, hBr, q6, hR⟩ := hS
  have q7 := hR L.length (Nat.le_refl _)
  have e0 : restC (L.drop L.length) = 0 := by rw [List.drop_length]; rfl
  rw [e0] at q7
  clear hV hR e0
  have s1 : IntKind.i64.wrap (s + 0) = s := by rw [Int.add_zero]; exact IntWalk.i64_in _ (by omega)
  have s2 : IntKind.i64.wrap s = s := IntWalk.i64_in _ (by omega)
  have j1 : (L.length : Int) < (L.length : Int) + 1 := by omega
  have j2 : (0 : Int) ≤ (L.length : Int) := by omega
  have j3 : L.length < L.length + 1 := by omega
  have g2 : decide (high < s) = false := decide_eq_false (by omega)
  have g3 : decide (s < low) = false := decide_eq_false (by omega)
  cases st with
  | none =>
    simp only [mostS, Option.isSome_none] at q3 q4
    go_enter Tryz.func100, Tryz.ntmps100
    go_wp2_with fail
    go_quiet (fail)
    have HV2 := Lib.hid (HV.out.drewN nq)
    have HC := Lib.hid (leaf_clone (w := w.drewN nq) (by omega) hp HV2.out)
    go_upto_region 3 with (fail)
    clear q0 q1 q2 q3 q4 q5 q6 q7
    go_wp2_with (go_at_call 26; (with_reducible refine HC.out.mono ?_); rintro e w2 hx; obtain ⟨v, rfl, hv, hb2⟩ := hx.out; obtain ⟨va, vc, rfl, _, _, _, _⟩ := num_of_row hv; have HRW := Lib.hid hv; clear hv; have HV3 := Lib.hid (HV2.out.grow hb2); obtain ⟨v0, y3, _⟩ := HV3.out.best; have y4 := HV3.out.cm; have y5 := HV3.out.cf; have f3 := (HV3.out.fz 0).1; have f4 := (HV3.out.fz 0).2.1; have f5 := (HV3.out.fz 0).2.2.1; clear hx)
    have ht := HV3.out.take (ownsRow_base HRW.out (by simpa using HV.out.size)) n
    rw [hp] at ht
    refine bodyPost_ret (v := .tuple #[]) (by simp [results, Tryz.results100, go_sem]) rfl ⟨rfl, ht, ?_⟩
    exact ((((below_drewN (Below.refl B w) nq).trans (hb2.mono (by simp; omega))).setCell (show B ≤ B + 3 by omega) _).setCell (show B ≤ B + 4 by omega) _).setCell (show B ≤ B + 5 by omega) _
  | some p =>
    obtain ⟨b, m⟩ := p
    simp only [mostS, Option.isSome_some] at q3 q4
    have g1 : decide (m ≤ n) = false := decide_eq_false (by have := h1 b m rfl; omega)
    clear h1
    go_enter Tryz.func100, Tryz.ntmps100
    go_wp2_with fail
    go_quiet (fail)
    have HV2 := Lib.hid (HV.out.drewN nq)
    have HC := Lib.hid (leaf_clone (w := w.drewN nq) (by omega) hp HV2.out)
    go_upto_region 3 with (fail)
    clear q0 q1 q2 q3 q4 q5 q6 q7
    go_wp2_with (go_at_call 26; (with_reducible refine HC.out.mono ?_); rintro e w2 hx; obtain ⟨v, rfl, hv, hb2⟩ := hx.out; obtain ⟨va, vc, rfl, _, _, _, _⟩ := num_of_row hv; have HRW := Lib.hid hv; clear hv; have HV3 := Lib.hid (HV2.out.grow hb2); obtain ⟨v0, y3, _⟩ := HV3.out.best; have y4 := HV3.out.cm; have y5 := HV3.out.cf; have f3 := (HV3.out.fz 0).1; have f4 := (HV3.out.fz 0).2.1; have f5 := (HV3.out.fz 0).2.2.1; clear hx)
    have ht := HV3.out.take (ownsRow_base HRW.out (by simpa using HV.out.size)) n
    rw [hp] at ht
    refine bodyPost_ret (v := .tuple #[]) (by simp [results, Tryz.results100, go_sem]) rfl ⟨rfl, ht, ?_⟩
    exact ((((below_drewN (Below.refl B w) nq).trans (hb2.mono (by simp; omega))).setCell (show B ≤ B + 3 by omega) _).setCell (show B ≤ B + 4 by omega) _).setCell (show B ≤ B + 5 by omega) _
end Go.Proofs.YtfkmnneieglolaaGreatDoor
