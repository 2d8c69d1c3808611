/-
  THE WALK of the closure that visits the sums (bricks: nearest).
-/
import Derived.Test.YtfkmnneieglolaaGreatDoorNearV
import Derived.BigQuiet
import Derived.BigRegion
import Derived.Deep.RegionHeld3
namespace Go.Proofs.YtfkmnneieglolaaGreatDoor
open Go.RowKit Go.Shelf
def leastN (wt s R : Int) : Int := max (max 0 (s - wt)) (wt - s - R)
theorem ret_none {P : Program} {fn : Func} {R : Ending → World → Prop} {a : Act} {w : World} (h : fn.results = #[]) (hd : a.defers = []) (hr : R (.returned (.tuple #[])) w) : bodyPost P fn R Exit.ret a w :=
  bodyPost_ret (results_none h _ _ _) hd hr
set_option maxRecDepth 100000 in
set_option maxHeartbeats 16000000 in
theorem near_skip {B Bs : Nat} {wt : Int} (a : Option Addr) (L : List BrickR) (cap : Nat) (k : Nat) (s : Int) (b : Int) (w : World) (hk : k ≤ L.length) (hw : -1099511627776 ≤ wt ∧ wt ≤ 1099511627776)
    (hs : 0 ≤ s ∧ s + restC (L.drop k) ≤ 503316480) (hr : 0 ≤ restC (L.drop k)) (hb : 0 ≤ b ∧ b ≤ 503316480) (hV : NearS B w Bs wt (some b)) (hS : SearchAt B w Bs a L cap)
    (h : farN wt b < leastN wt s (restC (L.drop k)) ∨ (leastN wt s (restC (L.drop k)) = farN wt b ∧ b ≤ s)) :
    Calls Tryz.prog 72 #[.int .i64 k, .int .i64 s, .pointer (some ⟨B + 1, 0, none⟩), .pointer (some ⟨B, 0, none⟩), .pointer (some ⟨B + 3, 0, none⟩), .pointer (some ⟨B + 4, 0, none⟩), .pointer (some ⟨B + 2, 0, none⟩), .pointer (some ⟨B + 5, 0, none⟩)] w fun e w' => e = .returned (.tuple #[]) ∧ ∃ m, w' = w.drewN m := by
  have q0 := hV.cs
  have q1 := hV.cw
  have q2 := hV.cb
  have q3 := hV.cf
  have q4 := hV.ca
  obtain ⟨hbs, q5, Br, hBr, q6, hR⟩ := hS
  have q7 := hR k hk
  clear hV hR
  simp only [Option.getD_some, Option.isSome_some] at q2 q3
  generalize restC (L.drop k) = R at *
  have s1 : IntKind.i64.wrap (s - wt) = s - wt := IntWalk.i64_in _ (by omega)
  have s2 : IntKind.i64.wrap (wt - s) = wt - s := IntWalk.i64_in _ (by omega)
  have s3 : IntKind.i64.wrap (wt - s - R) = wt - s - R := IntWalk.i64_in _ (by omega)
  have j1 : (k : Int) < (L.length : Int) + 1 := by omega
  have j2 : (0 : Int) ≤ (k : Int) := by omega
  have j3 : k < L.length + 1 := by omega
  have hlv : (0 < s - wt ∧ ¬ s - wt < wt - s - R ∧ leastN wt s R = s - wt) ∨ (¬ 0 < s - wt ∧ 0 < wt - s - R ∧ leastN wt s R = wt - s - R) ∨ (¬ 0 < s - wt ∧ ¬ 0 < wt - s - R ∧ leastN wt s R = 0) := by
    unfold leastN
    omega
  obtain ⟨f, hf⟩ : ∃ f, farN wt b = f := ⟨_, rfl⟩
  have HF := Lib.hid hf
  rw [hf] at h
  clear hf
  rcases hlv with ⟨m1, m2, m3⟩ | ⟨m1, m2, m3⟩ | ⟨m1, m2, m3⟩
  · rw [m3] at h
    clear m3
    rcases h with h | ⟨h, h'⟩
    · have g1 : decide (f < (s - wt)) = true := decide_eq_true h
      clear h
      go_enter Tryz.func72, Tryz.ntmps72
      go_upto_region 0 with (fail)
      go_region
      go_wp2_with (go_at_call 71; (with_reducible refine (farN_any (B + 1) wt b _ (by omega) (by omega) (by simpa using q1)).mono ?_); rintro e wf ⟨rfl, rfl⟩; rw [HF.out])
      exact ret_none rfl rfl ⟨rfl, 1, rfl⟩
    · have g1 : decide (f < (s - wt)) = false := decide_eq_false (by omega)
      have g2 : ((s - wt) == f) = true := beq_iff_eq.2 h
      have g3 : decide (b ≤ s) = true := decide_eq_true h'
      clear h
      go_enter Tryz.func72, Tryz.ntmps72
      go_upto_region 0 with (fail)
      go_region
      go_wp2_with (go_at_call 71; (with_reducible refine (farN_any (B + 1) wt b _ (by omega) (by omega) (by simpa using q1)).mono ?_); rintro e wf ⟨rfl, rfl⟩; rw [HF.out])
      exact ret_none rfl rfl ⟨rfl, 1, rfl⟩
  · rw [m3] at h
    clear m3
    rcases h with h | ⟨h, h'⟩
    · have g1 : decide (f < (wt - s - R)) = true := decide_eq_true h
      clear h
      go_enter Tryz.func72, Tryz.ntmps72
      go_upto_region 0 with (fail)
      go_region
      go_wp2_with (go_at_call 71; (with_reducible refine (farN_any (B + 1) wt b _ (by omega) (by omega) (by simpa using q1)).mono ?_); rintro e wf ⟨rfl, rfl⟩; rw [HF.out])
      exact ret_none rfl rfl ⟨rfl, 1, rfl⟩
    · have g1 : decide (f < (wt - s - R)) = false := decide_eq_false (by omega)
      have g2 : ((wt - s - R) == f) = true := beq_iff_eq.2 h
      have g3 : decide (b ≤ s) = true := decide_eq_true h'
      clear h
      go_enter Tryz.func72, Tryz.ntmps72
      go_upto_region 0 with (fail)
      go_region
      go_wp2_with (go_at_call 71; (with_reducible refine (farN_any (B + 1) wt b _ (by omega) (by omega) (by simpa using q1)).mono ?_); rintro e wf ⟨rfl, rfl⟩; rw [HF.out])
      exact ret_none rfl rfl ⟨rfl, 1, rfl⟩
  · rw [m3] at h
    clear m3
    rcases h with h | ⟨h, h'⟩
    · have g1 : decide (f < (0 : Int)) = true := decide_eq_true h
      clear h
      go_enter Tryz.func72, Tryz.ntmps72
      go_upto_region 0 with (fail)
      go_region
      go_wp2_with (go_at_call 71; (with_reducible refine (farN_any (B + 1) wt b _ (by omega) (by omega) (by simpa using q1)).mono ?_); rintro e wf ⟨rfl, rfl⟩; rw [HF.out])
      exact ret_none rfl rfl ⟨rfl, 1, rfl⟩
    · have g1 : decide (f < (0 : Int)) = false := decide_eq_false (by omega)
      have g2 : ((0 : Int) == f) = true := beq_iff_eq.2 h
      have g3 : decide (b ≤ s) = true := decide_eq_true h'
      clear h
      go_enter Tryz.func72, Tryz.ntmps72
      go_upto_region 0 with (fail)
      go_region
      go_wp2_with (go_at_call 71; (with_reducible refine (farN_any (B + 1) wt b _ (by omega) (by omega) (by simpa using q1)).mono ?_); rintro e wf ⟨rfl, rfl⟩; rw [HF.out])
      exact ret_none rfl rfl ⟨rfl, 1, rfl⟩
set_option maxRecDepth 100000 in
set_option maxHeartbeats 16000000 in
theorem near_leaf {B Bs : Nat} {wt : Int} (a : Option Addr) (L : List BrickR) (cap : Nat) (k : Nat) (s : Int) (st : Option Int) (w : World) (hk : k ≤ L.length) (hw : -1099511627776 ≤ wt ∧ wt ≤ 1099511627776)
    (hs : 0 ≤ s ∧ s + restC (L.drop k) ≤ 503316480) (hr : 0 ≤ restC (L.drop k)) (hbs2 : ∀ b, st = some b → 0 ≤ b ∧ b ≤ 503316480) (hV : NearS B w Bs wt st) (hS : SearchAt B w Bs a L cap)
    (hgo : ∀ b, st = some b → ¬ (farN wt b < leastN wt s (restC (L.drop k)) ∨ (leastN wt s (restC (L.drop k)) = farN wt b ∧ b ≤ s))) (hkl : k = L.length) :
    Calls Tryz.prog 72 #[.int .i64 k, .int .i64 s, .pointer (some ⟨B + 1, 0, none⟩), .pointer (some ⟨B, 0, none⟩), .pointer (some ⟨B + 3, 0, none⟩), .pointer (some ⟨B + 4, 0, none⟩), .pointer (some ⟨B + 2, 0, none⟩), .pointer (some ⟨B + 5, 0, none⟩)] w fun e w' => e = .returned (.tuple #[]) ∧ NearS B w' Bs wt (some s) ∧ Below B w w' := by
  have q0 := hV.cs
  have q1 := hV.cw
  have q2 := hV.cb
  have q3 := hV.cf
  have q4 := hV.ca
  obtain ⟨hbs, q5, Br, hBr, q6, hR⟩ := hS
  have q7 := hR k hk
  have q8 := hV.fb
  have q9 := hV.ff
  have HV := Lib.hid hV
  clear hV hR
  generalize restC (L.drop k) = R at *
  have s1 : IntKind.i64.wrap (s - wt) = s - wt := IntWalk.i64_in _ (by omega)
  have s2 : IntKind.i64.wrap (wt - s) = wt - s := IntWalk.i64_in _ (by omega)
  have s3 : IntKind.i64.wrap (wt - s - R) = wt - s - R := IntWalk.i64_in _ (by omega)
  have j1 : (k : Int) < (L.length : Int) + 1 := by omega
  have j2 : (0 : Int) ≤ (k : Int) := by omega
  have j3 : k < L.length + 1 := by omega
  have hlv : (0 < s - wt ∧ ¬ s - wt < wt - s - R ∧ leastN wt s R = s - wt) ∨ (¬ 0 < s - wt ∧ 0 < wt - s - R ∧ leastN wt s R = wt - s - R) ∨ (¬ 0 < s - wt ∧ ¬ 0 < wt - s - R ∧ leastN wt s R = 0) := by
    unfold leastN
    omega
  have j5 : ((k : Int) == (L.length : Int)) = true := beq_iff_eq.2 (by omega)
  have j6 : (k == L.length) = true := beq_iff_eq.2 hkl
  clear hkl
  cases st with
  | none =>
    simp only [Option.getD_none, Option.isSome_none] at q2 q3
    rcases hlv with ⟨m1, m2, _⟩ | ⟨m1, m2, _⟩ | ⟨m1, m2, _⟩
    · go_enter Tryz.func72, Tryz.ntmps72
      go_upto_region 0 with (fail)
      go_region
      go_wp2_with (go_at_call 71; (with_reducible refine (farN_any (B + 1) wt b _ (by omega) (by omega) (by simpa using q1)).mono ?_); rintro e wf ⟨rfl, rfl⟩; rw [HF.out])
      exact ret_none rfl rfl ⟨rfl, HV.out.drew.take s, ((Below.refl B w).drew.setCell (show B ≤ B + 2 by omega) _).setCell (show B ≤ B + 3 by omega) _⟩
    · go_enter Tryz.func72, Tryz.ntmps72
      go_upto_region 0 with (fail)
      go_region
      go_wp2_with (go_at_call 71; (with_reducible refine (farN_any (B + 1) wt b _ (by omega) (by omega) (by simpa using q1)).mono ?_); rintro e wf ⟨rfl, rfl⟩; rw [HF.out])
      exact ret_none rfl rfl ⟨rfl, HV.out.drew.take s, ((Below.refl B w).drew.setCell (show B ≤ B + 2 by omega) _).setCell (show B ≤ B + 3 by omega) _⟩
    · go_enter Tryz.func72, Tryz.ntmps72
      go_upto_region 0 with (fail)
      go_region
      go_wp2_with (go_at_call 71; (with_reducible refine (farN_any (B + 1) wt b _ (by omega) (by omega) (by simpa using q1)).mono ?_); rintro e wf ⟨rfl, rfl⟩; rw [HF.out])
      exact ret_none rfl rfl ⟨rfl, HV.out.drew.take s, ((Below.refl B w).drew.setCell (show B ≤ B + 2 by omega) _).setCell (show B ≤ B + 3 by omega) _⟩
  | some b =>
    have hb := hbs2 b rfl
    have h := hgo b rfl
    simp only [Option.getD_some, Option.isSome_some] at q2 q3
    obtain ⟨f, hf⟩ : ∃ f, farN wt b = f := ⟨_, rfl⟩
    have HF := Lib.hid hf
    rw [hf] at h
    clear hf hgo hbs2
    rcases hlv with ⟨m1, m2, m3⟩ | ⟨m1, m2, m3⟩ | ⟨m1, m2, m3⟩
    · rw [m3] at h
      clear m3
      have g1 : decide (f < (s - wt)) = false := decide_eq_false (by omega)
      by_cases h' : (s - wt) = f
      · have g2 : ((s - wt) == f) = true := beq_iff_eq.2 h'
        have g3 : decide (b ≤ s) = false := decide_eq_false (by omega)
        clear h h'
        go_enter Tryz.func72, Tryz.ntmps72
        go_upto_region 0 with (fail)
        go_region
        go_wp2_with (go_at_call 71; (with_reducible refine (farN_any (B + 1) wt b _ (by omega) (by omega) (by simpa using q1)).mono ?_); rintro e wf ⟨rfl, rfl⟩; rw [HF.out])
        exact ret_none rfl rfl ⟨rfl, HV.out.drew.take s, ((Below.refl B w).drew.setCell (show B ≤ B + 2 by omega) _).setCell (show B ≤ B + 3 by omega) _⟩
      · have g2 : ((s - wt) == f) = false := beq_eq_false_iff_ne.2 h'
        clear h h'
        go_enter Tryz.func72, Tryz.ntmps72
        go_upto_region 0 with (fail)
        go_region
        go_wp2_with (go_at_call 71; (with_reducible refine (farN_any (B + 1) wt b _ (by omega) (by omega) (by simpa using q1)).mono ?_); rintro e wf ⟨rfl, rfl⟩; rw [HF.out])
        exact ret_none rfl rfl ⟨rfl, HV.out.drew.take s, ((Below.refl B w).drew.setCell (show B ≤ B + 2 by omega) _).setCell (show B ≤ B + 3 by omega) _⟩
    · rw [m3] at h
      clear m3
      have g1 : decide (f < (wt - s - R)) = false := decide_eq_false (by omega)
      by_cases h' : (wt - s - R) = f
      · have g2 : ((wt - s - R) == f) = true := beq_iff_eq.2 h'
        have g3 : decide (b ≤ s) = false := decide_eq_false (by omega)
        clear h h'
        go_enter Tryz.func72, Tryz.ntmps72
        go_upto_region 0 with (fail)
        go_region
        go_wp2_with (go_at_call 71; (with_reducible refine (farN_any (B + 1) wt b _ (by omega) (by omega) (by simpa using q1)).mono ?_); rintro e wf ⟨rfl, rfl⟩; rw [HF.out])
        exact ret_none rfl rfl ⟨rfl, HV.out.drew.take s, ((Below.refl B w).drew.setCell (show B ≤ B + 2 by omega) _).setCell (show B ≤ B + 3 by omega) _⟩
      · have g2 : ((wt - s - R) == f) = false := beq_eq_false_iff_ne.2 h'
        clear h h'
        go_enter Tryz.func72, Tryz.ntmps72
        go_upto_region 0 with (fail)
        go_region
        go_wp2_with (go_at_call 71; (with_reducible refine (farN_any (B + 1) wt b _ (by omega) (by omega) (by simpa using q1)).mono ?_); rintro e wf ⟨rfl, rfl⟩; rw [HF.out])
        exact ret_none rfl rfl ⟨rfl, HV.out.drew.take s, ((Below.refl B w).drew.setCell (show B ≤ B + 2 by omega) _).setCell (show B ≤ B + 3 by omega) _⟩
    · rw [m3] at h
      clear m3
      have g1 : decide (f < (0 : Int)) = false := decide_eq_false (by omega)
      by_cases h' : (0 : Int) = f
      · have g2 : ((0 : Int) == f) = true := beq_iff_eq.2 h'
        have g3 : decide (b ≤ s) = false := decide_eq_false (by omega)
        clear h h'
        go_enter Tryz.func72, Tryz.ntmps72
        go_upto_region 0 with (fail)
        go_region
        go_wp2_with (go_at_call 71; (with_reducible refine (farN_any (B + 1) wt b _ (by omega) (by omega) (by simpa using q1)).mono ?_); rintro e wf ⟨rfl, rfl⟩; rw [HF.out])
        exact ret_none rfl rfl ⟨rfl, HV.out.drew.take s, ((Below.refl B w).drew.setCell (show B ≤ B + 2 by omega) _).setCell (show B ≤ B + 3 by omega) _⟩
      · have g2 : ((0 : Int) == f) = false := beq_eq_false_iff_ne.2 h'
        clear h h'
        go_enter Tryz.func72, Tryz.ntmps72
        go_upto_region 0 with (fail)
        go_region
        go_wp2_with (go_at_call 71; (with_reducible refine (farN_any (B + 1) wt b _ (by omega) (by omega) (by simpa using q1)).mono ?_); rintro e wf ⟨rfl, rfl⟩; rw [HF.out])
        exact ret_none rfl rfl ⟨rfl, HV.out.drew.take s, ((Below.refl B w).drew.setCell (show B ≤ B + 2 by omega) _).setCell (show B ≤ B + 3 by omega) _⟩
end Go.Proofs.YtfkmnneieglolaaGreatDoor
