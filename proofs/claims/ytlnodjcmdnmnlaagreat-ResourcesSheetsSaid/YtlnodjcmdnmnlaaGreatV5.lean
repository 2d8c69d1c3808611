/-
  THE WALK of ratio.Make.
-/
import Derived.StillTailTactics
import Derived.Shelf.Small.Bits
import Derived.Shelf.Small.Wraps
import Derived.Shelf.Strconv.Itoa0
import Derived.Shelf.Sort.Plain
import Derived.Shelf.Bits.Mul64
import Derived.Shelf.Slices.Turned
import Derived.Ground.Names2Prog
import Derived.Shelf.Slices.Clone
import Derived.Shelf.Slices.CompactI
import Derived.Shelf.Slices.SearchI
import Derived.Shelf.Slices.Cells
import Derived.Shelf.Slices.In.SortNone
import Derived.Test.YtlnodjcmdnmnlaaGreatProg
import Derived.Shelf.Spec.BitsCarry
import Derived.Test.YtlnodjcmdnmnlaaGreatV1
namespace Go.Proofs.YtlnodjcmdnmnlaaGreat
set_option maxRecDepth 100000
set_option maxHeartbeats 80000000
section
open Go.RowKit Go.Shelf
theorem held_next {wr w1 w2 : World} (h : Below wr.heap.size wr w1) (h2 : Below w1.heap.size w1 w2) : Below wr.heap.size wr w2 := h.trans (h2.mono h.size)
def makeP (n d : Int) : Int × Int × Int := if d = 0 then (0, 0, 16) else signP (!(n == 0) && (decide (n < 0) != decide (d < 0))) ((n.natAbs : Int) / (Int.gcd n d : Int)) ((d.natAbs : Int) / (Int.gcd n d : Int))

theorem make_any (n d : Int) (hn0 : ¬ n = 0) (n1 : -9223372036854775808 ≤ n) (n2 : n ≤ 9223372036854775807) (d1 : -9223372036854775808 ≤ d) (d2 : d ≤ 9223372036854775807) (w : World) :
  Calls Tryz.prog 181 #[.int .i64 n, .int .i64 d] w fun e w' => e = .returned (.tuple #[.agg #[.int .i64 (makeP n d).1, .int .i64 (makeP n d).2.1], .int .i64 (makeP n d).2.2]) ∧ Below w.heap.size w w' := by
 by_cases hd : d = 0
 ·have HR : Hid (makeP n d = (0, 0, 16)) := lh (by unfold makeP; rw [if_pos hd])
  rw [HR.out];subst hd
  go_enter Tryz.func181, Tryz.ntmps181
  go_wp2
  refine bodyPost_ret (v := .tuple #[.agg #[.int .i64 0, .int .i64 0], .int .i64 16]) (by simp [results, Tryz.results181, go_sem]) rfl ⟨rfl, ?_⟩;exact below_new _ _
 ·have hd0 : (d == 0) = false := by simpa using hd
  obtain ⟨a, ha⟩ := nm ((n.natAbs : Int) : Int);obtain ⟨b, hb⟩ := nm ((d.natAbs : Int) : Int);obtain ⟨g, hg⟩ := nm ((Int.gcd a b : Int) : Int);have a0 : 0 ≤ a := by omega
  have a1 : a < 18446744073709551616 := by omega
  have b0 : 0 < b := by omega
  have b1 : b < 18446744073709551616 := by omega
  have gp : 0 < g := by rw [← hg]; exact gcd_posR b0
  have g0 : ¬ g = 0 := by omega
  have g0' : (g == 0) = false := by simpa using g0
  have q0 : 0 ≤ a / g := Int.ediv_nonneg a0 (by omega);have q1 : 0 ≤ b / g := Int.ediv_nonneg (by omega) (by omega);have q2 : IntKind.u64.wrap (a.tdiv g) = a / g := by rw [Int.tdiv_eq_ediv_of_nonneg a0, IntKind.wrap_u64]; exact Int.emod_eq_of_lt q0 (by have := Int.ediv_le_self g a0; omega)
  have q3 : IntKind.u64.wrap (b.tdiv g) = b / g := by rw [Int.tdiv_eq_ediv_of_nonneg (by omega), IntKind.wrap_u64]; exact Int.emod_eq_of_lt q1 (by have := Int.ediv_le_self g (Int.le_of_lt b0); omega)
  have hgg : Int.gcd n d = Int.gcd a b := by rw [← ha, ← hb]; simp [Int.gcd]
  have HA := lh ha;have HB := lh hb;have HG := lh hg;have HP : Hid (makeP n d = signP (!(n == 0) && (decide (n < 0) != decide (d < 0))) (a / g) (b / g)) := lh (by unfold makeP; rw [if_neg hd, ha, hb, hgg, hg]);clear ha hb hg hgg hd;have c0 : (n == 0) = false := by simpa using hn0
  have c0' : (n != 0) = true := by simpa using hn0
  clear hn0
  by_cases hn : n < 0
  ·have c1 := decide_eq_true hn
   clear hn
   by_cases hd : d < 0
   ·have c2 := decide_eq_true hd
    clear hd;obtain ⟨r, hr⟩ := nm (signP false (a / g) (b / g));have HR : Hid (makeP n d = r) := lh (by rw [HP.out, c0, c1, c2, show (!false && (true != true)) = false from rfl]; exact hr);have HS := lh hr;rw [HR.out];clear hr
    go_enter Tryz.func181, Tryz.ntmps181
    go_wp2_with (first | (go_at_call 72; (with_reducible refine (size_any n n1 n2 _).mono ?_); rintro e w' ⟨rfl, rfl⟩; rw [HA.out]) | (go_at_call 72; (with_reducible refine (size_any d d1 d2 _).mono ?_); rintro e w' ⟨rfl, rfl⟩; rw [HB.out]) | (go_at_call 71; (with_reducible refine (gcd_any a b a0 a1 (by omega) b1 _).mono ?_); rintro e w' ⟨rfl, m, rfl⟩; rw [HG.out]))
    have hbr : Below w.heap.size w ((w.alloc (.cells #[.int .i64 0, .int .i64 0] 110)).drewN m) := below_drewN (below_new _ _) _;have z0 : ((w.alloc (.cells #[.int .i64 0, .int .i64 0] 110)).drewN m).cell? ⟨w.heap.size, 0, none⟩ = some (.int .i64 0) := by simp
    have z1 : ((w.alloc (.cells #[.int .i64 0, .int .i64 0] 110)).drewN m).cell? ⟨w.heap.size, 1, none⟩ = some (.int .i64 0) := by simp
    have z2 : ((w.alloc (.cells #[.int .i64 0, .int .i64 0] 110)).drewN m).frozen? ⟨w.heap.size, 0, none⟩ = false := by simp
    have z3 : ((w.alloc (.cells #[.int .i64 0, .int .i64 0] 110)).drewN m).frozen? ⟨w.heap.size, 1, none⟩ = false := by simp
    have z4 : w.heap.size < ((w.alloc (.cells #[.int .i64 0, .int .i64 0] 110)).drewN m).heap.size := by simp
    generalize (w.alloc (.cells #[.int .i64 0, .int .i64 0] 110)).drewN m = W0 at *;have HSS : Hid (∀ w', Below W0.heap.size W0 w' → Below W0.heap.size W0 w' ∧ w'.cell? ⟨w.heap.size, 0, none⟩ = some (.int .i64 0) ∧ w'.cell? ⟨w.heap.size, 1, none⟩ = some (.int .i64 0) ∧ w'.frozen? ⟨w.heap.size, 0, none⟩ = false ∧ w'.frozen? ⟨w.heap.size, 1, none⟩ = false) := lh fun w' h => ⟨h, (h.cell (p := ⟨w.heap.size, 0, none⟩) z4).trans z0, (h.cell (p := ⟨w.heap.size, 1, none⟩) z4).trans z1, (h.frozen (p := ⟨w.heap.size, 0, none⟩) z4).trans z2, (h.frozen (p := ⟨w.heap.size, 1, none⟩) z4).trans z3⟩;have hb0 := Below.refl W0.heap.size W0
    first
    | go_region_held3 (fun w' => Below w.heap.size w w')
      (first | exact hbr.drew | exact hbr | exact hbw | exact (hbw.setCell (p := ⟨w.heap.size, 0, none⟩) (Nat.le_refl _) _).setCell (p := ⟨w.heap.size, 1, none⟩) (Nat.le_refl _) _)
      (first
       | (go_at_call 74; go_split_ands; (with_reducible refine (signed_any false (a / g) (b / g) q0 q1 _).mono ?_); rintro e w2 ⟨rfl, hb2⟩; rw [HS.out]; obtain ⟨hbn, u0, u1, u2, u3⟩ := HSS.out _ (held_next (wr := W0) hb0.drew hb2); have hbw := hbr.trans (hbn.mono (by omega))))
    | fail
    all_goals go_wp2
    all_goals
     have s0 := World.cell?_setCell_same w2 ⟨w.heap.size, 0, none⟩ (.int .i64 r.1) u0;have s1 : (w2.setCell ⟨w.heap.size, 0, none⟩ (.int .i64 r.1)).cell? ⟨w.heap.size, 1, none⟩ = some (.int .i64 0) := (World.cell?_setCell_other _ _ _ _ (fun x => absurd (congrArg Addr.off x) (by simp))).trans u1;have s2 := World.cell?_setCell_same _ ⟨w.heap.size, 1, none⟩ (.int .i64 r.2.1) s1;have s3 : ((w2.setCell ⟨w.heap.size, 0, none⟩ (.int .i64 r.1)).setCell ⟨w.heap.size, 1, none⟩ (.int .i64 r.2.1)).cell? ⟨w.heap.size, 0, none⟩ = some (.int .i64 r.1) := (World.cell?_setCell_other _ _ _ _ (fun x => absurd (congrArg Addr.off x) (by simp))).trans s0;refine bodyPost_ret (v := .tuple #[.agg #[.int .i64 r.1, .int .i64 r.2.1], .int .i64 r.2.2]) (by simp [results, Tryz.results181, go_sem, s2, s3]) rfl ⟨rfl, ?_⟩;exact (hbw.setCell (p := ⟨w.heap.size, 0, none⟩) (Nat.le_refl _) _).setCell (p := ⟨w.heap.size, 1, none⟩) (Nat.le_refl _) _
   ·have c2 := decide_eq_false hd
    clear hd;obtain ⟨r, hr⟩ := nm (signP true (a / g) (b / g));have HR : Hid (makeP n d = r) := lh (by rw [HP.out, c0, c1, c2, show (!false && (true != false)) = true from rfl]; exact hr);have HS := lh hr;rw [HR.out];clear hr
    go_enter Tryz.func181, Tryz.ntmps181
    go_wp2_with (first | (go_at_call 72; (with_reducible refine (size_any n n1 n2 _).mono ?_); rintro e w' ⟨rfl, rfl⟩; rw [HA.out]) | (go_at_call 72; (with_reducible refine (size_any d d1 d2 _).mono ?_); rintro e w' ⟨rfl, rfl⟩; rw [HB.out]) | (go_at_call 71; (with_reducible refine (gcd_any a b a0 a1 (by omega) b1 _).mono ?_); rintro e w' ⟨rfl, m, rfl⟩; rw [HG.out]))
    have hbr : Below w.heap.size w ((w.alloc (.cells #[.int .i64 0, .int .i64 0] 110)).drewN m) := below_drewN (below_new _ _) _;have z0 : ((w.alloc (.cells #[.int .i64 0, .int .i64 0] 110)).drewN m).cell? ⟨w.heap.size, 0, none⟩ = some (.int .i64 0) := by simp
    have z1 : ((w.alloc (.cells #[.int .i64 0, .int .i64 0] 110)).drewN m).cell? ⟨w.heap.size, 1, none⟩ = some (.int .i64 0) := by simp
    have z2 : ((w.alloc (.cells #[.int .i64 0, .int .i64 0] 110)).drewN m).frozen? ⟨w.heap.size, 0, none⟩ = false := by simp
    have z3 : ((w.alloc (.cells #[.int .i64 0, .int .i64 0] 110)).drewN m).frozen? ⟨w.heap.size, 1, none⟩ = false := by simp
    have z4 : w.heap.size < ((w.alloc (.cells #[.int .i64 0, .int .i64 0] 110)).drewN m).heap.size := by simp
    generalize (w.alloc (.cells #[.int .i64 0, .int .i64 0] 110)).drewN m = W0 at *;have HSS : Hid (∀ w', Below W0.heap.size W0 w' → Below W0.heap.size W0 w' ∧ w'.cell? ⟨w.heap.size, 0, none⟩ = some (.int .i64 0) ∧ w'.cell? ⟨w.heap.size, 1, none⟩ = some (.int .i64 0) ∧ w'.frozen? ⟨w.heap.size, 0, none⟩ = false ∧ w'.frozen? ⟨w.heap.size, 1, none⟩ = false) := lh fun w' h => ⟨h, (h.cell (p := ⟨w.heap.size, 0, none⟩) z4).trans z0, (h.cell (p := ⟨w.heap.size, 1, none⟩) z4).trans z1, (h.frozen (p := ⟨w.heap.size, 0, none⟩) z4).trans z2, (h.frozen (p := ⟨w.heap.size, 1, none⟩) z4).trans z3⟩;have hb0 := Below.refl W0.heap.size W0
    first
    | go_region_held3 (fun w' => Below w.heap.size w w')
      (first | exact hbr.drew | exact hbr | exact hbw | exact (hbw.setCell (p := ⟨w.heap.size, 0, none⟩) (Nat.le_refl _) _).setCell (p := ⟨w.heap.size, 1, none⟩) (Nat.le_refl _) _)
      (first
       | (go_at_call 74; go_split_ands; (with_reducible refine (signed_any true (a / g) (b / g) q0 q1 _).mono ?_); rintro e w2 ⟨rfl, hb2⟩; rw [HS.out]; obtain ⟨hbn, u0, u1, u2, u3⟩ := HSS.out _ (held_next (wr := W0) hb0.drew hb2); have hbw := hbr.trans (hbn.mono (by omega))))
    | fail
    all_goals go_wp2
    all_goals
     have s0 := World.cell?_setCell_same w2 ⟨w.heap.size, 0, none⟩ (.int .i64 r.1) u0;have s1 : (w2.setCell ⟨w.heap.size, 0, none⟩ (.int .i64 r.1)).cell? ⟨w.heap.size, 1, none⟩ = some (.int .i64 0) := (World.cell?_setCell_other _ _ _ _ (fun x => absurd (congrArg Addr.off x) (by simp))).trans u1;have s2 := World.cell?_setCell_same _ ⟨w.heap.size, 1, none⟩ (.int .i64 r.2.1) s1;have s3 : ((w2.setCell ⟨w.heap.size, 0, none⟩ (.int .i64 r.1)).setCell ⟨w.heap.size, 1, none⟩ (.int .i64 r.2.1)).cell? ⟨w.heap.size, 0, none⟩ = some (.int .i64 r.1) := (World.cell?_setCell_other _ _ _ _ (fun x => absurd (congrArg Addr.off x) (by simp))).trans s0;refine bodyPost_ret (v := .tuple #[.agg #[.int .i64 r.1, .int .i64 r.2.1], .int .i64 r.2.2]) (by simp [results, Tryz.results181, go_sem, s2, s3]) rfl ⟨rfl, ?_⟩;exact (hbw.setCell (p := ⟨w.heap.size, 0, none⟩) (Nat.le_refl _) _).setCell (p := ⟨w.heap.size, 1, none⟩) (Nat.le_refl _) _
  ·have c1 := decide_eq_false hn
   clear hn
   by_cases hd : d < 0
   ·have c2 := decide_eq_true hd
    clear hd;obtain ⟨r, hr⟩ := nm (signP true (a / g) (b / g));have HR : Hid (makeP n d = r) := lh (by rw [HP.out, c0, c1, c2, show (!false && (false != true)) = true from rfl]; exact hr);have HS := lh hr;rw [HR.out];clear hr
    go_enter Tryz.func181, Tryz.ntmps181
    go_wp2_with (first | (go_at_call 72; (with_reducible refine (size_any n n1 n2 _).mono ?_); rintro e w' ⟨rfl, rfl⟩; rw [HA.out]) | (go_at_call 72; (with_reducible refine (size_any d d1 d2 _).mono ?_); rintro e w' ⟨rfl, rfl⟩; rw [HB.out]) | (go_at_call 71; (with_reducible refine (gcd_any a b a0 a1 (by omega) b1 _).mono ?_); rintro e w' ⟨rfl, m, rfl⟩; rw [HG.out]))
    have hbr : Below w.heap.size w ((w.alloc (.cells #[.int .i64 0, .int .i64 0] 110)).drewN m) := below_drewN (below_new _ _) _;have z0 : ((w.alloc (.cells #[.int .i64 0, .int .i64 0] 110)).drewN m).cell? ⟨w.heap.size, 0, none⟩ = some (.int .i64 0) := by simp
    have z1 : ((w.alloc (.cells #[.int .i64 0, .int .i64 0] 110)).drewN m).cell? ⟨w.heap.size, 1, none⟩ = some (.int .i64 0) := by simp
    have z2 : ((w.alloc (.cells #[.int .i64 0, .int .i64 0] 110)).drewN m).frozen? ⟨w.heap.size, 0, none⟩ = false := by simp
    have z3 : ((w.alloc (.cells #[.int .i64 0, .int .i64 0] 110)).drewN m).frozen? ⟨w.heap.size, 1, none⟩ = false := by simp
    have z4 : w.heap.size < ((w.alloc (.cells #[.int .i64 0, .int .i64 0] 110)).drewN m).heap.size := by simp
    generalize (w.alloc (.cells #[.int .i64 0, .int .i64 0] 110)).drewN m = W0 at *;have HSS : Hid (∀ w', Below W0.heap.size W0 w' → Below W0.heap.size W0 w' ∧ w'.cell? ⟨w.heap.size, 0, none⟩ = some (.int .i64 0) ∧ w'.cell? ⟨w.heap.size, 1, none⟩ = some (.int .i64 0) ∧ w'.frozen? ⟨w.heap.size, 0, none⟩ = false ∧ w'.frozen? ⟨w.heap.size, 1, none⟩ = false) := lh fun w' h => ⟨h, (h.cell (p := ⟨w.heap.size, 0, none⟩) z4).trans z0, (h.cell (p := ⟨w.heap.size, 1, none⟩) z4).trans z1, (h.frozen (p := ⟨w.heap.size, 0, none⟩) z4).trans z2, (h.frozen (p := ⟨w.heap.size, 1, none⟩) z4).trans z3⟩;have hb0 := Below.refl W0.heap.size W0
    first
    | go_region_held3 (fun w' => Below w.heap.size w w')
      (first | exact hbr.drew | exact hbr | exact hbw | exact (hbw.setCell (p := ⟨w.heap.size, 0, none⟩) (Nat.le_refl _) _).setCell (p := ⟨w.heap.size, 1, none⟩) (Nat.le_refl _) _)
      (first
       | (go_at_call 74; go_split_ands; (with_reducible refine (signed_any true (a / g) (b / g) q0 q1 _).mono ?_); rintro e w2 ⟨rfl, hb2⟩; rw [HS.out]; obtain ⟨hbn, u0, u1, u2, u3⟩ := HSS.out _ (held_next (wr := W0) hb0.drew hb2); have hbw := hbr.trans (hbn.mono (by omega))))
    | fail
    all_goals go_wp2
    all_goals
     have s0 := World.cell?_setCell_same w2 ⟨w.heap.size, 0, none⟩ (.int .i64 r.1) u0;have s1 : (w2.setCell ⟨w.heap.size, 0, none⟩ (.int .i64 r.1)).cell? ⟨w.heap.size, 1, none⟩ = some (.int .i64 0) := (World.cell?_setCell_other _ _ _ _ (fun x => absurd (congrArg Addr.off x) (by simp))).trans u1;have s2 := World.cell?_setCell_same _ ⟨w.heap.size, 1, none⟩ (.int .i64 r.2.1) s1;have s3 : ((w2.setCell ⟨w.heap.size, 0, none⟩ (.int .i64 r.1)).setCell ⟨w.heap.size, 1, none⟩ (.int .i64 r.2.1)).cell? ⟨w.heap.size, 0, none⟩ = some (.int .i64 r.1) := (World.cell?_setCell_other _ _ _ _ (fun x => absurd (congrArg Addr.off x) (by simp))).trans s0;refine bodyPost_ret (v := .tuple #[.agg #[.int .i64 r.1, .int .i64 r.2.1], .int .i64 r.2.2]) (by simp [results, Tryz.results181, go_sem, s2, s3]) rfl ⟨rfl, ?_⟩;exact (hbw.setCell (p := ⟨w.heap.size, 0, none⟩) (Nat.le_refl _) _).setCell (p := ⟨w.heap.size, 1, none⟩) (Nat.le_refl _) _
   ·have c2 := decide_eq_false hd
    clear hd;obtain ⟨r, hr⟩ := nm (signP false (a / g) (b / g));have HR : Hid (makeP n d = r) := lh (by rw [HP.out, c0, c1, c2, show (!false && (false != false)) = false from rfl]; exact hr);have HS := lh hr;rw [HR.out];clear hr
    go_enter Tryz.func181, Tryz.ntmps181
    go_wp2_with (first | (go_at_call 72; (with_reducible refine (size_any n n1 n2 _).mono ?_); rintro e w' ⟨rfl, rfl⟩; rw [HA.out]) | (go_at_call 72; (with_reducible refine (size_any d d1 d2 _).mono ?_); rintro e w' ⟨rfl, rfl⟩; rw [HB.out]) | (go_at_call 71; (with_reducible refine (gcd_any a b a0 a1 (by omega) b1 _).mono ?_); rintro e w' ⟨rfl, m, rfl⟩; rw [HG.out]))
    have hbr : Below w.heap.size w ((w.alloc (.cells #[.int .i64 0, .int .i64 0] 110)).drewN m) := below_drewN (below_new _ _) _;have z0 : ((w.alloc (.cells #[.int .i64 0, .int .i64 0] 110)).drewN m).cell? ⟨w.heap.size, 0, none⟩ = some (.int .i64 0) := by simp
    have z1 : ((w.alloc (.cells #[.int .i64 0, .int .i64 0] 110)).drewN m).cell? ⟨w.heap.size, 1, none⟩ = some (.int .i64 0) := by simp
    have z2 : ((w.alloc (.cells #[.int .i64 0, .int .i64 0] 110)).drewN m).frozen? ⟨w.heap.size, 0, none⟩ = false := by simp
    have z3 : ((w.alloc (.cells #[.int .i64 0, .int .i64 0] 110)).drewN m).frozen? ⟨w.heap.size, 1, none⟩ = false := by simp
    have z4 : w.heap.size < ((w.alloc (.cells #[.int .i64 0, .int .i64 0] 110)).drewN m).heap.size := by simp
    generalize (w.alloc (.cells #[.int .i64 0, .int .i64 0] 110)).drewN m = W0 at *;have HSS : Hid (∀ w', Below W0.heap.size W0 w' → Below W0.heap.size W0 w' ∧ w'.cell? ⟨w.heap.size, 0, none⟩ = some (.int .i64 0) ∧ w'.cell? ⟨w.heap.size, 1, none⟩ = some (.int .i64 0) ∧ w'.frozen? ⟨w.heap.size, 0, none⟩ = false ∧ w'.frozen? ⟨w.heap.size, 1, none⟩ = false) := lh fun w' h => ⟨h, (h.cell (p := ⟨w.heap.size, 0, none⟩) z4).trans z0, (h.cell (p := ⟨w.heap.size, 1, none⟩) z4).trans z1, (h.frozen (p := ⟨w.heap.size, 0, none⟩) z4).trans z2, (h.frozen (p := ⟨w.heap.size, 1, none⟩) z4).trans z3⟩;have hb0 := Below.refl W0.heap.size W0
    first
    | go_region_held3 (fun w' => Below w.heap.size w w')
      (first | exact hbr.drew | exact hbr | exact hbw | exact (hbw.setCell (p := ⟨w.heap.size, 0, none⟩) (Nat.le_refl _) _).setCell (p := ⟨w.heap.size, 1, none⟩) (Nat.le_refl _) _)
      (first
       | (go_at_call 74; go_split_ands; (with_reducible refine (signed_any false (a / g) (b / g) q0 q1 _).mono ?_); rintro e w2 ⟨rfl, hb2⟩; rw [HS.out]; obtain ⟨hbn, u0, u1, u2, u3⟩ := HSS.out _ (held_next (wr := W0) hb0.drew hb2); have hbw := hbr.trans (hbn.mono (by omega))))
    | fail
    all_goals go_wp2
    all_goals
     have s0 := World.cell?_setCell_same w2 ⟨w.heap.size, 0, none⟩ (.int .i64 r.1) u0;have s1 : (w2.setCell ⟨w.heap.size, 0, none⟩ (.int .i64 r.1)).cell? ⟨w.heap.size, 1, none⟩ = some (.int .i64 0) := (World.cell?_setCell_other _ _ _ _ (fun x => absurd (congrArg Addr.off x) (by simp))).trans u1;have s2 := World.cell?_setCell_same _ ⟨w.heap.size, 1, none⟩ (.int .i64 r.2.1) s1;have s3 : ((w2.setCell ⟨w.heap.size, 0, none⟩ (.int .i64 r.1)).setCell ⟨w.heap.size, 1, none⟩ (.int .i64 r.2.1)).cell? ⟨w.heap.size, 0, none⟩ = some (.int .i64 r.1) := (World.cell?_setCell_other _ _ _ _ (fun x => absurd (congrArg Addr.off x) (by simp))).trans s0;refine bodyPost_ret (v := .tuple #[.agg #[.int .i64 r.1, .int .i64 r.2.1], .int .i64 r.2.2]) (by simp [results, Tryz.results181, go_sem, s2, s3]) rfl ⟨rfl, ?_⟩;exact (hbw.setCell (p := ⟨w.heap.size, 0, none⟩) (Nat.le_refl _) _).setCell (p := ⟨w.heap.size, 1, none⟩) (Nat.le_refl _) _
end
end Go.Proofs.YtlnodjcmdnmnlaaGreat
namespace Go.Proofs
open Go.Shelf
def Tryz.lays189_ren : Go.Shelf.Ren := ⟨fun | 189 => 50 | 125 => 83 | 257 => 82 | 128 => 126 | 129 => 127 | 294 => 117 | 295 => 118 | 296 => 119 | 297 => 120 | 298 => 121 | 299 => 122 | 216 => 123 | 300 => 124 | 301 => 125 | 328 => 151 | 329 => 152 | 330 => 153 | 331 => 154 | 332 => 155 | 215 => 156 | 343 => 186 | n => n, fun | 28 => 30 | 3 => 3 | 46 => 158 | 0 => 0 | 51 => 42 | 53 => 145 | 4 => 4 | 183 => 189 | 182 => 188 | 131 => 193 | 5 => 5 | 9 => 9 | 218 => 218 | 222 => 222 | 228 => 237 | 229 => 238 | n => n, fun | n => n⟩
theorem Tryz.lays189 : Go.Proofs.Lays.n189 Tryz.prog Tryz.lays189_ren := {
 mixed := by kernel_rfl
 f125 := Tryz.func83.trans (congrArg some (by kernel_rfl))
 f128 := Tryz.func126.trans (congrArg some (by kernel_rfl))
 f129 := Tryz.func127.trans (congrArg some (by kernel_rfl))
 f189 := Tryz.func50.trans (congrArg some (by kernel_rfl))
 f215 := Tryz.func156.trans (congrArg some (by kernel_rfl))
 f216 := Tryz.func123.trans (congrArg some (by kernel_rfl))
 f257 := Tryz.func82.trans (congrArg some (by kernel_rfl))
 f294 := Tryz.func117.trans (congrArg some (by kernel_rfl))
 f295 := Tryz.func118.trans (congrArg some (by kernel_rfl))
 f296 := Tryz.func119.trans (congrArg some (by kernel_rfl))
 f297 := Tryz.func120.trans (congrArg some (by kernel_rfl))
 f298 := Tryz.func121.trans (congrArg some (by kernel_rfl))
 f299 := Tryz.func122.trans (congrArg some (by kernel_rfl))
 f300 := Tryz.func124.trans (congrArg some (by kernel_rfl))
 f301 := Tryz.func125.trans (congrArg some (by kernel_rfl))
 f328 := Tryz.func151.trans (congrArg some (by kernel_rfl))
 f329 := Tryz.func152.trans (congrArg some (by kernel_rfl))
 f330 := Tryz.func153.trans (congrArg some (by kernel_rfl))
 f331 := Tryz.func154.trans (congrArg some (by kernel_rfl))
 f332 := Tryz.func155.trans (congrArg some (by kernel_rfl))
 f343 := Tryz.func186.trans (congrArg some (by kernel_rfl))
 t0 := Tryz.underlying0
 a0 := Tryz.isAgg0
 z0 := Tryz.sizeOf0
 v0 := Tryz.zeroValue0
 t3 := Tryz.underlying3
 a3 := Tryz.isAgg3
 z3 := Tryz.sizeOf3
 v3 := Tryz.zeroValue3
 t4 := Tryz.underlying4
 a4 := Tryz.isAgg4
 z4 := Tryz.sizeOf4
 v4 := Tryz.zeroValue4
 t5 := Tryz.underlying5
 a5 := Tryz.isAgg5
 z5 := Tryz.sizeOf5
 v5 := Tryz.zeroValue5
 t9 := Tryz.underlying9
 a9 := Tryz.isAgg9
 z9 := Tryz.sizeOf9
 v9 := Tryz.zeroValue9
 t28 := Tryz.underlying30
 a28 := Tryz.isAgg30
 z28 := Tryz.sizeOf30
 v28 := Tryz.zeroValue30
 t46 := Tryz.underlying158
 a46 := Tryz.isAgg158
 z46 := Tryz.sizeOf158
 v46 := Tryz.zeroValue158
 t51 := Tryz.underlying42
 a51 := Tryz.isAgg42
 z51 := Tryz.sizeOf42
 v51 := Tryz.zeroValue42
 t53 := Tryz.underlying145
 a53 := Tryz.isAgg145
 z53 := Tryz.sizeOf145
 v53 := Tryz.zeroValue145
 t131 := Tryz.underlying193
 a131 := Tryz.isAgg193
 z131 := Tryz.sizeOf193
 v131 := Tryz.zeroValue193
 t182 := Tryz.underlying188
 a182 := Tryz.isAgg188
 z182 := Tryz.sizeOf188
 v182 := Tryz.zeroValue188
 t183 := Tryz.underlying189
 a183 := Tryz.isAgg189
 z183 := Tryz.sizeOf189
 v183 := Tryz.zeroValue189
 t218 := Tryz.underlying218
 a218 := Tryz.isAgg218
 z218 := Tryz.sizeOf218
 v218 := Tryz.zeroValue218
 t222 := Tryz.underlying222
 a222 := Tryz.isAgg222
 z222 := Tryz.sizeOf222
 v222 := Tryz.zeroValue222
 t228 := Tryz.underlying237
 a228 := Tryz.isAgg237
 z228 := Tryz.sizeOf237
 v228 := Tryz.zeroValue237
 t229 := Tryz.underlying238
 a229 := Tryz.isAgg238
 z229 := Tryz.sizeOf238
 v229 := Tryz.zeroValue238 }
open Go.Sort Go.RowKit in
theorem Tryz.slices_Sort_int (blk off cap : Nat) (zs : List Int) (w : World) (hH : Holds (Value.int .i64) w blk off zs.toArray) (hblk : blk < w.heap.size) (hsz : zs.length < 4611686018427387904) :
  Calls Tryz.prog 50 #[.slice (some ⟨blk, off, none⟩) zs.length cap] w fun e w' =>
   e = .returned (.tuple #[]) ∧ ∃ n os, w' = grow (putRow (Value.int .i64) (Sort.ahead w n) blk off (zs.mergeSort fun x y => decide (x ≤ y)).toArray) os := Any.slices_Sort_int Tryz.lays189 blk off cap zs w hH hblk hsz
def Tryz.lays264_ren : Go.Shelf.Ren := ⟨fun | 264 => 110 | n => n, fun | 53 => 145 | 46 => 158 | n => n, fun | n => n⟩
theorem Tryz.lays264 : Go.Proofs.Lays.n264 Tryz.prog Tryz.lays264_ren := {
 mixed := by kernel_rfl
 f264 := Tryz.func110.trans (congrArg some (by kernel_rfl))
 t46 := Tryz.underlying158
 a46 := Tryz.isAgg158
 z46 := Tryz.sizeOf158
 v46 := Tryz.zeroValue158
 t53 := Tryz.underlying145
 a53 := Tryz.isAgg145
 z53 := Tryz.sizeOf145
 v53 := Tryz.zeroValue145 }
open Go.RowKit Go.Lib in
theorem Tryz.bits_Mul64 (x y : Nat) (hx : x < 18446744073709551616) (hy : y < 18446744073709551616) (w : World) :
  Calls Tryz.prog 110 #[.int .u64 x, .int .u64 y] w fun e w' => e = .returned (.tuple #[.int .u64 ((x * y / 18446744073709551616 : Nat) : Int), .int .u64 ((x * y % 18446744073709551616 : Nat) : Int)]) ∧ w' = w := Any.bits_Mul64 Tryz.lays264 x y hx hy w
def Tryz.laysNm220_ren : Go.Shelf.Ren := ⟨fun | 20 => 51 | n => n, fun | 22 => 30 | 3 => 3 | 4 => 4 | 0 => 0 | n => n, fun | n => n⟩
theorem Tryz.laysNm220 : Go.Proofs.Lays2.n20 Tryz.prog Tryz.laysNm220_ren := {
 mixed := by kernel_rfl
 f20 := Tryz.func51.trans (congrArg some (by kernel_rfl))
 t0 := Tryz.underlying0
 a0 := Tryz.isAgg0
 z0 := Tryz.sizeOf0
 v0 := Tryz.zeroValue0
 t3 := Tryz.underlying3
 a3 := Tryz.isAgg3
 z3 := Tryz.sizeOf3
 v3 := Tryz.zeroValue3
 t4 := Tryz.underlying4
 a4 := Tryz.isAgg4
 z4 := Tryz.sizeOf4
 v4 := Tryz.zeroValue4
 t22 := Tryz.underlying30
 a22 := Tryz.isAgg30
 z22 := Tryz.sizeOf30
 v22 := Tryz.zeroValue30
 i3 := by kernel_rfl }
open Go.RowKit Go.Lib Go.Sort in
theorem Tryz.slices_Compact_int (blk off cap : Nat) (zs : List Int) (w : World) (hH : Holds (Value.int .i64) w blk off zs.toArray) (hsz : zs.length ≤ 9223372036854775807) (hcap : zs.length ≤ cap) :
  Calls Tryz.prog 51 #[.slice (some ⟨blk, off, none⟩) zs.length cap] w fun e w' => e = .returned (.slice (some ⟨blk, off, none⟩) (Lib.compact zs).length cap) ∧ ∃ q, w' = putRow (Value.int .i64) (Sort.ahead w q) blk off (Lib.compact zs ++ List.replicate (zs.length - (Lib.compact zs).length) 0).toArray := Any.slices_Compact_int Tryz.laysNm220 blk off cap zs w hH hsz hcap
end Go.Proofs
namespace Go.Proofs.YtlnodjcmdnmnlaaGreat
set_option maxRecDepth 100000
set_option maxHeartbeats 80000000
section
open Go.RowKit Go.Shelf
theorem add64s (x y : Int) (hx : 0 ≤ x) (hy : 0 ≤ y) (h : x + y < 18446744073709551616) (w : World) : (callFunc 201 #[.int .u64 x, .int .u64 y, .int .u64 0]).run Tryz.prog w =
  .ok (.value (.tuple #[.int .u64 (x + y), .int .u64 0])) w := by
 obtain ⟨x, rfl⟩ := Int.eq_ofNat_of_zero_le hx;obtain ⟨y, rfl⟩ := Int.eq_ofNat_of_zero_le hy;rw [run_callFunc_extern Tryz.func201 (by kernel_rfl) (by kernel_rfl) (by kernel_rfl) (e := add64Entry) (by kernel_rfl), run_add64 x y 0 (by omega) (by omega) (by omega) (by omega)];have e1 : ((x : Int) + y + 0) % 18446744073709551616 = x + y := by omega
 have e2 : ((x : Int) + y + 0) / 18446744073709551616 = 0 := by omega
 rw [e1, e2]
 rfl
theorem sub64s (x y : Int) (hx : x < 18446744073709551616) (hy : 0 ≤ y) (h : y ≤ x) (w : World) : (callFunc 202 #[.int .u64 x, .int .u64 y, .int .u64 0]).run Tryz.prog w =
  .ok (.value (.tuple #[.int .u64 (x - y), .int .u64 0])) w := by
 obtain ⟨x, rfl⟩ := Int.eq_ofNat_of_zero_le (show 0 ≤ x by omega);obtain ⟨y, rfl⟩ := Int.eq_ofNat_of_zero_le hy;refine Eq.trans (b := (callFunc 202 #[.int .u64 (x : Int), .int .u64 (y : Int), .int .u64 ((0 : Nat) : Int)]).run Tryz.prog w) rfl ?_;rw [run_callFunc_extern Tryz.func202 (by kernel_rfl) (by kernel_rfl) (by kernel_rfl) (e := sub64Entry) (by kernel_rfl), run_sub64 x y 0 (by omega) w, if_neg (by omega)];have e : (((x + 18446744073709551616 - y - 0) % 18446744073709551616 : Nat) : Int) = (x : Int) - y := by omega
 rw [e]
 rfl

theorem mul64_any (x y : Int) (hx : 0 ≤ x) (hx' : x < 18446744073709551616) (hy : 0 ≤ y) (hy' : y < 18446744073709551616) (w : World) :
  Calls Tryz.prog 110 #[.int .u64 x, .int .u64 y] w fun e w' => e = .returned (.tuple #[.int .u64 (x * y / 18446744073709551616), .int .u64 (x * y % 18446744073709551616)]) ∧ w = w' := by
 obtain ⟨x, rfl⟩ := Int.eq_ofNat_of_zero_le hx;obtain ⟨y, rfl⟩ := Int.eq_ofNat_of_zero_le hy;exact (Tryz.bits_Mul64 x y (by omega) (by omega) w).mono fun e w' h => ⟨h.1.trans (by simp), h.2.symm⟩

theorem product_any (x y : Int) (hx : 0 ≤ x) (hx' : x < 18446744073709551616) (hy : 0 ≤ y) (hy' : y < 18446744073709551616) (w : World) :
  Calls Tryz.prog 73 #[.int .u64 x, .int .u64 y] w fun e w' => e = .returned (.agg #[.int .u64 (x * y / 18446744073709551616), .int .u64 (x * y % 18446744073709551616)]) ∧ Below w.heap.size w w' := by
 obtain ⟨h, hh⟩ := nm (x * y / 18446744073709551616);obtain ⟨l, hl⟩ := nm (x * y % 18446744073709551616);have HH := lh hh;have HL := lh hl;rw [hh, hl];clear hh hl
 go_enter Tryz.func73, Tryz.ntmps73
 go_wp2_with (go_at_call 110; (with_reducible refine (mul64_any x y hx hx' hy hy' _).mono ?_); rintro e w' ⟨rfl, rfl⟩; rw [HH.out, HL.out])
 refine bodyPost_ret (v := .agg #[.int .u64 h, .int .u64 l]) (by simp [results, Tryz.results73, go_sem]) rfl ⟨rfl, ?_⟩;exact below_new _ _
theorem product_small (x y : Int) (hx : 0 ≤ x) (hx' : x < 18446744073709551616) (hy : 0 ≤ y) (hy' : y < 18446744073709551616) (h : x * y < 18446744073709551616) (w : World) :
  Calls Tryz.prog 73 #[.int .u64 x, .int .u64 y] w fun e w' => e = .returned (.agg #[.int .u64 0, .int .u64 (x * y)]) ∧ Below w.heap.size w w' := by
 have h0 := Int.mul_nonneg hx hy;have e1 : x * y / 18446744073709551616 = 0 := by omega
 have e2 : x * y % 18446744073709551616 = x * y := by omega
 have := product_any x y hx hx' hy hy' w;rw [e1, e2] at this;exact this

theorem plus_small (a b : Int) (ha : 0 ≤ a) (hb : 0 ≤ b) (h : a + b < 18446744073709551616) (w : World) :
  Calls Tryz.prog 197 #[.agg #[.int .u64 0, .int .u64 a], .agg #[.int .u64 0, .int .u64 b]] w fun e w' => e = .returned (.agg #[.int .u64 0, .int .u64 (a + b)]) ∧ Below w.heap.size w w' := by
 have z := add64s 0 0 (by decide) (by decide) (by decide);simp only [Int.add_zero] at z
 go_enter Tryz.func197, Tryz.ntmps197
 go_wp2_with (first | simp only [z] | simp only [add64s a b ha hb h])
 refine bodyPost_ret (v := .agg #[.int .u64 0, .int .u64 (a + b)]) (by simp [results, Tryz.results197, go_sem]) rfl ⟨rfl, ?_⟩;exact ((below_new _ _).alloc (by simp) _).alloc (by simp; omega) _
theorem minus_small (a b : Int) (ha : a < 18446744073709551616) (hb : 0 ≤ b) (h : b ≤ a) (w : World) :
  Calls Tryz.prog 198 #[.agg #[.int .u64 0, .int .u64 a], .agg #[.int .u64 0, .int .u64 b]] w fun e w' => e = .returned (.agg #[.int .u64 0, .int .u64 (a - b)]) ∧ Below w.heap.size w w' := by
 have z := sub64s 0 0 (by decide) (by decide) (by decide);simp only [Int.sub_zero] at z
 go_enter Tryz.func198, Tryz.ntmps198
 go_wp2_with (first | simp only [z] | simp only [sub64s a b ha hb h])
 refine bodyPost_ret (v := .agg #[.int .u64 0, .int .u64 (a - b)]) (by simp [results, Tryz.results198, go_sem]) rfl ⟨rfl, ?_⟩;exact ((below_new _ _).alloc (by simp) _).alloc (by simp; omega) _
theorem less_small (a b : Int) (w : World) :
  Calls Tryz.prog 109 #[.agg #[.int .u64 0, .int .u64 a], .agg #[.int .u64 0, .int .u64 b]] w fun e w' => e = .returned (.bool (decide (a < b))) ∧ Below w.heap.size w w' := by
 go_enter Tryz.func109, Tryz.ntmps109
 go_wp2
 go_ret;exact ⟨by simp, (below_new _ _).alloc (by simp) _⟩

theorem div64_small (x y : Int) (hx : 0 ≤ x) (hx' : x < 18446744073709551616) (hy : 0 < y) (hy' : y < 18446744073709551616) (w : World) :
  Calls Tryz.prog 203 #[.int .u64 0, .int .u64 x, .int .u64 y] w fun e w' => e = .returned (.tuple #[.int .u64 (x / y), .int .u64 (x % y)]) ∧ ∃ m, w' = w.drewN m := by
 have y0 : ¬ y = 0 := by omega
 have y0' : (y == 0) = false := by simpa using y0
 have y1 : decide (y ≤ 0) = false := by simp; omega
 have q0 : 0 ≤ x / y := Int.ediv_nonneg hx (by omega);have q2 : IntKind.u64.wrap (x.tdiv y) = x / y := by rw [Int.tdiv_eq_ediv_of_nonneg hx, IntKind.wrap_u64]; exact Int.emod_eq_of_lt q0 (by have := Int.ediv_le_self y hx; omega)
 have r0 : 0 ≤ x % y := Int.emod_nonneg _ y0;have r1 : x % y < y := Int.emod_lt_of_pos _ hy;have q3 : IntKind.u64.wrap (x.tmod y) = x % y := by rw [Int.tmod_eq_emod_of_nonneg hx, IntKind.wrap_u64]; omega
 go_enter Tryz.func203, Tryz.ntmps203
 go_wp2_with fail
 go_quiet (fail)
 go_wp2_with fail
 go_ret2
 exact ⟨by first | rfl | rw [q2] | rw [q2, q3], _, rfl⟩

theorem over_small (x y : Int) (hx : 0 ≤ x) (hx' : x < 18446744073709551616) (hy : 0 < y) (hy' : y < 18446744073709551616) (w : World) :
  Calls Tryz.prog 199 #[.agg #[.int .u64 0, .int .u64 x], .int .u64 y] w fun e w' => e = .returned (.tuple #[.agg #[.int .u64 0, .int .u64 (x / y)], .int .u64 (x % y)]) ∧ Below w.heap.size w w' := by
 have y0 : ¬ y = 0 := by omega
 have y0' : (y == 0) = false := by simpa using y0
 have z1 : (0 : Int) % y = 0 := Int.zero_emod y;have z2 : (0 : Int) / y = 0 := Int.zero_ediv y;have z3 : (0 : Int).tdiv y = 0 := Int.zero_tdiv y;have z4 : (0 : Int).tmod y = 0 := Int.zero_tmod y
 go_enter Tryz.func199, Tryz.ntmps199
 go_wp2_with fail
 go_quiet ((go_at_call 203; refine Calls.quiet_of (div64_small x y hx hx' hy hy' _)))
 go_wp2_with fail
 refine bodyPost_ret (v := .tuple #[.agg #[.int .u64 0, .int .u64 (x / y)], .int .u64 (x % y)]) (by simp [results, Tryz.results199, go_sem]) rfl ⟨rfl, ?_⟩;exact ((below_drewN ((below_new _ _).alloc (by simp) _) _).setCell (p := ⟨w.heap.size + 1, 0, none⟩) (by simp) _).setCell (p := ⟨w.heap.size + 1, 1, none⟩) (by simp) _
end
end Go.Proofs.YtlnodjcmdnmnlaaGreat
