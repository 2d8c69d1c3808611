/-
  THE WALK of ratio.Make.
-/
import Derived.Test.YtlgpolfbilkmbaaRat1
import Derived.Deep.RegionHeld3
import Derived.StillTailTactics
namespace Go.Proofs.Ytlgpolfbilkmbaa
open Go.RowKit Go.Shelf

theorem held_next {wr w1 w2 : World} (h : Below wr.heap.size wr w1) (h2 : Below w1.heap.size w1 w2) : Below wr.heap.size wr w2 := h.trans (h2.mono h.size)
def makeP (n d : Int) : Int × Int × Int := if d = 0 then (0, 0, 16) else signP (!(n == 0) && (decide (n < 0) != decide (d < 0))) ((n.natAbs : Int) / (Int.gcd n d : Int)) ((d.natAbs : Int) / (Int.gcd n d : Int))

set_option maxRecDepth 100000 in
set_option maxHeartbeats 4000000 in
theorem make_any (n d : Int) (hn0 : ¬ n = 0) (n1 : -9223372036854775808 ≤ n) (n2 : n ≤ 9223372036854775807) (d1 : -9223372036854775808 ≤ d) (d2 : d ≤ 9223372036854775807) (w : World) :
    Calls Try.prog 35 #[.int .i64 n, .int .i64 d] w fun e w' => e = .returned (.tuple #[.agg #[.int .i64 (makeP n d).1, .int .i64 (makeP n d).2.1], .int .i64 (makeP n d).2.2]) ∧ Below w.heap.size w w' := by
  by_cases hd : d = 0
  · have HR : Hid (makeP n d = (0, 0, 16)) := Lib.hid (by unfold makeP; rw [if_pos hd])
    rw [HR.out]
    subst hd
    go_enter Try.func35, Try.ntmps35
    go_wp2
    refine bodyPost_ret (v := .tuple #[.agg #[.int .i64 0, .int .i64 0], .int .i64 16]) (by simp [results, Try.results35, go_sem]) rfl ⟨rfl, ?_⟩
    exact below_new _ _
  · have hd0 : (d == 0) = false := by simpa using hd
    obtain ⟨a, ha⟩ : ∃ a : Int, (n.natAbs : Int) = a := ⟨_, rfl⟩
    obtain ⟨b, hb⟩ : ∃ b : Int, (d.natAbs : Int) = b := ⟨_, rfl⟩
    obtain ⟨g, hg⟩ : ∃ g : Int, (Int.gcd a b : Int) = g := ⟨_, rfl⟩
    have a0 : 0 ≤ a := by omega
    have a1 : a < 18446744073709551616 := by omega
    have b0 : 0 < b := by omega
    have b1 : b < 18446744073709551616 := by omega
    have gp : 0 < g := by rw [← hg]; exact gcd_posR b0
    have g0 : ¬ g = 0 := by omega
    have g0' : (g == 0) = false := by simpa using g0
    have q0 : 0 ≤ a / g := Int.ediv_nonneg a0 (by omega)
    have q1 : 0 ≤ b / g := Int.ediv_nonneg (by omega) (by omega)
    have q2 : IntKind.u64.wrap (a.tdiv g) = a / g := by rw [Int.tdiv_eq_ediv_of_nonneg a0, IntKind.wrap_u64]; exact Int.emod_eq_of_lt q0 (by have := Int.ediv_le_self g a0; omega)
    have q3 : IntKind.u64.wrap (b.tdiv g) = b / g := by rw [Int.tdiv_eq_ediv_of_nonneg (by omega), IntKind.wrap_u64]; exact Int.emod_eq_of_lt q1 (by have := Int.ediv_le_self g (Int.le_of_lt b0); omega)
    have hgg : Int.gcd n d = Int.gcd a b := by rw [← ha, ← hb]; simp [Int.gcd]
    have HA := Lib.hid ha
    have HB := Lib.hid hb
    have HG := Lib.hid hg
    have HP : Hid (makeP n d = signP (!(n == 0) && (decide (n < 0) != decide (d < 0))) (a / g) (b / g)) := Lib.hid (by unfold makeP; rw [if_neg hd, ha, hb, hgg, hg])
    clear ha hb hg hgg hd
    have c0 : (n == 0) = false := by simpa using hn0
    have c0' : (n != 0) = true := by simpa using hn0
    clear hn0
    by_cases hn : n < 0
    · have c1 := decide_eq_true hn
      clear hn
      by_cases hd : d < 0
      · have c2 := decide_eq_true hd
        clear hd
        obtain ⟨r, hr⟩ : ∃ r, signP false (a / g) (b / g) = r := ⟨_, rfl⟩
        have HR : Hid (makeP n d = r) := Lib.hid (by rw [HP.out, c0, c1, c2, show (!false && (true != true)) = false from rfl]; exact hr)
        have HS := Lib.hid hr
        rw [HR.out]
        clear hr
        go_enter Try.func35, Try.ntmps35
        go_wp2_with (first | (go_at_call 64; (with_reducible refine (size_any n n1 n2 _).mono ?_); rintro e w' ⟨rfl, rfl⟩; rw [HA.out]) | (go_at_call 64; (with_reducible refine (size_any d d1 d2 _).mono ?_); rintro e w' ⟨rfl, rfl⟩; rw [HB.out]) | (go_at_call 62; (with_reducible refine (gcd_any a b a0 a1 (by omega) b1 _).mono ?_); rintro e w' ⟨rfl, m, rfl⟩; rw [HG.out]))
        have hbr : Below w.heap.size w ((w.alloc (.cells #[.int .i64 0, .int .i64 0] 39)).drewN m) := below_drewN (below_new _ _) _
        have z0 : ((w.alloc (.cells #[.int .i64 0, .int .i64 0] 39)).drewN m).cell? ⟨w.heap.size, 0, none⟩ = some (.int .i64 0) := by simp
        have z1 : ((w.alloc (.cells #[.int .i64 0, .int .i64 0] 39)).drewN m).cell? ⟨w.heap.size, 1, none⟩ = some (.int .i64 0) := by simp
        have z2 : ((w.alloc (.cells #[.int .i64 0, .int .i64 0] 39)).drewN m).frozen? ⟨w.heap.size, 0, none⟩ = false := by simp
        have z3 : ((w.alloc (.cells #[.int .i64 0, .int .i64 0] 39)).drewN m).frozen? ⟨w.heap.size, 1, none⟩ = false := by simp
        have z4 : w.heap.size < ((w.alloc (.cells #[.int .i64 0, .int .i64 0] 39)).drewN m).heap.size := by simp
        generalize (w.alloc (.cells #[.int .i64 0, .int .i64 0] 39)).drewN m = W0 at *
        have HSS : Hid (∀ w', Below W0.heap.size W0 w' → Below W0.heap.size W0 w' ∧ w'.cell? ⟨w.heap.size, 0, none⟩ = some (.int .i64 0) ∧ w'.cell? ⟨w.heap.size, 1, none⟩ = some (.int .i64 0) ∧ w'.frozen? ⟨w.heap.size, 0, none⟩ = false ∧ w'.frozen? ⟨w.heap.size, 1, none⟩ = false) := Lib.hid fun w' h => ⟨h, (h.cell (p := ⟨w.heap.size, 0, none⟩) z4).trans z0, (h.cell (p := ⟨w.heap.size, 1, none⟩) z4).trans z1, (h.frozen (p := ⟨w.heap.size, 0, none⟩) z4).trans z2, (h.frozen (p := ⟨w.heap.size, 1, none⟩) z4).trans z3⟩
        have hb0 := Below.refl W0.heap.size W0
        first
        | go_region_held3 (fun w' => Below w.heap.size w w')
            (first | exact hbr.drew | exact hbr | exact hbw | exact (hbw.setCell (p := ⟨w.heap.size, 0, none⟩) (Nat.le_refl _) _).setCell (p := ⟨w.heap.size, 1, none⟩) (Nat.le_refl _) _)
            (first
              | (go_at_call 69; go_split_ands; (with_reducible refine (signed_any false (a / g) (b / g) q0 q1 _).mono ?_); rintro e w2 ⟨rfl, hb2⟩; rw [HS.out]; obtain ⟨hbn, u0, u1, u2, u3⟩ := HSS.out _ (held_next (wr := W0) hb0.drew hb2); have hbw := hbr.trans (hbn.mono (by omega))))
        | fail
        all_goals go_wp2
        all_goals
          have s0 := World.cell?_setCell_same w2 ⟨w.heap.size, 0, none⟩ (.int .i64 r.1) u0
          have s1 : (w2.setCell ⟨w.heap.size, 0, none⟩ (.int .i64 r.1)).cell? ⟨w.heap.size, 1, none⟩ = some (.int .i64 0) := (World.cell?_setCell_other _ _ _ _ (fun x => absurd (congrArg Addr.off x) (by simp))).trans u1
          have s2 := World.cell?_setCell_same _ ⟨w.heap.size, 1, none⟩ (.int .i64 r.2.1) s1
          have s3 : ((w2.setCell ⟨w.heap.size, 0, none⟩ (.int .i64 r.1)).setCell ⟨w.heap.size, 1, none⟩ (.int .i64 r.2.1)).cell? ⟨w.heap.size, 0, none⟩ = some (.int .i64 r.1) := (World.cell?_setCell_other _ _ _ _ (fun x => absurd (congrArg Addr.off x) (by simp))).trans s0
          refine bodyPost_ret (v := .tuple #[.agg #[.int .i64 r.1, .int .i64 r.2.1], .int .i64 r.2.2]) (by simp [results, Try.results35, go_sem, s2, s3]) rfl ⟨rfl, ?_⟩
          exact (hbw.setCell (p := ⟨w.heap.size, 0, none⟩) (Nat.le_refl _) _).setCell (p := ⟨w.heap.size, 1, none⟩) (Nat.le_refl _) _
      · have c2 := decide_eq_false hd
        clear hd
        obtain ⟨r, hr⟩ : ∃ r, signP true (a / g) (b / g) = r := ⟨_, rfl⟩
        have HR : Hid (makeP n d = r) := Lib.hid (by rw [HP.out, c0, c1, c2, show (!false && (true != false)) = true from rfl]; exact hr)
        have HS := Lib.hid hr
        rw [HR.out]
        clear hr
        go_enter Try.func35, Try.ntmps35
        go_wp2_with (first | (go_at_call 64; (with_reducible refine (size_any n n1 n2 _).mono ?_); rintro e w' ⟨rfl, rfl⟩; rw [HA.out]) | (go_at_call 64; (with_reducible refine (size_any d d1 d2 _).mono ?_); rintro e w' ⟨rfl, rfl⟩; rw [HB.out]) | (go_at_call 62; (with_reducible refine (gcd_any a b a0 a1 (by omega) b1 _).mono ?_); rintro e w' ⟨rfl, m, rfl⟩; rw [HG.out]))
        have hbr : Below w.heap.size w ((w.alloc (.cells #[.int .i64 0, .int .i64 0] 39)).drewN m) := below_drewN (below_new _ _) _
        have z0 : ((w.alloc (.cells #[.int .i64 0, .int .i64 0] 39)).drewN m).cell? ⟨w.heap.size, 0, none⟩ = some (.int .i64 0) := by simp
        have z1 : ((w.alloc (.cells #[.int .i64 0, .int .i64 0] 39)).drewN m).cell? ⟨w.heap.size, 1, none⟩ = some (.int .i64 0) := by simp
        have z2 : ((w.alloc (.cells #[.int .i64 0, .int .i64 0] 39)).drewN m).frozen? ⟨w.heap.size, 0, none⟩ = false := by simp
        have z3 : ((w.alloc (.cells #[.int .i64 0, .int .i64 0] 39)).drewN m).frozen? ⟨w.heap.size, 1, none⟩ = false := by simp
        have z4 : w.heap.size < ((w.alloc (.cells #[.int .i64 0, .int .i64 0] 39)).drewN m).heap.size := by simp
        generalize (w.alloc (.cells #[.int .i64 0, .int .i64 0] 39)).drewN m = W0 at *
        have HSS : Hid (∀ w', Below W0.heap.size W0 w' → Below W0.heap.size W0 w' ∧ w'.cell? ⟨w.heap.size, 0, none⟩ = some (.int .i64 0) ∧ w'.cell? ⟨w.heap.size, 1, none⟩ = some (.int .i64 0) ∧ w'.frozen? ⟨w.heap.size, 0, none⟩ = false ∧ w'.frozen? ⟨w.heap.size, 1, none⟩ = false) := Lib.hid fun w' h => ⟨h, (h.cell (p := ⟨w.heap.size, 0, none⟩) z4).trans z0, (h.cell (p := ⟨w.heap.size, 1, none⟩) z4).trans z1, (h.frozen (p := ⟨w.heap.size, 0, none⟩) z4).trans z2, (h.frozen (p := ⟨w.heap.size, 1, none⟩) z4).trans z3⟩
        have hb0 := Below.refl W0.heap.size W0
        first
        | go_region_held3 (fun w' => Below w.heap.size w w')
            (first | exact hbr.drew | exact hbr | exact hbw | exact (hbw.setCell (p := ⟨w.heap.size, 0, none⟩) (Nat.le_refl _) _).setCell (p := ⟨w.heap.size, 1, none⟩) (Nat.le_refl _) _)
            (first
              | (go_at_call 69; go_split_ands; (with_reducible refine (signed_any true (a / g) (b / g) q0 q1 _).mono ?_); rintro e w2 ⟨rfl, hb2⟩; rw [HS.out]; obtain ⟨hbn, u0, u1, u2, u3⟩ := HSS.out _ (held_next (wr := W0) hb0.drew hb2); have hbw := hbr.trans (hbn.mono (by omega))))
        | fail
        all_goals go_wp2
        all_goals
          have s0 := World.cell?_setCell_same w2 ⟨w.heap.size, 0, none⟩ (.int .i64 r.1) u0
          have s1 : (w2.setCell ⟨w.heap.size, 0, none⟩ (.int .i64 r.1)).cell? ⟨w.heap.size, 1, none⟩ = some (.int .i64 0) := (World.cell?_setCell_other _ _ _ _ (fun x => absurd (congrArg Addr.off x) (by simp))).trans u1
          have s2 := World.cell?_setCell_same _ ⟨w.heap.size, 1, none⟩ (.int .i64 r.2.1) s1
          have s3 : ((w2.setCell ⟨w.heap.size, 0, none⟩ (.int .i64 r.1)).setCell ⟨w.heap.size, 1, none⟩ (.int .i64 r.2.1)).cell? ⟨w.heap.size, 0, none⟩ = some (.int .i64 r.1) := (World.cell?_setCell_other _ _ _ _ (fun x => absurd (congrArg Addr.off x) (by simp))).trans s0
          refine bodyPost_ret (v := .tuple #[.agg #[.int .i64 r.1, .int .i64 r.2.1], .int .i64 r.2.2]) (by simp [results, Try.results35, go_sem, s2, s3]) rfl ⟨rfl, ?_⟩
          exact (hbw.setCell (p := ⟨w.heap.size, 0, none⟩) (Nat.le_refl _) _).setCell (p := ⟨w.heap.size, 1, none⟩) (Nat.le_refl _) _
    · have c1 := decide_eq_false hn
      clear hn
      by_cases hd : d < 0
      · have c2 := decide_eq_true hd
        clear hd
        obtain ⟨r, hr⟩ : ∃ r, signP true (a / g) (b / g) = r := ⟨_, rfl⟩
        have HR : Hid (makeP n d = r) := Lib.hid (by rw [HP.out, c0, c1, c2, show (!false && (false != true)) = true from rfl]; exact hr)
        have HS := Lib.hid hr
        rw [HR.out]
        clear hr
        go_enter Try.func35, Try.ntmps35
        go_wp2_with (first | (go_at_call 64; (with_reducible refine (size_any n n1 n2 _).mono ?_); rintro e w' ⟨rfl, rfl⟩; rw [HA.out]) | (go_at_call 64; (with_reducible refine (size_any d d1 d2 _).mono ?_); rintro e w' ⟨rfl, rfl⟩; rw [HB.out]) | (go_at_call 62; (with_reducible refine (gcd_any a b a0 a1 (by omega) b1 _).mono ?_); rintro e w' ⟨rfl, m, rfl⟩; rw [HG.out]))
        have hbr : Below w.heap.size w ((w.alloc (.cells #[.int .i64 0, .int .i64 0] 39)).drewN m) := below_drewN (below_new _ _) _
        have z0 : ((w.alloc (.cells #[.int .i64 0, .int .i64 0] 39)).drewN m).cell? ⟨w.heap.size, 0, none⟩ = some (.int .i64 0) := by simp
        have z1 : ((w.alloc (.cells #[.int .i64 0, .int .i64 0] 39)).drewN m).cell? ⟨w.heap.size, 1, none⟩ = some (.int .i64 0) := by simp
        have z2 : ((w.alloc (.cells #[.int .i64 0, .int .i64 0] 39)).drewN m).frozen? ⟨w.heap.size, 0, none⟩ = false := by simp
        have z3 : ((w.alloc (.cells #[.int .i64 0, .int .i64 0] 39)).drewN m).frozen? ⟨w.heap.size, 1, none⟩ = false := by simp
        have z4 : w.heap.size < ((w.alloc (.cells #[.int .i64 0, .int .i64 0] 39)).drewN m).heap.size := by simp
        generalize (w.alloc (.cells #[.int .i64 0, .int .i64 0] 39)).drewN m = W0 at *
        have HSS : Hid (∀ w', Below W0.heap.size W0 w' → Below W0.heap.size W0 w' ∧ w'.cell? ⟨w.heap.size, 0, none⟩ = some (.int .i64 0) ∧ w'.cell? ⟨w.heap.size, 1, none⟩ = some (.int .i64 0) ∧ w'.frozen? ⟨w.heap.size, 0, none⟩ = false ∧ w'.frozen? ⟨w.heap.size, 1, none⟩ = false) := Lib.hid fun w' h => ⟨h, (h.cell (p := ⟨w.heap.size, 0, none⟩) z4).trans z0, (h.cell (p := ⟨w.heap.size, 1, none⟩) z4).trans z1, (h.frozen (p := ⟨w.heap.size, 0, none⟩) z4).trans z2, (h.frozen (p := ⟨w.heap.size, 1, none⟩) z4).trans z3⟩
        have hb0 := Below.refl W0.heap.size W0
        first
        | go_region_held3 (fun w' => Below w.heap.size w w')
            (first | exact hbr.drew | exact hbr | exact hbw | exact (hbw.setCell (p := ⟨w.heap.size, 0, none⟩) (Nat.le_refl _) _).setCell (p := ⟨w.heap.size, 1, none⟩) (Nat.le_refl _) _)
            (first
              | (go_at_call 69; go_split_ands; (with_reducible refine (signed_any true (a / g) (b / g) q0 q1 _).mono ?_); rintro e w2 ⟨rfl, hb2⟩; rw [HS.out]; obtain ⟨hbn, u0, u1, u2, u3⟩ := HSS.out _ (held_next (wr := W0) hb0.drew hb2); have hbw := hbr.trans (hbn.mono (by omega))))
        | fail
        all_goals go_wp2
        all_goals
          have s0 := World.cell?_setCell_same w2 ⟨w.heap.size, 0, none⟩ (.int .i64 r.1) u0
          have s1 : (w2.setCell ⟨w.heap.size, 0, none⟩ (.int .i64 r.1)).cell? ⟨w.heap.size, 1, none⟩ = some (.int .i64 0) := (World.cell?_setCell_other _ _ _ _ (fun x => absurd (congrArg Addr.off x) (by simp))).trans u1
          have s2 := World.cell?_setCell_same _ ⟨w.heap.size, 1, none⟩ (.int .i64 r.2.1) s1
          have s3 : ((w2.setCell ⟨w.heap.size, 0, none⟩ (.int .i64 r.1)).setCell ⟨w.heap.size, 1, none⟩ (.int .i64 r.2.1)).cell? ⟨w.heap.size, 0, none⟩ = some (.int .i64 r.1) := (World.cell?_setCell_other _ _ _ _ (fun x => absurd (congrArg Addr.off x) (by simp))).trans s0
          refine bodyPost_ret (v := .tuple #[.agg #[.int .i64 r.1, .int .i64 r.2.1], .int .i64 r.2.2]) (by simp [results, Try.results35, go_sem, s2, s3]) rfl ⟨rfl, ?_⟩
          exact (hbw.setCell (p := ⟨w.heap.size, 0, none⟩) (Nat.le_refl _) _).setCell (p := ⟨w.heap.size, 1, none⟩) (Nat.le_refl _) _
      · have c2 := decide_eq_false hd
        clear hd
        obtain ⟨r, hr⟩ : ∃ r, signP false (a / g) (b / g) = r := ⟨_, rfl⟩
        have HR : Hid (makeP n d = r) := Lib.hid (by rw [HP.out, c0, c1, c2, show (!false && (false != false)) = false from rfl]; exact hr)
        have HS := Lib.hid hr
        rw [HR.out]
        clear hr
        go_enter Try.func35, Try.ntmps35
        go_wp2_with (first | (go_at_call 64; (with_reducible refine (size_any n n1 n2 _).mono ?_); rintro e w' ⟨rfl, rfl⟩; rw [HA.out]) | (go_at_call 64; (with_reducible refine (size_any d d1 d2 _).mono ?_); rintro e w' ⟨rfl, rfl⟩; rw [HB.out]) | (go_at_call 62; (with_reducible refine (gcd_any a b a0 a1 (by omega) b1 _).mono ?_); rintro e w' ⟨rfl, m, rfl⟩; rw [HG.out]))
        have hbr : Below w.heap.size w ((w.alloc (.cells #[.int .i64 0, .int .i64 0] 39)).drewN m) := below_drewN (below_new _ _) _
        have z0 : ((w.alloc (.cells #[.int .i64 0, .int .i64 0] 39)).drewN m).cell? ⟨w.heap.size, 0, none⟩ = some (.int .i64 0) := by simp
        have z1 : ((w.alloc (.cells #[.int .i64 0, .int .i64 0] 39)).drewN m).cell? ⟨w.heap.size, 1, none⟩ = some (.int .i64 0) := by simp
        have z2 : ((w.alloc (.cells #[.int .i64 0, .int .i64 0] 39)).drewN m).frozen? ⟨w.heap.size, 0, none⟩ = false := by simp
        have z3 : ((w.alloc (.cells #[.int .i64 0, .int .i64 0] 39)).drewN m).frozen? ⟨w.heap.size, 1, none⟩ = false := by simp
        have z4 : w.heap.size < ((w.alloc (.cells #[.int .i64 0, .int .i64 0] 39)).drewN m).heap.size := by simp
        generalize (w.alloc (.cells #[.int .i64 0, .int .i64 0] 39)).drewN m = W0 at *
        have HSS : Hid (∀ w', Below W0.heap.size W0 w' → Below W0.heap.size W0 w' ∧ w'.cell? ⟨w.heap.size, 0, none⟩ = some (.int .i64 0) ∧ w'.cell? ⟨w.heap.size, 1, none⟩ = some (.int .i64 0) ∧ w'.frozen? ⟨w.heap.size, 0, none⟩ = false ∧ w'.frozen? ⟨w.heap.size, 1, none⟩ = false) := Lib.hid fun w' h => ⟨h, (h.cell (p := ⟨w.heap.size, 0, none⟩) z4).trans z0, (h.cell (p := ⟨w.heap.size, 1, none⟩) z4).trans z1, (h.frozen (p := ⟨w.heap.size, 0, none⟩) z4).trans z2, (h.frozen (p := ⟨w.heap.size, 1, none⟩) z4).trans z3⟩
        have hb0 := Below.refl W0.heap.size W0
        first
        | go_region_held3 (fun w' => Below w.heap.size w w')
            (first | exact hbr.drew | exact hbr | exact hbw | exact (hbw.setCell (p := ⟨w.heap.size, 0, none⟩) (Nat.le_refl _) _).setCell (p := ⟨w.heap.size, 1, none⟩) (Nat.le_refl _) _)
            (first
              | (go_at_call 69; go_split_ands; (with_reducible refine (signed_any false (a / g) (b / g) q0 q1 _).mono ?_); rintro e w2 ⟨rfl, hb2⟩; rw [HS.out]; obtain ⟨hbn, u0, u1, u2, u3⟩ := HSS.out _ (held_next (wr := W0) hb0.drew hb2); have hbw := hbr.trans (hbn.mono (by omega))))
        | fail
        all_goals go_wp2
        all_goals
          have s0 := World.cell?_setCell_same w2 ⟨w.heap.size, 0, none⟩ (.int .i64 r.1) u0
          have s1 : (w2.setCell ⟨w.heap.size, 0, none⟩ (.int .i64 r.1)).cell? ⟨w.heap.size, 1, none⟩ = some (.int .i64 0) := (World.cell?_setCell_other _ _ _ _ (fun x => absurd (congrArg Addr.off x) (by simp))).trans u1
          have s2 := World.cell?_setCell_same _ ⟨w.heap.size, 1, none⟩ (.int .i64 r.2.1) s1
          have s3 : ((w2.setCell ⟨w.heap.size, 0, none⟩ (.int .i64 r.1)).setCell ⟨w.heap.size, 1, none⟩ (.int .i64 r.2.1)).cell? ⟨w.heap.size, 0, none⟩ = some (.int .i64 r.1) := (World.cell?_setCell_other _ _ _ _ (fun x => absurd (congrArg Addr.off x) (by simp))).trans s0
          refine bodyPost_ret (v := .tuple #[.agg #[.int .i64 r.1, .int .i64 r.2.1], .int .i64 r.2.2]) (by simp [results, Try.results35, go_sem, s2, s3]) rfl ⟨rfl, ?_⟩
          exact (hbw.setCell (p := ⟨w.heap.size, 0, none⟩) (Nat.le_refl _) _).setCell (p := ⟨w.heap.size, 1, none⟩) (Nat.le_refl _) _
end Go.Proofs.Ytlgpolfbilkmbaa
