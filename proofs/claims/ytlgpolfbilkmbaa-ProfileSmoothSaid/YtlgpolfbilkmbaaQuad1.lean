/-
  THE WALKS of the sums of package quadratic: zero, keep, add, sub, mul.
-/
import Derived.Test.YtlgpolfbilkmbaaQuadP
import Derived.Test.YtlgpolfbilkmbaaRat11
import Derived.Test.YtlgpolfbilkmbaaSm
namespace Go.Proofs.Ytlgpolfbilkmbaa
open Go.RowKit Go.Shelf
set_option maxHeartbeats 1000000 in
theorem qzero_any (w : World) : Calls Try.prog 70 #[] w fun e w' => e = .returned (.agg #[.int .i64 0, .int .i64 1]) ∧ Below w.heap.size w w' := by
  go_enter Try.func70, Try.ntmps70
  go_wp2_with fail
  refine bodyPost_ret (v := .agg #[.int .i64 0, .int .i64 1]) (by simp [results, Try.results70, go_sem]) rfl ⟨rfl, ?_⟩
  exact below_new _ _
set_option maxHeartbeats 2000000 in
theorem qkeep_any (b : Nat) (e n d er : Int) (w : World) (hc : w.cell? ⟨b, 0, none⟩ = some (.int .i64 e)) (hf : w.frozen? ⟨b, 0, none⟩ = false) :
    Calls Try.prog 81 #[.pointer (some ⟨b, 0, none⟩), .agg #[.int .i64 n, .int .i64 d], .int .i64 er] w fun x w' => x = .returned (.agg #[.int .i64 (kp e (n, d, er)).1.1, .int .i64 (kp e (n, d, er)).1.2]) ∧ Sm b (kp e (n, d, er)).2 w w' := by
  have hb : b < w.heap.size := World.block_lt_of_cell? _ _ hc
  have hsz : (w.alloc (.cells #[.int .i64 n, .int .i64 d] 39)).heap.size = w.heap.size + 1 := by simp
  by_cases z : er = 0
  · have HR : Hid (kp e (n, d, er) = ((n, d), e)) := Lib.hid (by unfold kp; rw [if_pos z])
    rw [HR.out]
    subst z
    go_enter Try.func81, Try.ntmps81
    go_wp2_with fail
    refine bodyPost_ret (v := .agg #[.int .i64 n, .int .i64 d]) (by simp [results, Try.results81, go_sem]) rfl ⟨rfl, ?_⟩
    exact Sm.of ((below_new w _).alloc (by simp) _) hc hf
  · have z1 : (er == 0) = false := beq_eq_false_iff_ne.2 z
    have z2 : (er != 0) = true := by simpa using z
    by_cases y : e = 0
    · have HR : Hid (kp e (n, d, er) = ((0, 1), er)) := Lib.hid (by unfold kp; rw [if_neg z, if_pos y])
      rw [HR.out]
      subst y
      clear z
      go_enter Try.func81, Try.ntmps81
      go_wp2_with (go_at_call 70; (with_reducible refine (qzero_any _).mono ?_); rintro x w1 ⟨rfl, hb1⟩; have c0 : w1.cell? ⟨w.heap.size + 1, 0, none⟩ = some (.int .i64 0) := (hb1.cell (p := ⟨w.heap.size + 1, 0, none⟩) (by simp <;> omega)).trans (by simp [go_sem]); have c1 : w1.cell? ⟨w.heap.size + 1, 1, none⟩ = some (.int .i64 0) := (hb1.cell (p := ⟨w.heap.size + 1, 1, none⟩) (by simp <;> omega)).trans (by simp [go_sem]); have c2 : w1.frozen? ⟨w.heap.size + 1, 0, none⟩ = false := (hb1.frozen (p := ⟨w.heap.size + 1, 0, none⟩) (by simp <;> omega)).trans (by simp [go_sem]); have c3 : w1.frozen? ⟨w.heap.size + 1, 1, none⟩ = false := (hb1.frozen (p := ⟨w.heap.size + 1, 1, none⟩) (by simp <;> omega)).trans (by simp [go_sem]))
      have l0 := (two_cells (v0 := .int .i64 0) (v1 := .int .i64 1) c0 c1).1
      have l1 := (two_cells (v0 := .int .i64 0) (v1 := .int .i64 1) c0 c1).2
      refine bodyPost_ret (v := .agg #[.int .i64 0, .int .i64 1]) (by simp [results, Try.results81, go_sem, l0, l1]) rfl ⟨rfl, ?_⟩
      have k1 := (((Sm.set er hc hf).alloc (.cells #[.int .i64 n, .int .i64 d] 39)).alloc (.cells #[.int .i64 0, .int .i64 0] 39)).then hb1
      exact (k1.setCell (p := ⟨w.heap.size + 1, 0, none⟩) (Nat.le_succ _) hb _).setCell (p := ⟨w.heap.size + 1, 1, none⟩) (Nat.le_succ _) hb _
    · have y1 : (e == 0) = false := beq_eq_false_iff_ne.2 y
      have HR : Hid (kp e (n, d, er) = ((0, 1), e)) := Lib.hid (by unfold kp; rw [if_neg z, if_neg y])
      rw [HR.out]
      clear y z
      go_enter Try.func81, Try.ntmps81
      go_wp2_with (go_at_call 70; (with_reducible refine (qzero_any _).mono ?_); rintro x w1 ⟨rfl, hb1⟩; have c0 : w1.cell? ⟨w.heap.size + 1, 0, none⟩ = some (.int .i64 0) := (hb1.cell (p := ⟨w.heap.size + 1, 0, none⟩) (by simp <;> omega)).trans (by simp [go_sem]); have c1 : w1.cell? ⟨w.heap.size + 1, 1, none⟩ = some (.int .i64 0) := (hb1.cell (p := ⟨w.heap.size + 1, 1, none⟩) (by simp <;> omega)).trans (by simp [go_sem]); have c2 : w1.frozen? ⟨w.heap.size + 1, 0, none⟩ = false := (hb1.frozen (p := ⟨w.heap.size + 1, 0, none⟩) (by simp <;> omega)).trans (by simp [go_sem]); have c3 : w1.frozen? ⟨w.heap.size + 1, 1, none⟩ = false := (hb1.frozen (p := ⟨w.heap.size + 1, 1, none⟩) (by simp <;> omega)).trans (by simp [go_sem]))
      have l0 := (two_cells (v0 := .int .i64 0) (v1 := .int .i64 1) c0 c1).1
      have l1 := (two_cells (v0 := .int .i64 0) (v1 := .int .i64 1) c0 c1).2
      refine bodyPost_ret (v := .agg #[.int .i64 0, .int .i64 1]) (by simp [results, Try.results81, go_sem, l0, l1]) rfl ⟨rfl, ?_⟩
      have k0 : Below w.heap.size w ((w.alloc (.cells #[.int .i64 n, .int .i64 d] 39)).alloc (.cells #[.int .i64 0, .int .i64 0] 39)) := (below_new _ _).alloc (by simp) _
      have k1 := k0.trans (hb1.mono k0.size)
      exact Sm.of ((k1.setCell (p := ⟨w.heap.size + 1, 0, none⟩) (Nat.le_succ _) _).setCell (p := ⟨w.heap.size + 1, 1, none⟩) (Nat.le_succ _) _) hc hf
set_option maxHeartbeats 4000000 in
theorem kadd_any (b : Nat) (e : Int) (x y : Int × Int) (hx : vF x = true) (hy : vF y = true) (w : World) (hc : w.cell? ⟨b, 0, none⟩ = some (.int .i64 e)) (hf : w.frozen? ⟨b, 0, none⟩ = false) :
    Calls Try.prog 79 #[.pointer (some ⟨b, 0, none⟩), .agg #[.int .i64 x.1, .int .i64 x.2], .agg #[.int .i64 y.1, .int .i64 y.2]] w fun z w' => z = .returned (.agg #[.int .i64 (kAdd e x y).1.1, .int .i64 (kAdd e x y).1.2]) ∧ Sm b (kAdd e x y).2 w w' := by
  obtain ⟨an, ad⟩ := x
  obtain ⟨bn, bd⟩ := y
  have hb : b < w.heap.size := World.block_lt_of_cell? _ _ hc
  obtain ⟨P, hP⟩ : ∃ P, addP an ad bn bd = P := ⟨_, rfl⟩
  have HC : Hid (∀ w : World, Calls Try.prog 32 #[.agg #[.int .i64 an, .int .i64 ad], .agg #[.int .i64 bn, .int .i64 bd]] w fun e w' => e = .returned (.tuple #[.agg #[.int .i64 P.1, .int .i64 P.2.1], .int .i64 P.2.2]) ∧ Below w.heap.size w w') := Lib.hid fun w => by
    have := add_all an ad bn bd hx hy w
    rwa [hP] at this
  have HR : Hid (kAdd e (an, ad) (bn, bd) = kp e (P.1, P.2.1, P.2.2)) := Lib.hid (by unfold kAdd; rw [hP])
  rw [HR.out]
  clear hP hx hy
  generalize hK : kp e (P.1, P.2.1, P.2.2) = K
  have HK := Lib.hid hK
  clear hK
  go_enter Try.func79, Try.ntmps79
  go_wp2_with (first
    | (go_at_call 32; (with_reducible refine (HC.out _).mono ?_); rintro x w1 ⟨rfl, hb1⟩; have k0 : Below w.heap.size w w1 := (((below_new w (.cells #[.int .i64 an, .int .i64 ad] 39)).alloc (by simp) (.cells #[.int .i64 bn, .int .i64 bd] 39)).alloc (by simp <;> omega) (.cells #[.int .i64 0, .int .i64 0] 39)).trans (hb1.mono (by simp <;> omega)); have q0 : w1.cell? ⟨w.heap.size + 1 + 1, 0, none⟩ = some (.int .i64 0) := (hb1.cell (p := ⟨w.heap.size + 1 + 1, 0, none⟩) (by simp <;> omega)).trans (by simp [go_sem]); have q1 : w1.cell? ⟨w.heap.size + 1 + 1, 1, none⟩ = some (.int .i64 0) := (hb1.cell (p := ⟨w.heap.size + 1 + 1, 1, none⟩) (by simp <;> omega)).trans (by simp [go_sem]); have q2 : w1.frozen? ⟨w.heap.size + 1 + 1, 0, none⟩ = false := (hb1.frozen (p := ⟨w.heap.size + 1 + 1, 0, none⟩) (by simp <;> omega)).trans (by simp [go_sem]); have q3 : w1.frozen? ⟨w.heap.size + 1 + 1, 1, none⟩ = false := (hb1.frozen (p := ⟨w.heap.size + 1 + 1, 1, none⟩) (by simp <;> omega)).trans (by simp [go_sem]); have q4 : w.heap.size + 1 + 1 < w1.heap.size := World.block_lt_of_cell? _ _ q0)
    | (go_at_call 81; (with_reducible refine (qkeep_any b e P.1 P.2.1 P.2.2 _ ((k0.cell (p := ⟨b, 0, none⟩) hb).trans hc) ((k0.frozen (p := ⟨b, 0, none⟩) hb).trans hf)).mono ?_); rintro x w2 ⟨rfl, hs2⟩; rw [HK.out] at hs2 ⊢; have r0 := (hs2.other (p := ⟨w.heap.size + 1 + 1, 0, none⟩) q4 (by simp <;> omega)).trans q0; have r1 := (hs2.other (p := ⟨w.heap.size + 1 + 1, 1, none⟩) q4 (by simp <;> omega)).trans q1; have r2 := (hs2.otherF (p := ⟨w.heap.size + 1 + 1, 0, none⟩) q4 (by simp <;> omega)).trans q2; have r3 := (hs2.otherF (p := ⟨w.heap.size + 1 + 1, 1, none⟩) q4 (by simp <;> omega)).trans q3))
  have l0 := (two_cells (v0 := .int .i64 K.1.1) (v1 := .int .i64 K.1.2) r0 r1).1
  have l1 := (two_cells (v0 := .int .i64 K.1.1) (v1 := .int .i64 K.1.2) r0 r1).2
  refine bodyPost_ret (v := .agg #[.int .i64 K.1.1, .int .i64 K.1.2]) (by simp [results, Try.results79, go_sem, l0, l1]) rfl ⟨rfl, ?_⟩
  exact ((Sm.from k0 hb hs2).setCell (p := ⟨w.heap.size + 1 + 1, 0, none⟩) (by simp <;> omega) hb _).setCell (p := ⟨w.heap.size + 1 + 1, 1, none⟩) (by simp <;> omega) hb _
set_option maxHeartbeats 4000000 in
theorem ksub_any (b : Nat) (e : Int) (x y : Int × Int) (hx : vF x = true) (hy : vF y = true) (w : World) (hc : w.cell? ⟨b, 0, none⟩ = some (.int .i64 e)) (hf : w.frozen? ⟨b, 0, none⟩ = false) :
    Calls Try.prog 61 #[.pointer (some ⟨b, 0, none⟩), .agg #[.int .i64 x.1, .int .i64 x.2], .agg #[.int .i64 y.1, .int .i64 y.2]] w fun z w' => z = .returned (.agg #[.int .i64 (kSub e x y).1.1, .int .i64 (kSub e x y).1.2]) ∧ Sm b (kSub e x y).2 w w' := by
  obtain ⟨an, ad⟩ := x
  obtain ⟨bn, bd⟩ := y
  have hb : b < w.heap.size := World.block_lt_of_cell? _ _ hc
  obtain ⟨P, hP⟩ : ∃ P, addP an ad (-bn) bd = P := ⟨_, rfl⟩
  have HC : Hid (∀ w : World, Calls Try.prog 49 #[.agg #[.int .i64 an, .int .i64 ad], .agg #[.int .i64 bn, .int .i64 bd]] w fun e w' => e = .returned (.tuple #[.agg #[.int .i64 P.1, .int .i64 P.2.1], .int .i64 P.2.2]) ∧ Below w.heap.size w w') := Lib.hid fun w => by
    have := sub_all an ad bn bd hx hy w
    rwa [hP] at this
  have HR : Hid (kSub e (an, ad) (bn, bd) = kp e (P.1, P.2.1, P.2.2)) := Lib.hid (by unfold kSub; rw [hP])
  rw [HR.out]
  clear hP hx hy
  generalize hK : kp e (P.1, P.2.1, P.2.2) = K
  have HK := Lib.hid hK
  clear hK
  go_enter Try.func61, Try.ntmps61
  go_wp2_with (first
    | (go_at_call 49; (with_reducible refine (HC.out _).mono ?_); rintro x w1 ⟨rfl, hb1⟩; have k0 : Below w.heap.size w w1 := (((below_new w (.cells #[.int .i64 an, .int .i64 ad] 39)).alloc (by simp) (.cells #[.int .i64 bn, .int .i64 bd] 39)).alloc (by simp <;> omega) (.cells #[.int .i64 0, .int .i64 0] 39)).trans (hb1.mono (by simp <;> omega)); have q0 : w1.cell? ⟨w.heap.size + 1 + 1, 0, none⟩ = some (.int .i64 0) := (hb1.cell (p := ⟨w.heap.size + 1 + 1, 0, none⟩) (by simp <;> omega)).trans (by simp [go_sem]); have q1 : w1.cell? ⟨w.heap.size + 1 + 1, 1, none⟩ = some (.int .i64 0) := (hb1.cell (p := ⟨w.heap.size + 1 + 1, 1, none⟩) (by simp <;> omega)).trans (by simp [go_sem]); have q2 : w1.frozen? ⟨w.heap.size + 1 + 1, 0, none⟩ = false := (hb1.frozen (p := ⟨w.heap.size + 1 + 1, 0, none⟩) (by simp <;> omega)).trans (by simp [go_sem]); have q3 : w1.frozen? ⟨w.heap.size + 1 + 1, 1, none⟩ = false := (hb1.frozen (p := ⟨w.heap.size + 1 + 1, 1, none⟩) (by simp <;> omega)).trans (by simp [go_sem]); have q4 : w.heap.size + 1 + 1 < w1.heap.size := World.block_lt_of_cell? _ _ q0)
    | (go_at_call 81; (with_reducible refine (qkeep_any b e P.1 P.2.1 P.2.2 _ ((k0.cell (p := ⟨b, 0, none⟩) hb).trans hc) ((k0.frozen (p := ⟨b, 0, none⟩) hb).trans hf)).mono ?_); rintro x w2 ⟨rfl, hs2⟩; rw [HK.out] at hs2 ⊢; have r0 := (hs2.other (p := ⟨w.heap.size + 1 + 1, 0, none⟩) q4 (by simp <;> omega)).trans q0; have r1 := (hs2.other (p := ⟨w.heap.size + 1 + 1, 1, none⟩) q4 (by simp <;> omega)).trans q1; have r2 := (hs2.otherF (p := ⟨w.heap.size + 1 + 1, 0, none⟩) q4 (by simp <;> omega)).trans q2; have r3 := (hs2.otherF (p := ⟨w.heap.size + 1 + 1, 1, none⟩) q4 (by simp <;> omega)).trans q3))
  have l0 := (two_cells (v0 := .int .i64 K.1.1) (v1 := .int .i64 K.1.2) r0 r1).1
  have l1 := (two_cells (v0 := .int .i64 K.1.1) (v1 := .int .i64 K.1.2) r0 r1).2
  refine bodyPost_ret (v := .agg #[.int .i64 K.1.1, .int .i64 K.1.2]) (by simp [results, Try.results61, go_sem, l0, l1]) rfl ⟨rfl, ?_⟩
  exact ((Sm.from k0 hb hs2).setCell (p := ⟨w.heap.size + 1 + 1, 0, none⟩) (by simp <;> omega) hb _).setCell (p := ⟨w.heap.size + 1 + 1, 1, none⟩) (by simp <;> omega) hb _
set_option maxHeartbeats 4000000 in
theorem kmul_any (b : Nat) (e : Int) (x y : Int × Int) (hx : vF x = true) (hy : vF y = true) (w : World) (hc : w.cell? ⟨b, 0, none⟩ = some (.int .i64 e)) (hf : w.frozen? ⟨b, 0, none⟩ = false) :
    Calls Try.prog 80 #[.pointer (some ⟨b, 0, none⟩), .agg #[.int .i64 x.1, .int .i64 x.2], .agg #[.int .i64 y.1, .int .i64 y.2]] w fun z w' => z = .returned (.agg #[.int .i64 (kMul e x y).1.1, .int .i64 (kMul e x y).1.2]) ∧ Sm b (kMul e x y).2 w w' := by
  obtain ⟨an, ad⟩ := x
  obtain ⟨bn, bd⟩ := y
  have hb : b < w.heap.size := World.block_lt_of_cell? _ _ hc
  obtain ⟨P, hP⟩ : ∃ P, mulP an ad bn bd = P := ⟨_, rfl⟩
  have HC : Hid (∀ w : World, Calls Try.prog 36 #[.agg #[.int .i64 an, .int .i64 ad], .agg #[.int .i64 bn, .int .i64 bd]] w fun e w' => e = .returned (.tuple #[.agg #[.int .i64 P.1, .int .i64 P.2.1], .int .i64 P.2.2]) ∧ Below w.heap.size w w') := Lib.hid fun w => by
    have := mul_any an ad bn bd hx hy w
    rwa [hP] at this
  have HR : Hid (kMul e (an, ad) (bn, bd) = kp e (P.1, P.2.1, P.2.2)) := Lib.hid (by unfold kMul; rw [hP])
  rw [HR.out]
  clear hP hx hy
  generalize hK : kp e (P.1, P.2.1, P.2.2) = K
  have HK := Lib.hid hK
  clear hK
  go_enter Try.func80, Try.ntmps80
  go_wp2_with (first
    | (go_at_call 36; (with_reducible refine (HC.out _).mono ?_); rintro x w1 ⟨rfl, hb1⟩; have k0 : Below w.heap.size w w1 := (((below_new w (.cells #[.int .i64 an, .int .i64 ad] 39)).alloc (by simp) (.cells #[.int .i64 bn, .int .i64 bd] 39)).alloc (by simp <;> omega) (.cells #[.int .i64 0, .int .i64 0] 39)).trans (hb1.mono (by simp <;> omega)); have q0 : w1.cell? ⟨w.heap.size + 1 + 1, 0, none⟩ = some (.int .i64 0) := (hb1.cell (p := ⟨w.heap.size + 1 + 1, 0, none⟩) (by simp <;> omega)).trans (by simp [go_sem]); have q1 : w1.cell? ⟨w.heap.size + 1 + 1, 1, none⟩ = some (.int .i64 0) := (hb1.cell (p := ⟨w.heap.size + 1 + 1, 1, none⟩) (by simp <;> omega)).trans (by simp [go_sem]); have q2 : w1.frozen? ⟨w.heap.size + 1 + 1, 0, none⟩ = false := (hb1.frozen (p := ⟨w.heap.size + 1 + 1, 0, none⟩) (by simp <;> omega)).trans (by simp [go_sem]); have q3 : w1.frozen? ⟨w.heap.size + 1 + 1, 1, none⟩ = false := (hb1.frozen (p := ⟨w.heap.size + 1 + 1, 1, none⟩) (by simp <;> omega)).trans (by simp [go_sem]); have q4 : w.heap.size + 1 + 1 < w1.heap.size := World.block_lt_of_cell? _ _ q0)
    | (go_at_call 81; (with_reducible refine (qkeep_any b e P.1 P.2.1 P.2.2 _ ((k0.cell (p := ⟨b, 0, none⟩) hb).trans hc) ((k0.frozen (p := ⟨b, 0, none⟩) hb).trans hf)).mono ?_); rintro x w2 ⟨rfl, hs2⟩; rw [HK.out] at hs2 ⊢; have r0 := (hs2.other (p := ⟨w.heap.size + 1 + 1, 0, none⟩) q4 (by simp <;> omega)).trans q0; have r1 := (hs2.other (p := ⟨w.heap.size + 1 + 1, 1, none⟩) q4 (by simp <;> omega)).trans q1; have r2 := (hs2.otherF (p := ⟨w.heap.size + 1 + 1, 0, none⟩) q4 (by simp <;> omega)).trans q2; have r3 := (hs2.otherF (p := ⟨w.heap.size + 1 + 1, 1, none⟩) q4 (by simp <;> omega)).trans q3))
  have l0 := (two_cells (v0 := .int .i64 K.1.1) (v1 := .int .i64 K.1.2) r0 r1).1
  have l1 := (two_cells (v0 := .int .i64 K.1.1) (v1 := .int .i64 K.1.2) r0 r1).2
  refine bodyPost_ret (v := .agg #[.int .i64 K.1.1, .int .i64 K.1.2]) (by simp [results, Try.results80, go_sem, l0, l1]) rfl ⟨rfl, ?_⟩
  exact ((Sm.from k0 hb hs2).setCell (p := ⟨w.heap.size + 1 + 1, 0, none⟩) (by simp <;> omega) hb _).setCell (p := ⟨w.heap.size + 1 + 1, 1, none⟩) (by simp <;> omega) hb _
end Go.Proofs.Ytlgpolfbilkmbaa
