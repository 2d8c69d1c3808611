/-
  THE WALK of profile.Curve, over the contracts of package ratio that it calls at the numbers at hand: the cuts.
  THE CURVE of a move: what package ratio gives at the numbers of a move; the walk of profile.Curve.
  APPEND of one fraction to a row of the call's own.
  THE WALKS of profile.Curve (whole), Knots and Time.
  PLAIN: the curve of a move over the rational numbers: it never falls, rests at last, and is nowhere steeper than its top speed.
  PLAIN: the curve of a right move: it is a valid curve that never falls, from 0 up to the distance, no faster than the top speed.
  THE WALK of ratio.Make at the numerator 0.
  THE WALK of the law's helper at: the value of a curve at a part of a time.
  PLAIN: a move arrives: the values of its curve at 0, at its time and later, and at parts of its time.
  HOW a move lies in a block.
  THE WALK of slices.Equal at fractions.
  THE WALKS of the laws' own helpers: example, awake (the chapter's example holds), ready.
-/
import Derived.Test.YtlgpolfbilkmbaaCv12
import Derived.Test.YtlgpolfbilkmbaaCv14
import Derived.Test.YtlgpolfbilkmbaaCv15
import Derived.Test.YtlgpolfbilkmbaaHoldsSmoothG45
import Derived.Test.YtlgpolfbilkmbaaRat6
import Derived.Test.YtlgpolfbilkmbaaMem
import Derived.Test.YtlgpolfbilkmbaaFrC
import Derived.Test.YtlgpolfbilkmbaaFrK
import Derived.Test.YtlgpolfbilkmbaaRat4
import Derived.Test.YtlgpolfbilkmbaaFI
import Derived.Test.YtlgpolfbilkmbaaQuad4
import Derived.Test.YtlgpolfbilkmbaaTop
namespace Go.Proofs.Ytlgpolfbilkmbaa
open Go.RowKit Go.Shelf

set_option maxRecDepth 100000 in
set_option maxHeartbeats 40000000 in
theorem curve_walk (d : Int) (m : Mv) (t tt R2 F2 rn rd fn fd sn sd un ud kn kd qn qd pn pd gn gd en ed cn cd hn hd mn md : Int)
    (hg : givenP d m = 0) (hd0 : ¬ d = 0) (ht : IsTop d m.spd m.rise m.fall t)
    (htt : IntKind.i64.wrap (t * t) = tt) (hR2 : IntKind.i64.wrap (2 * m.rise) = R2) (hF2 : IntKind.i64.wrap (2 * m.fall) = F2) (hNF : IntKind.i64.wrap (-m.fall) = -m.fall)
    (m1 : Gives 35 #[.int .i64 tt, .int .i64 R2] rn rd)
    (m2 : Gives 35 #[.int .i64 tt, .int .i64 F2] fn fd)
    (m3 : Gives 35 #[.int .i64 t, .int .i64 m.rise] sn sd)
    (m4 : Gives 35 #[.int .i64 t, .int .i64 m.fall] gn gd)
    (m5 : Gives 35 #[.int .i64 m.rise, .int .i64 2] cn cd)
    (m6 : Gives 35 #[.int .i64 (-m.fall), .int .i64 2] mn md)
    (s1 : Gives 49 #[.agg #[.int .i64 d, .int .i64 1], .agg #[.int .i64 rn, .int .i64 rd]] un ud)
    (s2 : Gives 49 #[.agg #[.int .i64 un, .int .i64 ud], .agg #[.int .i64 fn, .int .i64 fd]] kn kd)
    (s3 : Gives 49 #[.agg #[.int .i64 d, .int .i64 1], .agg #[.int .i64 fn, .int .i64 fd]] hn hd)
    (v1 : Gives 50 #[.agg #[.int .i64 kn, .int .i64 kd], .agg #[.int .i64 t, .int .i64 1]] qn qd)
    (a1 : Gives 32 #[.agg #[.int .i64 sn, .int .i64 sd], .agg #[.int .i64 qn, .int .i64 qd]] pn pd)
    (a2 : Gives 32 #[.agg #[.int .i64 pn, .int .i64 pd], .agg #[.int .i64 gn, .int .i64 gd]] en ed)
    (L : List Pc) (hL : L = [⟨0, 1, 0, 1, 0, 1, cn, cd⟩] ++ (if kn = 0 then [] else [⟨sn, sd, rn, rd, t, 1, 0, 1⟩]) ++ [⟨pn, pd, hn, hd, t, 1, mn, md⟩, ⟨en, ed, d, 1, 0, 1, 0, 1⟩]) (w : World) :
    Calls Try.prog 16 #[.int .i64 d, .agg #[.string m.name, .int .i64 m.to, .int .i64 m.spd, .int .i64 m.rise, .int .i64 m.fall]] w fun e w' => Hid (∃ v, e = .returned (.tuple #[v, .int .i64 0]) ∧ w'.ownsRow w.heap.size 70 8 v L.length (pcflat L)) ∧ Below w.heap.size w w' := by
  have HG := Lib.hid hg
  have HC := Lib.hid (top_any d m t hg ht)
  have hd' : (d == 0) = false := by simpa using hd0
  have HL := Lib.hid hL
  have M1 := Lib.hid m1
  have M2 := Lib.hid m2
  have M3 := Lib.hid m3
  have M4 := Lib.hid m4
  have M5 := Lib.hid m5
  have M6 := Lib.hid m6
  have S1 := Lib.hid s1
  have S2 := Lib.hid s2
  have S3 := Lib.hid s3
  have V1 := Lib.hid v1
  have A1 := Lib.hid a1
  have A2 := Lib.hid a2
  clear hg ht hd0 hL m1 m2 m3 m4 m5 m6 s1 s2 s3 v1 a1 a2
  go_enter Try.func16, Try.ntmps16
  go_upto_region 12 with (first
      | (go_at_call 39; (with_reducible refine (given_any d m _).mono ?_); rintro e w1 ⟨rfl, hb1⟩; rw [HG.out]; have hB1 := (below_new w (.cells #[.string m.name, .int .i64 m.to, .int .i64 m.spd, .int .i64 m.rise, .int .i64 m.fall] 23)).trans (hb1.mono (by simp)); have kz : w.heap.size < w1.heap.size := Nat.lt_of_lt_of_le (by simp) hb1.size; have k0 : w1.cell? ⟨w.heap.size, 0, none⟩ = some (.string m.name) := (hb1.cell (p := ⟨w.heap.size, 0, none⟩) (by simp)).trans (by simp); have k1 : w1.cell? ⟨w.heap.size, 1, none⟩ = some (.int .i64 m.to) := (hb1.cell (p := ⟨w.heap.size, 1, none⟩) (by simp)).trans (by simp); have k2 : w1.cell? ⟨w.heap.size, 2, none⟩ = some (.int .i64 m.spd) := (hb1.cell (p := ⟨w.heap.size, 2, none⟩) (by simp)).trans (by simp); have k3 : w1.cell? ⟨w.heap.size, 3, none⟩ = some (.int .i64 m.rise) := (hb1.cell (p := ⟨w.heap.size, 3, none⟩) (by simp)).trans (by simp); have k4 : w1.cell? ⟨w.heap.size, 4, none⟩ = some (.int .i64 m.fall) := (hb1.cell (p := ⟨w.heap.size, 4, none⟩) (by simp)).trans (by simp))
      | (go_at_call 40; (with_reducible refine (HC.out _).mono ?_); rintro e w2 ⟨rfl, hb2⟩; have j0 : w2.cell? ⟨w.heap.size, 0, none⟩ = some (.string m.name) := (hb2.cell (p := ⟨w.heap.size, 0, none⟩) (by simp <;> omega)).trans ((World.cell?_alloc_lt _ _ _ kz).trans k0); have j1 : w2.cell? ⟨w.heap.size, 1, none⟩ = some (.int .i64 m.to) := (hb2.cell (p := ⟨w.heap.size, 1, none⟩) (by simp <;> omega)).trans ((World.cell?_alloc_lt _ _ _ kz).trans k1); have j2 : w2.cell? ⟨w.heap.size, 2, none⟩ = some (.int .i64 m.spd) := (hb2.cell (p := ⟨w.heap.size, 2, none⟩) (by simp <;> omega)).trans ((World.cell?_alloc_lt _ _ _ kz).trans k2); have j3 : w2.cell? ⟨w.heap.size, 3, none⟩ = some (.int .i64 m.rise) := (hb2.cell (p := ⟨w.heap.size, 3, none⟩) (by simp <;> omega)).trans ((World.cell?_alloc_lt _ _ _ kz).trans k3); have j4 : w2.cell? ⟨w.heap.size, 4, none⟩ = some (.int .i64 m.fall) := (hb2.cell (p := ⟨w.heap.size, 4, none⟩) (by simp <;> omega)).trans ((World.cell?_alloc_lt _ _ _ kz).trans k4); have j5 : w2.cell? ⟨w1.heap.size, 0, none⟩ = some (.int .i64 0) := (hb2.cell (p := ⟨w1.heap.size, 0, none⟩) (by simp)).trans (by simp); have j6 : w2.cell? ⟨w1.heap.size, 1, none⟩ = some (.int .i64 1) := (hb2.cell (p := ⟨w1.heap.size, 1, none⟩) (by simp)).trans (by simp)))
  have hW2 : Below w.heap.size w w2 := (hB1.alloc hB1.size _).trans (hb2.mono (by simp <;> omega))
  have hz0 : w.heap.size < w2.heap.size := World.block_lt_of_cell? _ _ j0
  have hz1 : w1.heap.size < w2.heap.size := World.block_lt_of_cell? _ _ j5
  obtain ⟨FK, hFK⟩ : ∃ x : Value, Value.func (.func 46) #[] #[.pointer (some ⟨w2.heap.size, 0, none⟩)] = x := ⟨_, rfl⟩
  have W0b : Below w.heap.size w ((w2.alloc (.cells #[.int .i64 0] 25)).alloc (.cells #[Value.func (.func 46) #[] #[.pointer (some ⟨w2.heap.size, 0, none⟩)]] 71)) := (hW2.alloc hW2.size _).alloc (by have := hW2.size; simp <;> omega) _
  have x0 : ((w2.alloc (.cells #[.int .i64 0] 25)).alloc (.cells #[Value.func (.func 46) #[] #[.pointer (some ⟨w2.heap.size, 0, none⟩)]] 71)).cell? ⟨w.heap.size, 3, none⟩ = some (.int .i64 m.rise) := (World.cell?_alloc_lt _ _ _ (by simp <;> omega)).trans ((World.cell?_alloc_lt _ _ _ hz0).trans j3)
  have x1 : ((w2.alloc (.cells #[.int .i64 0] 25)).alloc (.cells #[Value.func (.func 46) #[] #[.pointer (some ⟨w2.heap.size, 0, none⟩)]] 71)).cell? ⟨w.heap.size, 4, none⟩ = some (.int .i64 m.fall) := (World.cell?_alloc_lt _ _ _ (by simp <;> omega)).trans ((World.cell?_alloc_lt _ _ _ hz0).trans j4)
  have x2 : ((w2.alloc (.cells #[.int .i64 0] 25)).alloc (.cells #[Value.func (.func 46) #[] #[.pointer (some ⟨w2.heap.size, 0, none⟩)]] 71)).cell? ⟨w1.heap.size, 0, none⟩ = some (.int .i64 0) := (World.cell?_alloc_lt _ _ _ (by simp <;> omega)).trans ((World.cell?_alloc_lt _ _ _ hz1).trans j5)
  have x3 : ((w2.alloc (.cells #[.int .i64 0] 25)).alloc (.cells #[Value.func (.func 46) #[] #[.pointer (some ⟨w2.heap.size, 0, none⟩)]] 71)).cell? ⟨w1.heap.size, 1, none⟩ = some (.int .i64 1) := (World.cell?_alloc_lt _ _ _ (by simp <;> omega)).trans ((World.cell?_alloc_lt _ _ _ hz1).trans j6)
  have x4 : ((w2.alloc (.cells #[.int .i64 0] 25)).alloc (.cells #[Value.func (.func 46) #[] #[.pointer (some ⟨w2.heap.size, 0, none⟩)]] 71)).cell? ⟨w2.heap.size, 0, none⟩ = some (.int .i64 0) := by simp
  have x5 : ((w2.alloc (.cells #[.int .i64 0] 25)).alloc (.cells #[Value.func (.func 46) #[] #[.pointer (some ⟨w2.heap.size, 0, none⟩)]] 71)).cell? ⟨(w2.heap.size + 1), 0, none⟩ = some (.func (.func 46) #[] #[.pointer (some ⟨w2.heap.size, 0, none⟩)]) := by simp
  clear hFK FK hb1 hB1 kz k0 k1 k2 k3 k4 hb2 j0 j1 j2 j3 j4 j5 j6 hW2 hz0 hz1
  generalize ((w2.alloc (.cells #[.int .i64 0] 25)).alloc (.cells #[Value.func (.func 46) #[] #[.pointer (some ⟨w2.heap.size, 0, none⟩)]] 71)) = W0 at *
  obtain ⟨Bk, hBk⟩ : ∃ b, w2.heap.size + 1 = b := ⟨_, rfl⟩
  simp only [hBk] at *
  clear hBk
  generalize w2.heap.size = Bb at *
  generalize w1.heap.size = Bz at *
  have HS : Hid (∀ w', Below W0.heap.size W0 w' → Below W0.heap.size W0 w' ∧ w'.cell? ⟨w.heap.size, 3, none⟩ = some (.int .i64 m.rise) ∧ w'.cell? ⟨w.heap.size, 4, none⟩ = some (.int .i64 m.fall) ∧ w'.cell? ⟨Bz, 0, none⟩ = some (.int .i64 0) ∧ w'.cell? ⟨Bz, 1, none⟩ = some (.int .i64 1) ∧ w'.cell? ⟨Bb, 0, none⟩ = some (.int .i64 0) ∧ w'.cell? ⟨Bk, 0, none⟩ = some (.func (.func 46) #[] #[.pointer (some ⟨Bb, 0, none⟩)])) := Lib.hid fun w' h => ⟨h, (h.cell (p := ⟨w.heap.size, 3, none⟩) (World.block_lt_of_cell? _ _ x0)).trans x0, (h.cell (p := ⟨w.heap.size, 4, none⟩) (World.block_lt_of_cell? _ _ x1)).trans x1, (h.cell (p := ⟨Bz, 0, none⟩) (World.block_lt_of_cell? _ _ x2)).trans x2, (h.cell (p := ⟨Bz, 1, none⟩) (World.block_lt_of_cell? _ _ x3)).trans x3, (h.cell (p := ⟨Bb, 0, none⟩) (World.block_lt_of_cell? _ _ x4)).trans x4, (h.cell (p := ⟨Bk, 0, none⟩) (World.block_lt_of_cell? _ _ x5)).trans x5⟩
  have hbr := Below.refl W0.heap.size W0
  have hbd := hbr.drew
  have HS2 : Hid (∀ w', Below W0.heap.size W0 w' → Below W0.heap.size W0 w' ∧ w'.cell? ⟨w.heap.size, 3, none⟩ = some (.int .i64 m.rise) ∧ w'.cell? ⟨w.heap.size, 4, none⟩ = some (.int .i64 m.fall) ∧ w'.cell? ⟨Bk, 0, none⟩ = some (.func (.func 46) #[] #[.pointer (some ⟨Bb, 0, none⟩)])) := Lib.hid fun w' h => ⟨h, (HS.out w' h).2.1, (HS.out w' h).2.2.1, (HS.out w' h).2.2.2.2.2.2⟩
  refine cv12 HS2 M1 M2 htt hR2 hF2 ?_
  intro u13 u14 u20 u21 u22 u23 u24 u25 u26 u27 u28 u29 u30 u31 u32 u33 u34 u35 u36 u37 u38 u39 u40 u41 u42 u43 u44 u45 u46 u47 u48 u49 u50 u51 u52 u53 u54 u55 u56 u57 u58 u59 u60 u61 u62 u63 u64 u65 u66 u67 u68 u69 u70 u71 u72 u73 u74 u75 u76 u77 u78 u79 u80 u81 u82 u83 u84 u85 u86 u87 u88 u89 u90 u91 u92 u93 u94 u95 u96 u97 u98 u99 u100 u101 u102 u103 u104 u105 u106 u107 u108 u109 u110 u111 u112 u113 u114 u115 u116 u117 u118 u119 u120 u121 u122 u123 u124 u125 u126 u127 u128 u129 u130 u131 u132 u133 u134 u135 u136 u137 u138 u139 u140 u141 u142 u143 u144 u145 u146 u147 u148 u149 u150 u151 u152 u153 u154 u155 u156 wc hcut
  clear HS2
  · obtain ⟨B13, B14, rfl, rfl, hBn, ⟨y0, y1⟩, ⟨y2, y3⟩⟩ := hcut
    obtain ⟨W1, rfl⟩ : ∃ W : World, W = wc := ⟨_, rfl⟩
    clear x0 x1 x2 x3 x4 x5
    obtain ⟨_, x0, x1, x2, x3, x4, x5⟩ := HS.out _ hBn
    have W1b := W0b.trans (hBn.mono W0b.size)
    clear HS hbd hbr hBn W0b
    go_upto_region 14 with (first
      | (go_at_call 48; (with_reducible refine (over_any t m.rise sn sd M3.out Bk (.pointer (some ⟨Bb, 0, none⟩)) _ ?_).mono ?_); (next => exact x5); rintro e w4 ⟨rfl, hb4⟩))
    have hBn : Below W1.heap.size W1 (w4.alloc (.cells #[.int .i64 sn, .int .i64 sd] 39)) := below_a _ hb4
    have z0 : (w4.alloc (.cells #[.int .i64 sn, .int .i64 sd] 39)).cell? ⟨w4.heap.size, 0, none⟩ = some (.int .i64 sn) := by simp
    have z1 : (w4.alloc (.cells #[.int .i64 sn, .int .i64 sd] 39)).cell? ⟨w4.heap.size, 1, none⟩ = some (.int .i64 sd) := by simp
    have q0 := (hBn.cell (p := ⟨w.heap.size, 3, none⟩) (World.block_lt_of_cell? _ _ x0)).trans x0
    have q1 := (hBn.cell (p := ⟨w.heap.size, 4, none⟩) (World.block_lt_of_cell? _ _ x1)).trans x1
    have q2 := (hBn.cell (p := ⟨Bz, 0, none⟩) (World.block_lt_of_cell? _ _ x2)).trans x2
    have q3 := (hBn.cell (p := ⟨Bz, 1, none⟩) (World.block_lt_of_cell? _ _ x3)).trans x3
    have q4 := (hBn.cell (p := ⟨Bb, 0, none⟩) (World.block_lt_of_cell? _ _ x4)).trans x4
    have q5 := (hBn.cell (p := ⟨Bk, 0, none⟩) (World.block_lt_of_cell? _ _ x5)).trans x5
    have q6 := (hBn.cell (p := ⟨B13, 0, none⟩) (World.block_lt_of_cell? _ _ y0)).trans y0
    have q7 := (hBn.cell (p := ⟨B13, 1, none⟩) (World.block_lt_of_cell? _ _ y1)).trans y1
    have q8 := (hBn.cell (p := ⟨B14, 0, none⟩) (World.block_lt_of_cell? _ _ y2)).trans y2
    have q9 := (hBn.cell (p := ⟨B14, 1, none⟩) (World.block_lt_of_cell? _ _ y3)).trans y3
    have W2b := W1b.trans (hBn.mono W1b.size)
    clear hb4 hBn W1b x0 x1 x2 x3 x4 x5 y0 y1 y2 y3
    generalize w4.alloc (.cells #[.int .i64 sn, .int .i64 sd] 39) = W2 at *
    generalize w4.heap.size = B15 at *
    obtain ⟨x0, x1, x2, x3, x4, x5, x6, x7, x8, x9, x10, x11⟩ : W2.cell? ⟨w.heap.size, 3, none⟩ = some (.int .i64 m.rise) ∧ W2.cell? ⟨w.heap.size, 4, none⟩ = some (.int .i64 m.fall) ∧ W2.cell? ⟨Bz, 0, none⟩ = some (.int .i64 0) ∧ W2.cell? ⟨Bz, 1, none⟩ = some (.int .i64 1) ∧ W2.cell? ⟨Bb, 0, none⟩ = some (.int .i64 0) ∧ W2.cell? ⟨Bk, 0, none⟩ = some (.func (.func 46) #[] #[.pointer (some ⟨Bb, 0, none⟩)]) ∧ W2.cell? ⟨B13, 0, none⟩ = some (.int .i64 rn) ∧ W2.cell? ⟨B13, 1, none⟩ = some (.int .i64 rd) ∧ W2.cell? ⟨B14, 0, none⟩ = some (.int .i64 fn) ∧ W2.cell? ⟨B14, 1, none⟩ = some (.int .i64 fd) ∧ W2.cell? ⟨B15, 0, none⟩ = some (.int .i64 sn) ∧ W2.cell? ⟨B15, 1, none⟩ = some (.int .i64 sd) := ⟨q0, q1, q2, q3, q4, q5, q6, q7, q8, q9, z0, z1⟩
    clear q0 q1 q2 q3 q4 q5 q6 q7 q8 q9 z0 z1
    go_upto_region 14 with (fail)
    have HS : Hid (∀ w', Below W2.heap.size W2 w' → Below W2.heap.size W2 w' ∧ w'.cell? ⟨w.heap.size, 3, none⟩ = some (.int .i64 m.rise) ∧ w'.cell? ⟨w.heap.size, 4, none⟩ = some (.int .i64 m.fall) ∧ w'.cell? ⟨Bz, 0, none⟩ = some (.int .i64 0) ∧ w'.cell? ⟨Bz, 1, none⟩ = some (.int .i64 1) ∧ w'.cell? ⟨Bb, 0, none⟩ = some (.int .i64 0) ∧ w'.cell? ⟨Bk, 0, none⟩ = some (.func (.func 46) #[] #[.pointer (some ⟨Bb, 0, none⟩)]) ∧ w'.cell? ⟨B13, 0, none⟩ = some (.int .i64 rn) ∧ w'.cell? ⟨B13, 1, none⟩ = some (.int .i64 rd) ∧ w'.cell? ⟨B14, 0, none⟩ = some (.int .i64 fn) ∧ w'.cell? ⟨B14, 1, none⟩ = some (.int .i64 fd) ∧ w'.cell? ⟨B15, 0, none⟩ = some (.int .i64 sn) ∧ w'.cell? ⟨B15, 1, none⟩ = some (.int .i64 sd)) := Lib.hid fun w' h => ⟨h, (h.cell (p := ⟨w.heap.size, 3, none⟩) (World.block_lt_of_cell? _ _ x0)).trans x0, (h.cell (p := ⟨w.heap.size, 4, none⟩) (World.block_lt_of_cell? _ _ x1)).trans x1, (h.cell (p := ⟨Bz, 0, none⟩) (World.block_lt_of_cell? _ _ x2)).trans x2, (h.cell (p := ⟨Bz, 1, none⟩) (World.block_lt_of_cell? _ _ x3)).trans x3, (h.cell (p := ⟨Bb, 0, none⟩) (World.block_lt_of_cell? _ _ x4)).trans x4, (h.cell (p := ⟨Bk, 0, none⟩) (World.block_lt_of_cell? _ _ x5)).trans x5, (h.cell (p := ⟨B13, 0, none⟩) (World.block_lt_of_cell? _ _ x6)).trans x6, (h.cell (p := ⟨B13, 1, none⟩) (World.block_lt_of_cell? _ _ x7)).trans x7, (h.cell (p := ⟨B14, 0, none⟩) (World.block_lt_of_cell? _ _ x8)).trans x8, (h.cell (p := ⟨B14, 1, none⟩) (World.block_lt_of_cell? _ _ x9)).trans x9, (h.cell (p := ⟨B15, 0, none⟩) (World.block_lt_of_cell? _ _ x10)).trans x10, (h.cell (p := ⟨B15, 1, none⟩) (World.block_lt_of_cell? _ _ x11)).trans x11⟩
    have hbr := Below.refl W2.heap.size W2
    have hbd := hbr.drew
    have HS2 : Hid (∀ w', Below W2.heap.size W2 w' → Below W2.heap.size W2 w' ∧ w'.cell? ⟨Bk, 0, none⟩ = some (.func (.func 46) #[] #[.pointer (some ⟨Bb, 0, none⟩)]) ∧ w'.cell? ⟨B13, 0, none⟩ = some (.int .i64 rn) ∧ w'.cell? ⟨B13, 1, none⟩ = some (.int .i64 rd) ∧ w'.cell? ⟨B14, 0, none⟩ = some (.int .i64 fn) ∧ w'.cell? ⟨B14, 1, none⟩ = some (.int .i64 fd)) := Lib.hid fun w' h => ⟨h, (HS.out w' h).2.2.2.2.2.2.1, (HS.out w' h).2.2.2.2.2.2.2.1, (HS.out w' h).2.2.2.2.2.2.2.2.1, (HS.out w' h).2.2.2.2.2.2.2.2.2.1, (HS.out w' h).2.2.2.2.2.2.2.2.2.2.1⟩
    refine cv14 HS2 S1 S2 ?_
    intro u16 u20 u21 u22 u23 u24 u25 u26 u27 u28 u29 u30 u31 u32 u33 u34 u35 u36 u37 u38 u39 u40 u41 u42 u43 u44 u45 u46 u47 u48 u49 u50 u51 u52 u53 u54 u55 u56 u57 u58 u59 u60 u61 u62 u63 u64 u65 u66 u67 u68 u69 u70 u71 u72 u73 u74 u75 u76 u77 u78 u79 u80 u81 u82 u83 u84 u85 u86 u87 u88 u89 u90 u91 u92 u93 u94 u95 u96 u97 u98 u99 u100 u101 u102 u103 u104 u105 u106 u107 u108 u109 u110 u111 u112 u113 u114 u115 u116 u117 u118 u119 u120 u121 u122 u123 u124 u125 u126 u127 u128 u129 u130 u131 u132 u133 u134 u135 u136 u137 u138 u139 u140 u141 u142 u143 u144 u145 u146 u147 u148 u149 u150 u151 u152 u153 u154 u155 u156 wc hcut
    clear HS2
    · obtain ⟨B16, rfl, hBn, ⟨y0, y1⟩⟩ := hcut
      obtain ⟨W3, rfl⟩ : ∃ W : World, W = wc := ⟨_, rfl⟩
      clear x0 x1 x2 x3 x4 x5 x6 x7 x8 x9 x10 x11
      obtain ⟨_, x0, x1, x2, x3, x4, x5, x6, x7, x8, x9, x10, x11⟩ := HS.out _ hBn
      have W3b := W2b.trans (hBn.mono W2b.size)
      clear HS hbd hbr hBn W2b
      obtain ⟨x12, x13⟩ : FR W3 B16 kn kd := ⟨y0, y1⟩
      clear y0 y1
      go_upto_region 15 with (fail)
      have HS : Hid (∀ w', Below W3.heap.size W3 w' → Below W3.heap.size W3 w' ∧ w'.cell? ⟨w.heap.size, 3, none⟩ = some (.int .i64 m.rise) ∧ w'.cell? ⟨w.heap.size, 4, none⟩ = some (.int .i64 m.fall) ∧ w'.cell? ⟨Bz, 0, none⟩ = some (.int .i64 0) ∧ w'.cell? ⟨Bz, 1, none⟩ = some (.int .i64 1) ∧ w'.cell? ⟨Bb, 0, none⟩ = some (.int .i64 0) ∧ w'.cell? ⟨Bk, 0, none⟩ = some (.func (.func 46) #[] #[.pointer (some ⟨Bb, 0, none⟩)]) ∧ w'.cell? ⟨B13, 0, none⟩ = some (.int .i64 rn) ∧ w'.cell? ⟨B13, 1, none⟩ = some (.int .i64 rd) ∧ w'.cell? ⟨B14, 0, none⟩ = some (.int .i64 fn) ∧ w'.cell? ⟨B14, 1, none⟩ = some (.int .i64 fd) ∧ w'.cell? ⟨B15, 0, none⟩ = some (.int .i64 sn) ∧ w'.cell? ⟨B15, 1, none⟩ = some (.int .i64 sd) ∧ w'.cell? ⟨B16, 0, none⟩ = some (.int .i64 kn) ∧ w'.cell? ⟨B16, 1, none⟩ = some (.int .i64 kd)) := Lib.hid fun w' h => ⟨h, (h.cell (p := ⟨w.heap.size, 3, none⟩) (World.block_lt_of_cell? _ _ x0)).trans x0, (h.cell (p := ⟨w.heap.size, 4, none⟩) (World.block_lt_of_cell? _ _ x1)).trans x1, (h.cell (p := ⟨Bz, 0, none⟩) (World.block_lt_of_cell? _ _ x2)).trans x2, (h.cell (p := ⟨Bz, 1, none⟩) (World.block_lt_of_cell? _ _ x3)).trans x3, (h.cell (p := ⟨Bb, 0, none⟩) (World.block_lt_of_cell? _ _ x4)).trans x4, (h.cell (p := ⟨Bk, 0, none⟩) (World.block_lt_of_cell? _ _ x5)).trans x5, (h.cell (p := ⟨B13, 0, none⟩) (World.block_lt_of_cell? _ _ x6)).trans x6, (h.cell (p := ⟨B13, 1, none⟩) (World.block_lt_of_cell? _ _ x7)).trans x7, (h.cell (p := ⟨B14, 0, none⟩) (World.block_lt_of_cell? _ _ x8)).trans x8, (h.cell (p := ⟨B14, 1, none⟩) (World.block_lt_of_cell? _ _ x9)).trans x9, (h.cell (p := ⟨B15, 0, none⟩) (World.block_lt_of_cell? _ _ x10)).trans x10, (h.cell (p := ⟨B15, 1, none⟩) (World.block_lt_of_cell? _ _ x11)).trans x11, (h.cell (p := ⟨B16, 0, none⟩) (World.block_lt_of_cell? _ _ x12)).trans x12, (h.cell (p := ⟨B16, 1, none⟩) (World.block_lt_of_cell? _ _ x13)).trans x13⟩
      have hbr := Below.refl W3.heap.size W3
      have hbd := hbr.drew
      have HS2 : Hid (∀ w', Below W3.heap.size W3 w' → Below W3.heap.size W3 w' ∧ w'.cell? ⟨Bk, 0, none⟩ = some (.func (.func 46) #[] #[.pointer (some ⟨Bb, 0, none⟩)]) ∧ w'.cell? ⟨B15, 0, none⟩ = some (.int .i64 sn) ∧ w'.cell? ⟨B15, 1, none⟩ = some (.int .i64 sd) ∧ w'.cell? ⟨B16, 0, none⟩ = some (.int .i64 kn) ∧ w'.cell? ⟨B16, 1, none⟩ = some (.int .i64 kd)) := Lib.hid fun w' h => ⟨h, (HS.out w' h).2.2.2.2.2.2.1, (HS.out w' h).2.2.2.2.2.2.2.2.2.2.2.1, (HS.out w' h).2.2.2.2.2.2.2.2.2.2.2.2.1, (HS.out w' h).2.2.2.2.2.2.2.2.2.2.2.2.2.1, (HS.out w' h).2.2.2.2.2.2.2.2.2.2.2.2.2.2⟩
      refine cv15 HS2 V1 A1 ?_
      intro u17 u20 u21 u22 u23 u24 u25 u26 u27 u28 u29 u30 u31 u32 u33 u34 u35 u36 u37 u38 u39 u40 u41 u42 u43 u44 u45 u46 u47 u48 u49 u50 u51 u52 u53 u54 u55 u56 u57 u58 u59 u60 u61 u62 u63 u64 u65 u66 u67 u68 u69 u70 u71 u72 u73 u74 u75 u76 u77 u78 u79 u80 u81 u82 u83 u84 u85 u86 u87 u88 u89 u90 u91 u92 u93 u94 u95 u96 u97 u98 u99 u100 u101 u102 u103 u104 u105 u106 u107 u108 u109 u110 u111 u112 u113 u114 u115 u116 u117 u118 u119 u120 u121 u122 u123 u124 u125 u126 u127 u128 u129 u130 u131 u132 u133 u134 u135 u136 u137 u138 u139 u140 u141 u142 u143 u144 u145 u146 u147 u148 u149 u150 u151 u152 u153 u154 u155 u156 wc hcut
      clear HS2
      · obtain ⟨B17, rfl, hBn, ⟨y0, y1⟩⟩ := hcut
        obtain ⟨W4, rfl⟩ : ∃ W : World, W = wc := ⟨_, rfl⟩
        clear x0 x1 x2 x3 x4 x5 x6 x7 x8 x9 x10 x11 x12 x13
        obtain ⟨_, x0, x1, x2, x3, x4, x5, x6, x7, x8, x9, x10, x11, x12, x13⟩ := HS.out _ hBn
        have W4b := W3b.trans (hBn.mono W3b.size)
        clear HS hbd hbr hBn W3b
        obtain ⟨x14, x15⟩ : FR W4 B17 pn pd := ⟨y0, y1⟩
        clear y0 y1
        go_upto_region 16 with (fail)
        have HS : Hid (∀ w', Below W4.heap.size W4 w' → Below W4.heap.size W4 w' ∧ w'.cell? ⟨w.heap.size, 3, none⟩ = some (.int .i64 m.rise) ∧ w'.cell? ⟨w.heap.size, 4, none⟩ = some (.int .i64 m.fall) ∧ w'.cell? ⟨Bz, 0, none⟩ = some (.int .i64 0) ∧ w'.cell? ⟨Bz, 1, none⟩ = some (.int .i64 1) ∧ w'.cell? ⟨Bb, 0, none⟩ = some (.int .i64 0) ∧ w'.cell? ⟨Bk, 0, none⟩ = some (.func (.func 46) #[] #[.pointer (some ⟨Bb, 0, none⟩)]) ∧ w'.cell? ⟨B13, 0, none⟩ = some (.int .i64 rn) ∧ w'.cell? ⟨B13, 1, none⟩ = some (.int .i64 rd) ∧ w'.cell? ⟨B14, 0, none⟩ = some (.int .i64 fn) ∧ w'.cell? ⟨B14, 1, none⟩ = some (.int .i64 fd) ∧ w'.cell? ⟨B15, 0, none⟩ = some (.int .i64 sn) ∧ w'.cell? ⟨B15, 1, none⟩ = some (.int .i64 sd) ∧ w'.cell? ⟨B16, 0, none⟩ = some (.int .i64 kn) ∧ w'.cell? ⟨B16, 1, none⟩ = some (.int .i64 kd) ∧ w'.cell? ⟨B17, 0, none⟩ = some (.int .i64 pn) ∧ w'.cell? ⟨B17, 1, none⟩ = some (.int .i64 pd)) := Lib.hid fun w' h => ⟨h, (h.cell (p := ⟨w.heap.size, 3, none⟩) (World.block_lt_of_cell? _ _ x0)).trans x0, (h.cell (p := ⟨w.heap.size, 4, none⟩) (World.block_lt_of_cell? _ _ x1)).trans x1, (h.cell (p := ⟨Bz, 0, none⟩) (World.block_lt_of_cell? _ _ x2)).trans x2, (h.cell (p := ⟨Bz, 1, none⟩) (World.block_lt_of_cell? _ _ x3)).trans x3, (h.cell (p := ⟨Bb, 0, none⟩) (World.block_lt_of_cell? _ _ x4)).trans x4, (h.cell (p := ⟨Bk, 0, none⟩) (World.block_lt_of_cell? _ _ x5)).trans x5, (h.cell (p := ⟨B13, 0, none⟩) (World.block_lt_of_cell? _ _ x6)).trans x6, (h.cell (p := ⟨B13, 1, none⟩) (World.block_lt_of_cell? _ _ x7)).trans x7, (h.cell (p := ⟨B14, 0, none⟩) (World.block_lt_of_cell? _ _ x8)).trans x8, (h.cell (p := ⟨B14, 1, none⟩) (World.block_lt_of_cell? _ _ x9)).trans x9, (h.cell (p := ⟨B15, 0, none⟩) (World.block_lt_of_cell? _ _ x10)).trans x10, (h.cell (p := ⟨B15, 1, none⟩) (World.block_lt_of_cell? _ _ x11)).trans x11, (h.cell (p := ⟨B16, 0, none⟩) (World.block_lt_of_cell? _ _ x12)).trans x12, (h.cell (p := ⟨B16, 1, none⟩) (World.block_lt_of_cell? _ _ x13)).trans x13, (h.cell (p := ⟨B17, 0, none⟩) (World.block_lt_of_cell? _ _ x14)).trans x14, (h.cell (p := ⟨B17, 1, none⟩) (World.block_lt_of_cell? _ _ x15)).trans x15⟩
        have hbr := Below.refl W4.heap.size W4
        have hbd := hbr.drew
        have HS2 : Hid (∀ w', Below W4.heap.size W4 w' → Below W4.heap.size W4 w' ∧ w'.cell? ⟨w.heap.size, 4, none⟩ = some (.int .i64 m.fall) ∧ w'.cell? ⟨Bk, 0, none⟩ = some (.func (.func 46) #[] #[.pointer (some ⟨Bb, 0, none⟩)]) ∧ w'.cell? ⟨B17, 0, none⟩ = some (.int .i64 pn) ∧ w'.cell? ⟨B17, 1, none⟩ = some (.int .i64 pd)) := Lib.hid fun w' h => ⟨h, (HS.out w' h).2.2.1, (HS.out w' h).2.2.2.2.2.2.1, (HS.out w' h).2.2.2.2.2.2.2.2.2.2.2.2.2.2.2.1, (HS.out w' h).2.2.2.2.2.2.2.2.2.2.2.2.2.2.2.2⟩
        refine cv16 HS2 M4 A2 ?_
        intro u18 u20 u21 u22 u23 u24 u25 u26 u27 u28 u29 u30 u31 u32 u33 u34 u35 u36 u37 u38 u39 u40 u41 u42 u43 u44 u45 u46 u47 u48 u49 u50 u51 u52 u53 u54 u55 u56 u57 u58 u59 u60 u61 u62 u63 u64 u65 u66 u67 u68 u69 u70 u71 u72 u73 u74 u75 u76 u77 u78 u79 u80 u81 u82 u83 u84 u85 u86 u87 u88 u89 u90 u91 u92 u93 u94 u95 u96 u97 u98 u99 u100 u101 u102 u103 u104 u105 u106 u107 u108 u109 u110 u111 u112 u113 u114 u115 u116 u117 u118 u119 u120 u121 u122 u123 u124 u125 u126 u127 u128 u129 u130 u131 u132 u133 u134 u135 u136 u137 u138 u139 u140 u141 u142 u143 u144 u145 u146 u147 u148 u149 u150 u151 u152 u153 u154 u155 u156 wc hcut
        clear HS2
        · obtain ⟨B18, rfl, hBn, ⟨y0, y1⟩⟩ := hcut
          obtain ⟨W5, rfl⟩ : ∃ W : World, W = wc := ⟨_, rfl⟩
          clear x0 x1 x2 x3 x4 x5 x6 x7 x8 x9 x10 x11 x12 x13 x14 x15
          obtain ⟨_, x0, x1, x2, x3, x4, x5, x6, x7, x8, x9, x10, x11, x12, x13, x14, x15⟩ := HS.out _ hBn
          have W5b := W4b.trans (hBn.mono W4b.size)
          clear HS hbd hbr hBn W4b
          obtain ⟨x16, x17⟩ : FR W5 B18 en ed := ⟨y0, y1⟩
          clear y0 y1
          go_upto_region 17 with (fail)
          have HS : Hid (∀ w', Below W5.heap.size W5 w' → Below W5.heap.size W5 w' ∧ w'.cell? ⟨w.heap.size, 3, none⟩ = some (.int .i64 m.rise) ∧ w'.cell? ⟨w.heap.size, 4, none⟩ = some (.int .i64 m.fall) ∧ w'.cell? ⟨Bz, 0, none⟩ = some (.int .i64 0) ∧ w'.cell? ⟨Bz, 1, none⟩ = some (.int .i64 1) ∧ w'.cell? ⟨Bb, 0, none⟩ = some (.int .i64 0) ∧ w'.cell? ⟨Bk, 0, none⟩ = some (.func (.func 46) #[] #[.pointer (some ⟨Bb, 0, none⟩)]) ∧ w'.cell? ⟨B13, 0, none⟩ = some (.int .i64 rn) ∧ w'.cell? ⟨B13, 1, none⟩ = some (.int .i64 rd) ∧ w'.cell? ⟨B14, 0, none⟩ = some (.int .i64 fn) ∧ w'.cell? ⟨B14, 1, none⟩ = some (.int .i64 fd) ∧ w'.cell? ⟨B15, 0, none⟩ = some (.int .i64 sn) ∧ w'.cell? ⟨B15, 1, none⟩ = some (.int .i64 sd) ∧ w'.cell? ⟨B16, 0, none⟩ = some (.int .i64 kn) ∧ w'.cell? ⟨B16, 1, none⟩ = some (.int .i64 kd) ∧ w'.cell? ⟨B17, 0, none⟩ = some (.int .i64 pn) ∧ w'.cell? ⟨B17, 1, none⟩ = some (.int .i64 pd) ∧ w'.cell? ⟨B18, 0, none⟩ = some (.int .i64 en) ∧ w'.cell? ⟨B18, 1, none⟩ = some (.int .i64 ed)) := Lib.hid fun w' h => ⟨h, (h.cell (p := ⟨w.heap.size, 3, none⟩) (World.block_lt_of_cell? _ _ x0)).trans x0, (h.cell (p := ⟨w.heap.size, 4, none⟩) (World.block_lt_of_cell? _ _ x1)).trans x1, (h.cell (p := ⟨Bz, 0, none⟩) (World.block_lt_of_cell? _ _ x2)).trans x2, (h.cell (p := ⟨Bz, 1, none⟩) (World.block_lt_of_cell? _ _ x3)).trans x3, (h.cell (p := ⟨Bb, 0, none⟩) (World.block_lt_of_cell? _ _ x4)).trans x4, (h.cell (p := ⟨Bk, 0, none⟩) (World.block_lt_of_cell? _ _ x5)).trans x5, (h.cell (p := ⟨B13, 0, none⟩) (World.block_lt_of_cell? _ _ x6)).trans x6, (h.cell (p := ⟨B13, 1, none⟩) (World.block_lt_of_cell? _ _ x7)).trans x7, (h.cell (p := ⟨B14, 0, none⟩) (World.block_lt_of_cell? _ _ x8)).trans x8, (h.cell (p := ⟨B14, 1, none⟩) (World.block_lt_of_cell? _ _ x9)).trans x9, (h.cell (p := ⟨B15, 0, none⟩) (World.block_lt_of_cell? _ _ x10)).trans x10, (h.cell (p := ⟨B15, 1, none⟩) (World.block_lt_of_cell? _ _ x11)).trans x11, (h.cell (p := ⟨B16, 0, none⟩) (World.block_lt_of_cell? _ _ x12)).trans x12, (h.cell (p := ⟨B16, 1, none⟩) (World.block_lt_of_cell? _ _ x13)).trans x13, (h.cell (p := ⟨B17, 0, none⟩) (World.block_lt_of_cell? _ _ x14)).trans x14, (h.cell (p := ⟨B17, 1, none⟩) (World.block_lt_of_cell? _ _ x15)).trans x15, (h.cell (p := ⟨B18, 0, none⟩) (World.block_lt_of_cell? _ _ x16)).trans x16, (h.cell (p := ⟨B18, 1, none⟩) (World.block_lt_of_cell? _ _ x17)).trans x17⟩
          have hbr := Below.refl W5.heap.size W5
          have hbd := hbr.drew
          obtain ⟨i0, hi, hz0, hz1, hz2⟩ := info_parts piece_info
          have W5s := W5b.size
          have HS2 : Hid (∀ w', Below W5.heap.size W5 w' → Below W5.heap.size W5 w' ∧ w'.cell? ⟨w.heap.size, 3, none⟩ = some (.int .i64 m.rise) ∧ w'.cell? ⟨Bz, 0, none⟩ = some (.int .i64 0) ∧ w'.cell? ⟨Bz, 1, none⟩ = some (.int .i64 1) ∧ w'.cell? ⟨Bk, 0, none⟩ = some (.func (.func 46) #[] #[.pointer (some ⟨Bb, 0, none⟩)])) := Lib.hid fun w' h => ⟨h, (HS.out w' h).2.1, (HS.out w' h).2.2.2.1, (HS.out w' h).2.2.2.2.1, (HS.out w' h).2.2.2.2.2.2.1⟩
          refine cv17 HS2 M5 ?_
          intro u19 u20 u21 u22 u23 u24 u25 u26 u27 u28 u29 u30 u31 u32 u33 u34 u35 u36 u37 u38 u39 u40 u41 u42 u43 u44 u45 u46 u47 u48 u49 u50 u51 u52 u53 u54 u55 u56 u57 u58 u59 u60 u61 u62 u63 u64 u65 u66 u67 u68 u69 u70 u71 u72 u73 u74 u75 u76 u77 u78 u79 u80 u81 u82 u83 u84 u85 u86 u87 u88 u89 u90 u91 u92 u93 u94 u95 u96 u97 u98 u99 u100 u101 u102 u103 u104 u105 u106 u107 u108 u109 u110 u111 u112 u113 u114 u115 u116 u117 u118 u119 u120 u121 u122 u123 u124 u125 u126 u127 u128 u129 u130 u131 u132 u133 u134 u135 u136 u137 u138 u139 u140 u141 u142 u143 u144 u145 u146 u147 u148 u149 u150 u151 u152 u153 u154 u155 u156 wc hcut
          clear HS2
          · obtain ⟨HR, hBn⟩ := hcut
            obtain ⟨r19, rfl⟩ : ∃ x : Value, x = u19 := ⟨_, rfl⟩
            obtain ⟨W6, rfl⟩ : ∃ x : World, x = wc := ⟨_, rfl⟩
            clear x0 x1 x2 x3 x4 x5 x6 x7 x8 x9 x10 x11 x12 x13 x14 x15 x16 x17
            obtain ⟨_, x0, x1, x2, x3, x4, x5, x6, x7, x8, x9, x10, x11, x12, x13, x14, x15, x16, x17⟩ := HS.out _ hBn
            go_upto_if 113 with (fail)
            go_cut [19] (fun v wx => Hid (∃ M : List Pc, M = [⟨0, 1, 0, 1, 0, 1, cn, cd⟩] ++ (if kn = 0 then [] else [⟨sn, sd, rn, rd, t, 1, 0, 1⟩]) ∧ wx.ownsRow W5.heap.size 70 8 v M.length (pcflat M)) ∧ Below W5.heap.size W5 wx)
            case first => 
              by_cases hk : kn = 0
              · have z1 : (kn != 0) = false := by simpa using hk
                have z2 : (kn == 0) = true := by simpa using hk
                go_wp2_with fail
                go_meet
                exact ⟨Lib.hid ⟨_, rfl, by rw [if_pos hk]; exact HR.out⟩, hBn⟩
              · have z1 : (kn != 0) = true := by simpa using hk
                have z2 : (kn == 0) = false := by simpa using hk
                have HS2 : Hid (∀ w', Below W5.heap.size W5 w' → Below W5.heap.size W5 w' ∧ w'.cell? ⟨Bz, 0, none⟩ = some (.int .i64 0) ∧ w'.cell? ⟨Bz, 1, none⟩ = some (.int .i64 1) ∧ w'.cell? ⟨B13, 0, none⟩ = some (.int .i64 rn) ∧ w'.cell? ⟨B13, 1, none⟩ = some (.int .i64 rd) ∧ w'.cell? ⟨B15, 0, none⟩ = some (.int .i64 sn) ∧ w'.cell? ⟨B15, 1, none⟩ = some (.int .i64 sd)) := Lib.hid fun w' h => ⟨h, (HS.out w' h).2.2.2.1, (HS.out w' h).2.2.2.2.1, (HS.out w' h).2.2.2.2.2.2.2.1, (HS.out w' h).2.2.2.2.2.2.2.2.1, (HS.out w' h).2.2.2.2.2.2.2.2.2.2.2.1, (HS.out w' h).2.2.2.2.2.2.2.2.2.2.2.2.1⟩
                have HNK := Lib.hid hk
                clear hk
                go_upto_region 19 with (fail)
                clear z1 z2 x0 x1 x2 x3 x4 x5 x6 x7 x8 x9 x10 x11 x12 x13 x14 x15 x16 x17
                refine cv19 HS2 HNK HR hBn ?_
                intro u19 u20 u21 u22 u23 u24 u25 u26 u27 u28 u29 u30 u31 u32 u33 u34 u35 u36 u37 u38 u39 u40 u41 u42 u43 u44 u45 u46 u47 u48 u49 u50 u51 u52 u53 u54 u55 u56 u57 u58 u59 u60 u61 u62 u63 u64 u65 u66 u67 u68 u69 u70 u71 u72 u73 u74 u75 u76 u77 u78 u79 u80 u81 u82 u83 u84 u85 u86 u87 u88 u89 u90 u91 u92 u93 u94 u95 u96 u97 u98 u99 u100 u101 u102 u103 u104 u105 u106 u107 u108 u109 u110 u111 u112 u113 u114 u115 u116 u117 u118 u119 u120 u121 u122 u123 u124 u125 u126 u127 u128 u129 u130 u131 u132 u133 u134 u135 u136 u137 u138 u139 u140 u141 u142 u143 u144 u145 u146 u147 u148 u149 u150 u151 u152 u153 u154 u155 u156 wc hcut
                go_wp2_with fail
                go_meet
                exact hcut
            case rest =>
              obtain ⟨HM, hBm⟩ := hcut
              obtain ⟨r20, rfl⟩ : ∃ x : Value, x = u19 := ⟨_, rfl⟩
              obtain ⟨W7, rfl⟩ : ∃ x : World, x = wc := ⟨_, rfl⟩
              clear hBn HR x0 x1 x2 x3 x4 x5 x6 x7 x8 x9 x10 x11 x12 x13 x14 x15 x16 x17
              obtain ⟨M, hM, hMo⟩ := HM.out
              have HR := Lib.hid hMo
              have hMl : M.length ≤ 2 := by rw [hM]; split <;> simp
              have HMM := Lib.hid hM
              clear hM hMo HM
              obtain ⟨_, x0, x1, x2, x3, x4, x5, x6, x7, x8, x9, x10, x11, x12, x13, x14, x15, x16, x17⟩ := HS.out _ hBm
              go_upto_region 20 with (fail)
              have HS2 : Hid (∀ w', Below W5.heap.size W5 w' → Below W5.heap.size W5 w' ∧ w'.cell? ⟨w.heap.size, 4, none⟩ = some (.int .i64 m.fall) ∧ w'.cell? ⟨Bz, 0, none⟩ = some (.int .i64 0) ∧ w'.cell? ⟨Bz, 1, none⟩ = some (.int .i64 1) ∧ w'.cell? ⟨Bk, 0, none⟩ = some (.func (.func 46) #[] #[.pointer (some ⟨Bb, 0, none⟩)]) ∧ w'.cell? ⟨B14, 0, none⟩ = some (.int .i64 fn) ∧ w'.cell? ⟨B14, 1, none⟩ = some (.int .i64 fd) ∧ w'.cell? ⟨B17, 0, none⟩ = some (.int .i64 pn) ∧ w'.cell? ⟨B17, 1, none⟩ = some (.int .i64 pd) ∧ w'.cell? ⟨B18, 0, none⟩ = some (.int .i64 en) ∧ w'.cell? ⟨B18, 1, none⟩ = some (.int .i64 ed)) := Lib.hid fun w' h => ⟨h, (HS.out w' h).2.2.1, (HS.out w' h).2.2.2.1, (HS.out w' h).2.2.2.2.1, (HS.out w' h).2.2.2.2.2.2.1, (HS.out w' h).2.2.2.2.2.2.2.2.2.1, (HS.out w' h).2.2.2.2.2.2.2.2.2.2.1, (HS.out w' h).2.2.2.2.2.2.2.2.2.2.2.2.2.2.2.1, (HS.out w' h).2.2.2.2.2.2.2.2.2.2.2.2.2.2.2.2.1, (HS.out w' h).2.2.2.2.2.2.2.2.2.2.2.2.2.2.2.2.2.1, (HS.out w' h).2.2.2.2.2.2.2.2.2.2.2.2.2.2.2.2.2.2⟩
              refine cv20 HS2 S3 M6 hMl hNF HR hBm ?_
              intro u19 u20 u21 u22 u23 u24 u25 u26 u27 u28 u29 u30 u31 u32 u33 u34 u35 u36 u37 u38 u39 u40 u41 u42 u43 u44 u45 u46 u47 u48 u49 u50 u51 u52 u53 u54 u55 u56 u57 u58 u59 u60 u61 u62 u63 u64 u65 u66 u67 u68 u69 u70 u71 u72 u73 u74 u75 u76 u77 u78 u79 u80 u81 u82 u83 u84 u85 u86 u87 u88 u89 u90 u91 u92 u93 u94 u95 u96 u97 u98 u99 u100 u101 u102 u103 u104 u105 u106 u107 u108 u109 u110 u111 u112 u113 u114 u115 u116 u117 u118 u119 u120 u121 u122 u123 u124 u125 u126 u127 u128 u129 u130 u131 u132 u133 u134 u135 u136 u137 u138 u139 u140 u141 u142 u143 u144 u145 u146 u147 u148 u149 u150 u151 u152 u153 u154 u155 u156 wc hcut
              clear HS2
              · obtain ⟨HF, hBf⟩ := hcut
                obtain ⟨r21, rfl⟩ : ∃ x : Value, x = u19 := ⟨_, rfl⟩
                obtain ⟨W8, rfl⟩ : ∃ x : World, x = wc := ⟨_, rfl⟩
                clear x0 x1 x2 x3 x4 x5 x6 x7 x8 x9 x10 x11 x12 x13 x14 x15 x16 x17
                obtain ⟨_, x0, x1, x2, x3, x4, x5, x6, x7, x8, x9, x10, x11, x12, x13, x14, x15, x16, x17⟩ := HS.out _ hBf
                go_wp2_with fail
                go_ret2
                refine ⟨Lib.hid ⟨_, rfl, ?_⟩, W5b.trans (hBf.mono W5b.size)⟩
                have e : L = (M ++ ([⟨pn, pd, hn, hd, t, 1, mn, md⟩, ⟨en, ed, d, 1, 0, 1, 0, 1⟩] : List Pc)) := by rw [HL.out, ← HMM.out]
                rw [e]
                exact own_base HF.out W5b.size
end Go.Proofs.Ytlgpolfbilkmbaa
namespace Go.Proofs.Ytlgpolfbilkmbaa
open Go.RowKit Go.Shelf

theorem make_low {n d : Int} (hd : 0 < d) : makeP n d = fitP (lowN n d) (lowD n d) := by
  unfold makeP
  rw [if_neg (by omega)]
  have e1 : ((n.natAbs : Int)) / (Int.gcd n d : Int) = ((lowN n d).natAbs : Int) := by rw [lowN_abs, Int.natCast_ediv]
  have e2 : ((d.natAbs : Int)) / (Int.gcd n d : Int) = lowD n d := by rw [show (d.natAbs : Int) = d by omega]; rfl
  rw [e1, e2]
  refine sign_fit ?_
  have := low_sign (n := n) hd
  rw [decide_eq_false (show ¬ d < 0 by omega), Bool.eq_iff_iff]
  simp
  rw [this]
  omega
theorem fit_small {p q : Int} (h1 : p.natAbs ≤ 1152921504606846976) (h2 : q ≤ 1152921504606846976) : fitP p q = (p, q, 0) := by
  unfold fitP; rw [if_neg (by omega)]
theorem fit_low {n d : Int} (hd : 0 < d) (h1 : -1152921504606846976 ≤ n) (h1' : n ≤ 1152921504606846976) (h2 : d ≤ 1152921504606846976) : fitP (lowN n d) (lowD n d) = (lowN n d, lowD n d, 0) := by
  have a := lowN_le n d
  have b := lowD_le (n := n) hd
  exact fit_small (by omega) (by omega)
/-- A sum of two fractions in lowest terms, in lowest terms. -/
theorem add_low {n1 d1 n2 d2 N D : Int} (h1 : 0 < d1) (h2 : 0 < d2) (hD : 0 < D) (h : (n1 * d2 + n2 * d1) * D = N * (d1 * d2)) :
    lowN (lowN n1 d1 * lowD n2 d2 + lowN n2 d2 * lowD n1 d1) (lowD n1 d1 * lowD n2 d2) = lowN N D ∧ lowD (lowN n1 d1 * lowD n2 d2 + lowN n2 d2 * lowD n1 d1) (lowD n1 d1 * lowD n2 d2) = lowD N D := by
  have a1 := lowN_mul n1 d1
  have a2 := lowD_mul n1 d1
  have b1 := lowN_mul n2 d2
  have b2 := lowD_mul n2 d2
  have g1 := gcd_posR (n := n1) h1
  have g2 := gcd_posR (n := n2) h2
  have p1 := lowD_pos (n := n1) h1
  have p2 := lowD_pos (n := n2) h2
  refine low_same (Int.mul_pos p1 p2) hD ?_
  generalize lowN n1 d1 = x1 at *
  generalize lowD n1 d1 = y1 at *
  generalize lowN n2 d2 = x2 at *
  generalize lowD n2 d2 = y2 at *
  generalize (Int.gcd n1 d1 : Int) = u at *
  generalize (Int.gcd n2 d2 : Int) = v at *
  subst a1 a2 b1 b2
  have huv : u * v ≠ 0 := by have := Int.mul_pos g1 g2; omega
  refine Int.eq_of_mul_eq_mul_right huv ?_
  have e1 : (x1 * y2 + x2 * y1) * D * (u * v) = (x1 * u * (y2 * v) + x2 * v * (y1 * u)) * D := by
    have : (x1 * u * (y2 * v) + x2 * v * (y1 * u)) = (x1 * y2 + x2 * y1) * (u * v) := by
      rw [Int.add_mul]; congr 1 <;> ac_rfl
    rw [this]; ac_rfl
  rw [e1, h]
  ac_rfl
theorem mul_low2 {n1 d1 n2 d2 N D : Int} (h1 : 0 < d1) (h2 : 0 < d2) (hD : 0 < D) (h : n1 * n2 * D = N * (d1 * d2)) :
    lowN (lowN n1 d1 * lowN n2 d2) (lowD n1 d1 * lowD n2 d2) = lowN N D ∧ lowD (lowN n1 d1 * lowN n2 d2) (lowD n1 d1 * lowD n2 d2) = lowD N D := by
  have a1 := lowN_mul n1 d1
  have a2 := lowD_mul n1 d1
  have b1 := lowN_mul n2 d2
  have b2 := lowD_mul n2 d2
  have g1 := gcd_posR (n := n1) h1
  have g2 := gcd_posR (n := n2) h2
  have p1 := lowD_pos (n := n1) h1
  have p2 := lowD_pos (n := n2) h2
  refine low_same (Int.mul_pos p1 p2) hD ?_
  generalize lowN n1 d1 = x1 at *
  generalize lowD n1 d1 = y1 at *
  generalize lowN n2 d2 = x2 at *
  generalize lowD n2 d2 = y2 at *
  generalize (Int.gcd n1 d1 : Int) = u at *
  generalize (Int.gcd n2 d2 : Int) = v at *
  subst a1 a2 b1 b2
  have huv : u * v ≠ 0 := by have := Int.mul_pos g1 g2; omega
  refine Int.eq_of_mul_eq_mul_right huv ?_
  have e1 : x1 * x2 * D * (u * v) = x1 * u * (x2 * v) * D := by ac_rfl
  rw [e1, h]
  ac_rfl
theorem addP_low {n1 d1 n2 d2 N D : Int} (h1 : 0 < d1) (h2 : 0 < d2) (hD : 0 < D) (h : (n1 * d2 + n2 * d1) * D = N * (d1 * d2)) (b1 : -1152921504606846976 ≤ N) (b2 : N ≤ 1152921504606846976) (b3 : D ≤ 1152921504606846976) :
    addP (lowN n1 d1) (lowD n1 d1) (lowN n2 d2) (lowD n2 d2) = (lowN N D, lowD N D, 0) := by
  unfold addP
  obtain ⟨e1, e2⟩ := add_low h1 h2 hD h
  rw [e1, e2]
  exact fit_low hD b1 b2 b3
theorem mulP_low {n1 d1 n2 d2 N D : Int} (h1 : 0 < d1) (h2 : 0 < d2) (hD : 0 < D) (h : n1 * n2 * D = N * (d1 * d2)) (b1 : -1152921504606846976 ≤ N) (b2 : N ≤ 1152921504606846976) (b3 : D ≤ 1152921504606846976) :
    mulP (lowN n1 d1) (lowD n1 d1) (lowN n2 d2) (lowD n2 d2) = (lowN N D, lowD N D, 0) := by
  unfold mulP
  obtain ⟨e1, e2⟩ := mul_low2 h1 h2 hD h
  rw [e1, e2]
  exact fit_low hD b1 b2 b3
theorem low_one (n : Int) : lowN n 1 = n ∧ lowD n 1 = 1 := low_self (by simp)
def kP (d R F t : Int) : Int := 2 * R * F * d - t * t * (R + F)
def curveL (d R F t : Int) : List Pc := if d = 0 then [⟨0, 1, 0, 1, 0, 1, 0, 1⟩] else
  [⟨0, 1, 0, 1, 0, 1, lowN R 2, lowD R 2⟩] ++ (if kP d R F t = 0 then [] else [⟨lowN t R, lowD t R, lowN (t * t) (2 * R), lowD (t * t) (2 * R), t, 1, 0, 1⟩]) ++
  [⟨lowN (2 * F * (t * t) + kP d R F t) (2 * R * F * t), lowD (2 * F * (t * t) + kP d R F t) (2 * R * F * t), lowN (2 * F * d - t * t) (2 * F), lowD (2 * F * d - t * t) (2 * F), t, 1, lowN (-F) 2, lowD (-F) 2⟩,
   ⟨lowN (2 * F * (t * t) + kP d R F t + 2 * R * (t * t)) (2 * R * F * t), lowD (2 * F * (t * t) + kP d R F t + 2 * R * (t * t)) (2 * R * F * t), d, 1, 0, 1, 0, 1⟩]
theorem top_pos {d V R F t : Int} (hd : 1 ≤ d) (hR : 1 ≤ R) (hF : 1 ≤ F) (hV : 1 ≤ V) (h : IsTop d V R F t) : 1 ≤ t := by
  obtain ⟨t0, t1, t2, t3⟩ := h
  rcases Int.lt_or_le 0 t with l | l
  · exact l
  · obtain rfl : t = 0 := by omega
    rcases t3 with e | e
    · omega
    · refine absurd ?_ e
      unfold Room
      have h1 : R * 1 ≤ R * F := Int.mul_le_mul_of_nonneg_left hF (by omega)
      have h2 : 1 * F ≤ R * F := Int.mul_le_mul_of_nonneg_right hR (by omega)
      have h3 : R * F * 1 ≤ R * F * d := Int.mul_le_mul_of_nonneg_left hd (Int.mul_nonneg (by omega) (by omega))
      have e1 : 2 * R * F * d = 2 * (R * F * d) := by rw [Int.mul_assoc 2, Int.mul_assoc 2]
      rw [e1]
      omega
/-- The numbers of a curve stay small. -/
structure CurveB (d R F t : Int) : Prop where
  T0 : 1 ≤ t * t
  T1 : t * t ≤ 67108864
  k0 : 0 ≤ kP d R F t
  k1 : kP d R F t ≤ 562949953421312
  rf0 : 1 ≤ 2 * R * F
  rf1 : 2 * R * F ≤ 536870912
  w0 : 1 ≤ 2 * R * F * t
  w1 : 2 * R * F * t ≤ 4398046511104
  a0 : 1 ≤ 2 * F * (t * t)
  a1 : 2 * F * (t * t) ≤ 2199023255552
  b0 : 1 ≤ 2 * R * (t * t)
  b1 : 2 * R * (t * t) ≤ 2199023255552
  c0 : 0 ≤ 2 * R * d
  c1 : 2 * R * d ≤ 34359738368
  e0 : 0 ≤ 2 * F * d
  e1 : 2 * F * d ≤ 34359738368
theorem curve_b {d V R F t : Int} (d1 : 1 ≤ d) (d2 : d ≤ 1048576) (R0 : 1 ≤ R) (R1 : R ≤ 16384) (F0 : 1 ≤ F) (F1 : F ≤ 16384) (V0 : 1 ≤ V) (V1 : V ≤ 8192) (h : IsTop d V R F t) : CurveB d R F t := by
  have t0 := top_pos d1 R0 F0 V0 h
  obtain ⟨_, t1, t2, _⟩ := h
  unfold Room at t2
  have T0 : 1 * 1 ≤ t * t := Int.mul_le_mul t0 t0 (by decide) (by omega)
  have T1 : t * t ≤ 8192 * 8192 := Int.mul_le_mul (by omega) (by omega) (by omega) (by decide)
  have S0 : 1 * 1 ≤ t * t * (R + F) := Int.mul_le_mul (by omega) (by omega) (by decide) (by omega)
  have r0 : 1 * 1 ≤ 2 * R * F := Int.mul_le_mul (by omega) F0 (by decide) (by omega)
  have r1 : 2 * R * F ≤ 32768 * 16384 := Int.mul_le_mul (by omega) F1 (by omega) (by decide)
  have q1 : 2 * R * F * d ≤ 536870912 * 1048576 := Int.mul_le_mul (by omega) d2 (by omega) (by decide)
  have u0 : 1 * 1 ≤ 2 * R * F * t := Int.mul_le_mul (by omega) t0 (by decide) (by omega)
  have u1 : 2 * R * F * t ≤ 536870912 * 8192 := Int.mul_le_mul (by omega) (by omega) (by omega) (by decide)
  have v0 : 1 * 1 ≤ 2 * F * (t * t) := Int.mul_le_mul (by omega) (by omega) (by decide) (by omega)
  have v1 : 2 * F * (t * t) ≤ 32768 * 67108864 := Int.mul_le_mul (by omega) (by omega) (by omega) (by decide)
  have x0 : 1 * 1 ≤ 2 * R * (t * t) := Int.mul_le_mul (by omega) (by omega) (by decide) (by omega)
  have x1 : 2 * R * (t * t) ≤ 32768 * 67108864 := Int.mul_le_mul (by omega) (by omega) (by omega) (by decide)
  have y0 := Int.mul_nonneg (show 0 ≤ 2 * R by omega) (show 0 ≤ d by omega)
  have y1 : 2 * R * d ≤ 32768 * 1048576 := Int.mul_le_mul (by omega) d2 (by omega) (by decide)
  have z0 := Int.mul_nonneg (show 0 ≤ 2 * F by omega) (show 0 ≤ d by omega)
  have z1 : 2 * F * d ≤ 32768 * 1048576 := Int.mul_le_mul (by omega) d2 (by omega) (by decide)
  exact ⟨by omega, by omega, by unfold kP; omega, by unfold kP; omega, by omega, by omega, by omega, by omega, by omega, by omega, by omega, by omega, y0, by omega, z0, by omega⟩
theorem cross1 (d R t : Int) : (d * (2 * R) + -(t * t) * 1) * (2 * R) = (2 * R * d - t * t) * (1 * (2 * R)) := by
  rw [Int.one_mul, Int.mul_one, Int.mul_comm d (2 * R)]; rfl
theorem cross2 (d R F t : Int) : ((2 * R * d - t * t) * (2 * F) + -(t * t) * (2 * R)) * (2 * R * F) = kP d R F t * (2 * R * (2 * F)) := by
  unfold kP
  grind
theorem cross3 (d R F t : Int) : kP d R F t * 1 * (2 * R * F * t) = kP d R F t * (2 * R * F * t) := by rw [Int.mul_one]
theorem cross4 (d R F t : Int) : (t * (2 * R * F * t) + kP d R F t * R) * (2 * R * F * t) = (2 * F * (t * t) + kP d R F t) * (R * (2 * R * F * t)) := by
  generalize kP d R F t = k
  grind
theorem cross5 (d R F t : Int) : ((2 * F * (t * t) + kP d R F t) * F + t * (2 * R * F * t)) * (2 * R * F * t) = (2 * F * (t * t) + kP d R F t + 2 * R * (t * t)) * (2 * R * F * t * F) := by
  generalize kP d R F t = k
  grind
theorem cross6 (d F t : Int) : (d * (2 * F) + -(t * t) * 1) * (2 * F) = (2 * F * d - t * t) * (1 * (2 * F)) := by
  rw [Int.one_mul, Int.mul_one, Int.mul_comm d (2 * F)]; rfl

theorem valid_low {n d : Int} (hd : 0 < d) (h1 : -1152921504606846976 ≤ n) (h2 : n ≤ 1152921504606846976) (h3 : d ≤ 1152921504606846976) : validF (lowN n d) (lowD n d) = true := by
  have a := lowN_le n d
  have b := lowD_le (n := n) hd
  have c := lowD_pos (n := n) hd
  exact (validF_iff _ _).2 ⟨by omega, by omega, by omega, by omega, low_cop hd⟩
theorem gives_make {n d : Int} (hn : ¬ n = 0) (hd : 0 < d) (h1 : -1152921504606846976 ≤ n) (h2 : n ≤ 1152921504606846976) (h3 : d ≤ 1152921504606846976) : Gives 35 #[.int .i64 n, .int .i64 d] (lowN n d) (lowD n d) := fun w => by
  have h := make_any n d hn (by omega) (by omega) (by omega) (by omega) w
  rw [make_low hd, fit_low hd h1 h2 h3] at h
  exact h
/-- The sum that the program reckons is below the sum of the products. -/
theorem sum_le {an ad bn bd n1 d1 n2 d2 : Int} (ha : 0 < ad) (hb : 0 < bd) (h1 : an.natAbs ≤ n1.natAbs) (h2 : ad ≤ d1) (h3 : bn.natAbs ≤ n2.natAbs) (h4 : bd ≤ d2) (h : (n1.natAbs : Int) * d2 + (n2.natAbs : Int) * d1 < 18446744073709551616) :
    (an.natAbs : Int) * (bd / (Int.gcd ad bd : Int)) + (bn.natAbs : Int) * (ad / (Int.gcd ad bd : Int)) < 18446744073709551616 := by
  have g := gcd_posR (n := ad) hb
  have e1 : bd / (Int.gcd ad bd : Int) ≤ d2 := Int.le_trans (Int.ediv_le_self _ (by omega)) h4
  have e2 : ad / (Int.gcd ad bd : Int) ≤ d1 := Int.le_trans (Int.ediv_le_self _ (by omega)) h2
  have p1 : 0 ≤ bd / (Int.gcd ad bd : Int) := Int.ediv_nonneg (by omega) (by omega)
  have p2 : 0 ≤ ad / (Int.gcd ad bd : Int) := Int.ediv_nonneg (by omega) (by omega)
  have q1 : (an.natAbs : Int) * (bd / (Int.gcd ad bd : Int)) ≤ (n1.natAbs : Int) * d2 := Int.mul_le_mul (by omega) e1 p1 (by omega)
  have q2 : (bn.natAbs : Int) * (ad / (Int.gcd ad bd : Int)) ≤ (n2.natAbs : Int) * d1 := Int.mul_le_mul (by omega) e2 p2 (by omega)
  omega
theorem gives_add {n1 d1 n2 d2 N D : Int} (h1 : 0 < d1) (h2 : 0 < d2) (hD : 0 < D) (hc : (n1 * d2 + n2 * d1) * D = N * (d1 * d2)) (b1 : -1152921504606846976 ≤ N) (b2 : N ≤ 1152921504606846976) (b3 : D ≤ 1152921504606846976)
    (c1 : -1152921504606846976 ≤ n1) (c2 : n1 ≤ 1152921504606846976) (c3 : d1 ≤ 1152921504606846976) (c4 : -1152921504606846976 ≤ n2) (c5 : n2 ≤ 1152921504606846976) (c6 : d2 ≤ 1152921504606846976)
    (hs : (n1.natAbs : Int) * d2 + (n2.natAbs : Int) * d1 < 18446744073709551616) (hd : d1 * d2 < 18446744073709551616) :
    Gives 32 #[.agg #[.int .i64 (lowN n1 d1), .int .i64 (lowD n1 d1)], .agg #[.int .i64 (lowN n2 d2), .int .i64 (lowD n2 d2)]] (lowN N D) (lowD N D) := fun w => by
  have p1 := lowD_pos (n := n1) h1
  have p2 := lowD_pos (n := n2) h2
  have l1 := lowD_le (n := n1) h1
  have l2 := lowD_le (n := n2) h2
  have h := add_any (lowN n1 d1) (lowD n1 d1) (lowN n2 d2) (lowD n2 d2) (valid_low h1 c1 c2 c3) (valid_low h2 c4 c5 c6) (sum_le p1 p2 (lowN_le _ _) l1 (lowN_le _ _) l2 hs)
    (by have := Int.mul_le_mul l1 l2 (by omega) (by omega); omega) w
  rw [addP_low h1 h2 hD hc b1 b2 b3] at h
  exact h
theorem gives_sub {n1 d1 n2 d2 N D : Int} (h1 : 0 < d1) (h2 : 0 < d2) (hD : 0 < D) (hc : (n1 * d2 + -n2 * d1) * D = N * (d1 * d2)) (b1 : -1152921504606846976 ≤ N) (b2 : N ≤ 1152921504606846976) (b3 : D ≤ 1152921504606846976)
    (c1 : -1152921504606846976 ≤ n1) (c2 : n1 ≤ 1152921504606846976) (c3 : d1 ≤ 1152921504606846976) (c4 : -1152921504606846976 ≤ n2) (c5 : n2 ≤ 1152921504606846976) (c6 : d2 ≤ 1152921504606846976)
    (hs : (n1.natAbs : Int) * d2 + (n2.natAbs : Int) * d1 < 18446744073709551616) (hd : d1 * d2 < 18446744073709551616) :
    Gives 49 #[.agg #[.int .i64 (lowN n1 d1), .int .i64 (lowD n1 d1)], .agg #[.int .i64 (lowN n2 d2), .int .i64 (lowD n2 d2)]] (lowN N D) (lowD N D) := fun w => by
  have p1 := lowD_pos (n := n1) h1
  have p2 := lowD_pos (n := n2) h2
  have l1 := lowD_le (n := n1) h1
  have l2 := lowD_le (n := n2) h2
  have h := sub_any (lowN n1 d1) (lowD n1 d1) (lowN n2 d2) (lowD n2 d2) (valid_low h1 c1 c2 c3) (valid_low h2 c4 c5 c6) (sum_le p1 p2 (lowN_le _ _) l1 (lowN_le _ _) l2 hs)
    (by have := Int.mul_le_mul l1 l2 (by omega) (by omega); omega) w
  rw [← lowN_neg, show lowD n2 d2 = lowD (-n2) d2 from (lowD_neg _ _).symm, addP_low h1 h2 hD hc b1 b2 b3] at h
  rw [show lowD n2 d2 = lowD (-n2) d2 from (lowD_neg _ _).symm]
  exact h
theorem gives_div {n1 d1 t : Int} (h1 : 0 < d1) (ht : 1 ≤ t) (ht2 : t ≤ 8192) (b1 : -1152921504606846976 ≤ n1) (b2 : n1 ≤ 1152921504606846976) (b3 : d1 * t ≤ 1152921504606846976) (c3 : d1 ≤ 1152921504606846976) :
    Gives 50 #[.agg #[.int .i64 (lowN n1 d1), .int .i64 (lowD n1 d1)], .agg #[.int .i64 t, .int .i64 1]] (lowN n1 (d1 * t)) (lowD n1 (d1 * t)) := fun w => by
  have hv : validF t 1 = true := (validF_iff _ _).2 ⟨by omega, by omega, by omega, by omega, by simp⟩
  have h := divP_any (lowN n1 d1) (lowD n1 d1) t 1 (valid_low h1 b1 b2 c3) hv (by omega) w
  have e := low_self (p := 1) (q := t) (by simp)
  have h2 : mulP (lowN n1 d1) (lowD n1 d1) 1 t = (lowN n1 (d1 * t), lowD n1 (d1 * t), 0) := by
    have h3 := mulP_low (n1 := n1) (d1 := d1) (n2 := 1) (d2 := t) (N := n1) (D := d1 * t) h1 (by omega) (Int.mul_pos h1 (by omega)) (by rw [Int.mul_one]) b1 b2 b3
    rw [e.1, e.2] at h3
    exact h3
  rw [h2] at h
  exact h
theorem abs_le {n : Int} {b : Int} (h1 : 0 ≤ n) (h2 : n ≤ b) : (n.natAbs : Int) ≤ b := by omega

set_option maxHeartbeats 4000000 in
theorem curve_any (d : Int) (m : Mv) (t : Int) (hg : givenP d m = 0) (hd0 : ¬ d = 0) (ht : IsTop d m.spd m.rise m.fall t) (w : World) :
    Calls Try.prog 16 #[.int .i64 d, .agg #[.string m.name, .int .i64 m.to, .int .i64 m.spd, .int .i64 m.rise, .int .i64 m.fall]] w fun e w' => Hid (∃ v, e = .returned (.tuple #[v, .int .i64 0]) ∧ w'.ownsRow w.heap.size 70 8 v (curveL d m.rise m.fall t).length (pcflat (curveL d m.rise m.fall t))) ∧ Below w.heap.size w w' := by
  obtain ⟨hv, hd⟩ := given_ok hg
  obtain ⟨V0, V1, R0, R1, F0, F1⟩ := valid_bds hv
  obtain ⟨d1, d2⟩ := inB_iff.1 hd
  have t0 := top_pos (by omega) R0 F0 V0 ht
  have t1 : t ≤ 8192 := by have := ht.2.1; omega
  have B := curve_b (by omega) d2 R0 R1 F0 F1 V0 V1 ht
  obtain ⟨T0, T1, k0, k1, rf0, rf1, w0, w1, a0, a1, b0, b1, c0, c1, e0, e1⟩ := B
  have o1 := low_one d
  have o2 := low_one t
  refine curve_walk d m t (t * t) (2 * m.rise) (2 * m.fall) (lowN (t * t) (2 * m.rise)) (lowD (t * t) (2 * m.rise)) (lowN (t * t) (2 * m.fall)) (lowD (t * t) (2 * m.fall)) (lowN t m.rise) (lowD t m.rise)
    (lowN (2 * m.rise * d - t * t) (2 * m.rise)) (lowD (2 * m.rise * d - t * t) (2 * m.rise)) (lowN (kP d m.rise m.fall t) (2 * m.rise * m.fall)) (lowD (kP d m.rise m.fall t) (2 * m.rise * m.fall))
    (lowN (kP d m.rise m.fall t) (2 * m.rise * m.fall * t)) (lowD (kP d m.rise m.fall t) (2 * m.rise * m.fall * t))
    (lowN (2 * m.fall * (t * t) + kP d m.rise m.fall t) (2 * m.rise * m.fall * t)) (lowD (2 * m.fall * (t * t) + kP d m.rise m.fall t) (2 * m.rise * m.fall * t))
    (lowN t m.fall) (lowD t m.fall)
    (lowN (2 * m.fall * (t * t) + kP d m.rise m.fall t + 2 * m.rise * (t * t)) (2 * m.rise * m.fall * t)) (lowD (2 * m.fall * (t * t) + kP d m.rise m.fall t + 2 * m.rise * (t * t)) (2 * m.rise * m.fall * t))
    (lowN m.rise 2) (lowD m.rise 2) (lowN (2 * m.fall * d - t * t) (2 * m.fall)) (lowD (2 * m.fall * d - t * t) (2 * m.fall)) (lowN (-m.fall) 2) (lowD (-m.fall) 2)
    hg hd0 ht (IntWalk.i64_in _ (by omega)) (IntWalk.i64_in _ (by omega)) (IntWalk.i64_in _ (by omega)) (IntWalk.i64_in _ (by omega))
    (gives_make (by omega) (by omega) (by omega) (by omega) (by omega)) (gives_make (by omega) (by omega) (by omega) (by omega) (by omega)) (gives_make (by omega) (by omega) (by omega) (by omega) (by omega))
    (gives_make (by omega) (by omega) (by omega) (by omega) (by omega)) (gives_make (by omega) (by omega) (by omega) (by omega) (by omega)) (gives_make (by omega) (by omega) (by omega) (by omega) (by omega))
    ?_ ?_ ?_ ?_ ?_ ?_ _ ?_ w
  · have h := gives_sub (n1 := d) (d1 := 1) (n2 := t * t) (d2 := 2 * m.rise) (N := 2 * m.rise * d - t * t) (D := 2 * m.rise) (by omega) (by omega) (by omega) (cross1 d m.rise t) (by omega) (by omega) (by omega) (by omega) (by omega) (by omega) (by omega) (by omega) (by omega)
      (by have := Int.mul_le_mul (abs_le (by omega) d2) (show 2 * m.rise ≤ 32768 by omega) (by omega) (by decide); have := abs_le (n := t * t) (by omega) T1; omega) (by omega)
    rw [o1.1, o1.2] at h
    exact h
  · exact gives_sub (n1 := 2 * m.rise * d - t * t) (d1 := 2 * m.rise) (n2 := t * t) (d2 := 2 * m.fall) (N := kP d m.rise m.fall t) (D := 2 * m.rise * m.fall) (by omega) (by omega) (by omega) (cross2 d m.rise m.fall t) (by omega) (by omega) (by omega) (by omega) (by omega) (by omega) (by omega) (by omega) (by omega)
      (by have := Int.mul_le_mul (show ((2 * m.rise * d - t * t).natAbs : Int) ≤ 34359738368 by omega) (show 2 * m.fall ≤ 32768 by omega) (by omega) (by decide); have := Int.mul_le_mul (abs_le (n := t * t) (by omega) T1) (show 2 * m.rise ≤ 32768 by omega) (by omega) (by decide); omega)
      (by have := Int.mul_le_mul (show 2 * m.rise ≤ 32768 by omega) (show 2 * m.fall ≤ 32768 by omega) (by omega) (by decide); omega)
  · have h := gives_sub (n1 := d) (d1 := 1) (n2 := t * t) (d2 := 2 * m.fall) (N := 2 * m.fall * d - t * t) (D := 2 * m.fall) (by omega) (by omega) (by omega) (cross6 d m.fall t) (by omega) (by omega) (by omega) (by omega) (by omega) (by omega) (by omega) (by omega) (by omega)
      (by have := Int.mul_le_mul (abs_le (by omega) d2) (show 2 * m.fall ≤ 32768 by omega) (by omega) (by decide); have := abs_le (n := t * t) (by omega) T1; omega) (by omega)
    rw [o1.1, o1.2] at h
    exact h
  · exact gives_div (by omega) t0 t1 (by omega) (by omega) (by omega) (by omega)
  · exact gives_add (n1 := t) (d1 := m.rise) (n2 := kP d m.rise m.fall t) (d2 := 2 * m.rise * m.fall * t) (N := 2 * m.fall * (t * t) + kP d m.rise m.fall t) (D := 2 * m.rise * m.fall * t) (by omega) (by omega) (by omega) (cross4 d m.rise m.fall t) (by omega) (by omega) (by omega) (by omega) (by omega) (by omega) (by omega) (by omega) (by omega)
      (by have := Int.mul_le_mul (abs_le (n := t) (by omega) t1) w1 (by omega) (by decide); have := Int.mul_le_mul (abs_le k0 k1) R1 (by omega) (by decide); omega)
      (by have := Int.mul_le_mul R1 w1 (by omega) (by decide); omega)
  · exact gives_add (n1 := 2 * m.fall * (t * t) + kP d m.rise m.fall t) (d1 := 2 * m.rise * m.fall * t) (n2 := t) (d2 := m.fall) (N := 2 * m.fall * (t * t) + kP d m.rise m.fall t + 2 * m.rise * (t * t)) (D := 2 * m.rise * m.fall * t) (by omega) (by omega) (by omega) (cross5 d m.rise m.fall t) (by omega) (by omega) (by omega) (by omega) (by omega) (by omega) (by omega) (by omega) (by omega)
      (by have := Int.mul_le_mul (abs_le (n := 2 * m.fall * (t * t) + kP d m.rise m.fall t) (b := 565148976676864) (by omega) (by omega)) F1 (by omega) (by decide); have := Int.mul_le_mul (abs_le (n := t) (by omega) t1) w1 (by omega) (by decide); omega)
      (by have := Int.mul_le_mul w1 F1 (by omega) (by decide); omega)
  · unfold curveL
    rw [if_neg hd0]
    have hk : (lowN (kP d m.rise m.fall t) (2 * m.rise * m.fall) = 0) = (kP d m.rise m.fall t = 0) := by
      refine propext ⟨lowN_zero, fun e => ?_⟩
      rw [e]
      exact (low_zero (by omega)).1
    simp only [hk]
end Go.Proofs.Ytlgpolfbilkmbaa
namespace Go.Proofs.Ytlgpolfbilkmbaa
open Go.RowKit Go.Shelf

theorem fr_info : (Try.prog.info? 39).map (fun i => (i.zero, i.size, i.bytes)) = some (some (.agg #[.int .i64 0, .int .i64 0]), 2, 16) := by kernel_rfl

theorem fr_append {ops : Array Oper} {rest : List Oper} {o : Oper} {a : Act} {w : World} {Q : Exit → Act → World → Prop} (hgd : o.guard = none) (s x : Operand)
    (ho : o.op = .call { callee := .builtin .append, args := #[s, x], argTypes := #[44, 44] })
    (base : Nat) (v : Value) (L : List (Int × Int)) (hs : a.eval s = v) (hown : w.ownsRow base 39 2 v L.length (frflat L))
    (bl : Nat) (y : Int × Int) (hx : a.eval x = .slice (some ⟨bl, 0, none⟩) 1 1) (hc : w.cell? ⟨bl, 0, none⟩ = some (.int .i64 y.1) ∧ w.cell? ⟨bl, 1, none⟩ = some (.int .i64 y.2)) (hl : L.length ≤ 1000000) (hbase : base ≤ w.heap.size)
    (h : ∀ v' w', w'.ownsRow base 39 2 v' (L ++ [y]).length (frflat (L ++ [y])) → w.grownBy w' v.ownBlock → wpList Try.prog ops Q rest (a.put o.dst v') w') : wpList Try.prog ops Q (o :: rest) a w := by
  obtain ⟨i0, hi, hz0, hz1, hz2⟩ := info_parts fr_info
  refine wpList_append_own _ hgd s x 44 ho base 39 i0 _ 2 16 Try.underlying44 hi hz0 hz1 hz2 rfl (by decide) v L.length (frflat L) hs hown ⟨bl, 0, none⟩ 1 1 [.int .i64 y.1, .int .i64 y.2] hx rfl ?_ (by simp [Value.oneCell']) (by unfold maxLen; omega) (by omega) hbase ?_
  · obtain ⟨c0, c1⟩ := hc
    intro j u hj
    rw [Go.WideShapes.add_plain, Nat.zero_add]
    match j, hj with
    | 0, hj => simp at hj; subst hj; exact c0
    | 1, hj => simp at hj; subst hj; exact c1
  · intro v' w' h1 h2 _
    refine h v' w' ?_ h2
    rw [frflat_snoc, List.length_append]
    exact h1
end Go.Proofs.Ytlgpolfbilkmbaa
namespace Go.Proofs.Ytlgpolfbilkmbaa
open Go.RowKit Go.Shelf

/-- What Curve hands over: an error and nothing, or the row of the curve. -/
def CurveV (w w' : World) (d : Int) (m : Mv) (t : Int) (v : Value) : Prop := (givenP d m = 0 → w'.ownsRow w.heap.size 70 8 v (curveL d m.rise m.fall t).length (pcflat (curveL d m.rise m.fall t))) ∧ (¬ givenP d m = 0 → v = .slice none 0 0)

set_option maxRecDepth 100000 in
set_option maxHeartbeats 8000000 in
theorem Curve_any (d : Int) (m : Mv) (t : Int) (ht : givenP d m = 0 → IsTop d m.spd m.rise m.fall t) (w : World) :
    Calls Try.prog 16 #[.int .i64 d, .agg #[.string m.name, .int .i64 m.to, .int .i64 m.spd, .int .i64 m.rise, .int .i64 m.fall]] w fun e w' => Hid (∃ v, e = .returned (.tuple #[v, .int .i64 (givenP d m)]) ∧ CurveV w w' d m t v) ∧ Below w.heap.size w w' := by
  by_cases hg : givenP d m = 0
  · by_cases hd : d = 0
    · have HG := Lib.hid hg
      have HL : Hid (curveL d m.rise m.fall t = [⟨0, 1, 0, 1, 0, 1, 0, 1⟩]) := Lib.hid (by unfold curveL; rw [if_pos hd])
      have hd' : (d == 0) = true := by simpa using hd
      clear hg ht hd
      go_enter Try.func16, Try.ntmps16
      go_wp2_with (go_at_call 39; (with_reducible refine (given_any d m _).mono ?_); rintro e w1 ⟨rfl, hb1⟩; rw [HG.out]; have hB1 := (below_new w (.cells #[.string m.name, .int .i64 m.to, .int .i64 m.spd, .int .i64 m.rise, .int .i64 m.fall] 23)).trans (hb1.mono (by simp)))
      go_ret2
      refine ⟨Lib.hid ⟨_, congrArg (fun x => Ending.returned (.tuple #[_, .int .i64 x])) HG.out.symm, fun _ => ?_, fun h => absurd HG.out h⟩, ?_⟩
      · rw [HL.out]
        have h := World.ownsRow_lit (base := w.heap.size) (e := 70) (size := 8) (w1.alloc (.cells #[.int .i64 0, .int .i64 1] 39)) #[.int .i64 0, .int .i64 1, .int .i64 0, .int .i64 1, .int .i64 0, .int .i64 1, .int .i64 0, .int .i64 1] 1 (by have := hB1.size; simp <;> omega) (by unfold maxLen; omega) rfl
        rw [World.size_alloc] at h
        exact h
      · exact (hB1.alloc hB1.size _).alloc (by have := hB1.size; simp <;> omega) _
    · refine (curve_any d m t hg hd (ht hg) w).mono fun e w' h => ⟨Lib.hid ?_, h.2⟩
      obtain ⟨v, he, hr⟩ := h.1.out
      exact ⟨v, by rw [he, hg], fun _ => hr, fun h => absurd hg h⟩
  · obtain ⟨g, hgg⟩ : ∃ g, givenP d m = g := ⟨_, rfl⟩
    have HG := Lib.hid hgg
    have hg' : (g == 0) = false := by rw [← hgg]; simpa using hg
    have hg'' : (g != 0) = true := by rw [← hgg]; simpa using hg
    have HN := Lib.hid hg
    clear hgg ht hg
    go_enter Try.func16, Try.ntmps16
    go_wp2_with (go_at_call 39; (with_reducible refine (given_any d m _).mono ?_); rintro e w1 ⟨rfl, hb1⟩; rw [HG.out]; have hB1 := (below_new w (.cells #[.string m.name, .int .i64 m.to, .int .i64 m.spd, .int .i64 m.rise, .int .i64 m.fall] 23)).trans (hb1.mono (by simp)))
    go_ret2
    exact ⟨Lib.hid ⟨_, congrArg (fun x => Ending.returned (.tuple #[_, .int .i64 x])) HG.out.symm, fun h => absurd h HN.out, fun _ => rfl⟩, hB1⟩

def knTo (L : List Pc) : Nat → List (Int × Int)
  | 0 => []
  | k + 1 => knTo L k ++ [((pcg L k).f0, (pcg L k).f1)]
theorem knTo_len (L : List Pc) (k : Nat) : (knTo L k).length = k := by
  induction k with
  | zero => rfl
  | succ k ih => simp [knTo, ih]
def knotsL (d R F t : Int) : List (Int × Int) := knTo (curveL d R F t) (curveL d R F t).length
theorem curveL_len (d R F t : Int) : 1 ≤ (curveL d R F t).length ∧ (curveL d R F t).length ≤ 4 := by
  unfold curveL
  split
  · simp
  · split <;> simp
def KnotsV (w w' : World) (d : Int) (m : Mv) (t : Int) (v : Value) : Prop := (givenP d m = 0 → w'.ownsRow w.heap.size 39 2 v (knotsL d m.rise m.fall t).length (frflat (knotsL d m.rise m.fall t))) ∧ (¬ givenP d m = 0 → v = .slice none 0 0)

set_option maxRecDepth 100000 in
set_option maxHeartbeats 8000000 in
theorem Knots_any (d : Int) (m : Mv) (t : Int) (ht : givenP d m = 0 → IsTop d m.spd m.rise m.fall t) (w : World) :
    Calls Try.prog 22 #[.int .i64 d, .agg #[.string m.name, .int .i64 m.to, .int .i64 m.spd, .int .i64 m.rise, .int .i64 m.fall]] w fun e w' => Hid (∃ v, e = .returned (.tuple #[v, .int .i64 (givenP d m)]) ∧ KnotsV w w' d m t v) ∧ Below w.heap.size w w' := by
  have HC := Lib.hid (Curve_any d m t ht)
  obtain ⟨g, hgg⟩ : ∃ g, givenP d m = g := ⟨_, rfl⟩
  have HGG := Lib.hid hgg
  by_cases hg : g = 0
  · have HG0 : Hid (givenP d m = 0) := Lib.hid (hgg.trans hg)
    subst hg
    obtain ⟨L, hL⟩ : ∃ L, curveL d m.rise m.fall t = L := ⟨_, rfl⟩
    have hl := curveL_len d m.rise m.fall t
    rw [hL] at hl
    have HL := Lib.hid hL
    clear hgg ht hL
    go_enter Try.func22, Try.ntmps22
    go_wp2_with (go_at_call 16; (with_reducible refine (HC.out _).mono ?_); rintro e w1 ⟨hv, hb1⟩; obtain ⟨v, rfl, hrow⟩ := hv.out; rw [HG0.out]; have hr1 := hrow.1 HG0.out; rw [HL.out] at hr1; obtain ⟨pa, pcap, rfl, hpc1, hpc2, _, hP⟩ := pc_of_row hr1; have HP := Lib.hid hP; have hB1 := (below_new w (.cells #[.string m.name, .int .i64 m.to, .int .i64 m.spd, .int .i64 m.rise, .int .i64 m.fall] 23)).trans (hb1.mono (by simp)); clear hrow hr1 hP hv)
    go_loopw [8, 22] (fun v i wr => ∃ k : Nat, k ≤ L.length ∧ i = .int .i64 k ∧ Below w1.heap.size w1 wr ∧ Hid (wr.ownsRow w1.heap.size 39 2 v (knTo L k).length (frflat (knTo L k)))) (fun _ i _ => L.length - (intOf i).toNat)
    case atStart => exact ⟨0, Nat.zero_le _, rfl, Below.refl _ _, Lib.hid (World.ownsRow_nil _ _ _ _)⟩
    case round =>
      obtain ⟨k, hk, rfl, hC, HR⟩ := hrel
      have hcs := hC.size
      by_cases hlt : k < L.length
      · obtain ⟨b, off, rfl, hb, hc⟩ := HP.out (by omega)
        obtain ⟨c0, c1, c2, c3, c4, c5, c6, c7⟩ := hc k hlt
        have d0 := (hC.cell (p := ⟨b, off + k * 8, none⟩) hb).trans c0
        have d1 := (hC.cell (p := ⟨b, off + k * 8 + 1, none⟩) hb).trans c1
        have d2 := (hC.cell (p := ⟨b, off + k * 8 + 2, none⟩) hb).trans c2
        have d3 := (hC.cell (p := ⟨b, off + k * 8 + 3, none⟩) hb).trans c3
        have d4 := (hC.cell (p := ⟨b, off + k * 8 + 4, none⟩) hb).trans c4
        have d5 := (hC.cell (p := ⟨b, off + k * 8 + 5, none⟩) hb).trans c5
        have d6 := (hC.cell (p := ⟨b, off + k * 8 + 6, none⟩) hb).trans c6
        have d7 := (hC.cell (p := ⟨b, off + k * 8 + 7, none⟩) hb).trans c7
        have hkl : (knTo L k).length ≤ 1000000 := by rw [knTo_len]; omega
        clear hc c0 c1 c2 c3 c4 c5 c6 c7
        go_wp2_with (at_builtin; refine fr_append rfl _ _ rfl w1.heap.size _ (knTo L k) rfl ((HR.out.alloc (.cells #[.int .i64 (pcg L k).f0, .int .i64 (pcg L k).f1, .int .i64 (pcg L k).a0, .int .i64 (pcg L k).a1, .int .i64 (pcg L k).b0, .int .i64 (pcg L k).b1, .int .i64 (pcg L k).c0, .int .i64 (pcg L k).c1] 70)).alloc (.cells #[.int .i64 (pcg L k).f0, .int .i64 (pcg L k).f1] 39)) _ ((pcg L k).f0, (pcg L k).f1) rfl (by simp) hkl (by first | omega | (simp; omega)) ?_; intro v5 w5 hown5 hg5; have hBn : Below w1.heap.size w1 w5 := grown_own ((HR.out.alloc (.cells #[.int .i64 (pcg L k).f0, .int .i64 (pcg L k).f1, .int .i64 (pcg L k).a0, .int .i64 (pcg L k).a1, .int .i64 (pcg L k).b0, .int .i64 (pcg L k).b1, .int .i64 (pcg L k).c0, .int .i64 (pcg L k).c1] 70)).alloc (.cells #[.int .i64 (pcg L k).f0, .int .i64 (pcg L k).f1] 39)) hg5 ((hC.alloc hcs (.cells #[.int .i64 (pcg L k).f0, .int .i64 (pcg L k).f1, .int .i64 (pcg L k).a0, .int .i64 (pcg L k).a1, .int .i64 (pcg L k).b0, .int .i64 (pcg L k).b1, .int .i64 (pcg L k).c0, .int .i64 (pcg L k).c1] 70)).alloc (by first | omega | (simp; omega)) (.cells #[.int .i64 (pcg L k).f0, .int .i64 (pcg L k).f1] 39)) (by first | omega | (simp; omega)) (Nat.le_refl _))
        go_roundw
        case rel => exact ⟨k + 1, by omega, by go_num, hBn, Lib.hid hown5⟩
        case measure => simp [intOf]; omega
      · obtain rfl : k = L.length := by omega
        go_wp2_with fail
        go_ret2
        refine ⟨Lib.hid ⟨_, congrArg (fun x => Ending.returned (.tuple #[_, .int .i64 x])) HG0.out.symm, fun _ => ?_, fun h => absurd HG0.out h⟩, hB1.trans (hC.mono hB1.size)⟩
        have hr := HR.out
        unfold knotsL
        rw [HL.out]
        exact own_base hr hB1.size
  · have HN : Hid (¬ givenP d m = 0) := Lib.hid (by rw [hgg]; exact hg)
    have hg' : (g == 0) = false := by simpa using hg
    have hg'' : (g != 0) = true := by simpa using hg
    clear hgg ht hg
    go_enter Try.func22, Try.ntmps22
    go_wp2_with (go_at_call 16; (with_reducible refine (HC.out _).mono ?_); rintro e w1 ⟨hv, hb1⟩; obtain ⟨v, rfl, hrow⟩ := hv.out; rw [HGG.out]; have hB1 := (below_new w (.cells #[.string m.name, .int .i64 m.to, .int .i64 m.spd, .int .i64 m.rise, .int .i64 m.fall] 23)).trans (hb1.mono (by simp)))
    go_ret2
    exact ⟨Lib.hid ⟨_, congrArg (fun x => Ending.returned (.tuple #[_, .int .i64 x])) HGG.out.symm, fun h => absurd h HN.out, fun _ => rfl⟩, hB1⟩

theorem knTo_at (L : List Pc) (n k : Nat) (h : k < n) : frg (knTo L n) k = ((pcg L k).f0, (pcg L k).f1) := by
  induction n with
  | zero => omega
  | succ n ih =>
    unfold knTo
    rcases Nat.lt_or_ge k n with l | l
    · rw [frg_old _ _ _ (by rw [knTo_len]; exact l)]; exact ih l
    · obtain rfl : k = n := by omega
      have := frg_new (knTo L k) ((pcg L k).f0, (pcg L k).f1)
      rwa [knTo_len] at this
/-- The time of a move: the last knot. -/
def timeP (d : Int) (m : Mv) (t : Int) : Int × Int := if givenP d m = 0 then frg (knotsL d m.rise m.fall t) ((knotsL d m.rise m.fall t).length - 1) else (0, 0)

set_option maxRecDepth 100000 in
set_option maxHeartbeats 8000000 in
theorem Time_any (d : Int) (m : Mv) (t : Int) (ht : givenP d m = 0 → IsTop d m.spd m.rise m.fall t) (w : World) :
    Calls Try.prog 20 #[.int .i64 d, .agg #[.string m.name, .int .i64 m.to, .int .i64 m.spd, .int .i64 m.rise, .int .i64 m.fall]] w fun e w' => e = .returned (.tuple #[.agg #[.int .i64 (timeP d m t).1, .int .i64 (timeP d m t).2], .int .i64 (givenP d m)]) ∧ Below w.heap.size w w' := by
  have HC := Lib.hid (Knots_any d m t ht)
  obtain ⟨g, hgg⟩ : ∃ g, givenP d m = g := ⟨_, rfl⟩
  have HGG := Lib.hid hgg
  obtain ⟨P, hP⟩ : ∃ P, timeP d m t = P := ⟨_, rfl⟩
  by_cases hg : g = 0
  · have HG0 : Hid (givenP d m = 0) := Lib.hid (hgg.trans hg)
    subst hg
    rw [HG0.out, hP]
    obtain ⟨L, hL⟩ : ∃ L, knotsL d m.rise m.fall t = L := ⟨_, rfl⟩
    have hl := curveL_len d m.rise m.fall t
    have hl2 : L.length = (curveL d m.rise m.fall t).length := by rw [← hL]; exact knTo_len _ _
    have HPP : Hid (frg L (L.length - 1) = P) := Lib.hid (by rw [← hP, ← hL]; unfold timeP; rw [if_pos HG0.out])
    rw [← hl2] at hl
    have HL := Lib.hid hL
    have s1 : IntKind.i64.wrap ((L.length : Int) - 1) = (L.length : Int) - 1 := IntWalk.i64_in _ (by omega)
    clear hgg ht hL hP hl2
    go_enter Try.func20, Try.ntmps20
    go_wp2_with (go_at_call 22; (with_reducible refine (HC.out _).mono ?_); rintro e w1 ⟨hv, hb1⟩; obtain ⟨v, rfl, hrow⟩ := hv.out; rw [HG0.out]; have hr1 := hrow.1 HG0.out; rw [HL.out] at hr1; obtain ⟨pa, pcap, rfl, hpc1, hpc2, _, hP⟩ := fr_of_row hr1; obtain ⟨b, off, rfl, hb, hc⟩ := hP (by omega); obtain ⟨c0, c1⟩ := hc (L.length - 1) (by omega); rw [HPP.out] at c0 c1; have hB1 := ((below_new w (.cells #[.string m.name, .int .i64 m.to, .int .i64 m.spd, .int .i64 m.rise, .int .i64 m.fall] 23)).alloc (by simp) (.cells #[.int .i64 0, .int .i64 0] 39)).trans (hb1.mono (by simp <;> omega)); clear hrow hr1 hc hv; have l4 : w1.cell? ⟨w.heap.size + 1, 0, none⟩ = some (.int .i64 0) := (hb1.cell (p := ⟨w.heap.size + 1, 0, none⟩) (by simp)).trans (by simp); have l5 : w1.cell? ⟨w.heap.size + 1, 1, none⟩ = some (.int .i64 0) := (hb1.cell (p := ⟨w.heap.size + 1, 1, none⟩) (by simp)).trans (by simp); have l6 : w1.frozen? ⟨w.heap.size + 1, 0, none⟩ = false := (hb1.frozen (p := ⟨w.heap.size + 1, 0, none⟩) (by simp)).trans (by simp); have l7 : w1.frozen? ⟨w.heap.size + 1, 1, none⟩ = false := (hb1.frozen (p := ⟨w.heap.size + 1, 1, none⟩) (by simp)).trans (by simp))
    have s2 := (two_cells (v0 := .int .i64 P.1) (v1 := .int .i64 P.2) l4 l5).1
    have s3 := (two_cells (v0 := .int .i64 P.1) (v1 := .int .i64 P.2) l4 l5).2
    refine bodyPost_ret (v := .tuple #[.agg #[.int .i64 P.1, .int .i64 P.2], .int .i64 0]) (by simp [results, Try.results20, go_sem, s2, s3]) rfl ⟨rfl, ?_⟩
    exact (hB1.setCell (p := ⟨w.heap.size + 1, 0, none⟩) (by simp) _).setCell (p := ⟨w.heap.size + 1, 1, none⟩) (by simp) _
  · have HN : Hid (¬ givenP d m = 0) := Lib.hid (by rw [hgg]; exact hg)
    have e : P = (0, 0) := by rw [← hP]; unfold timeP; rw [if_neg HN.out]
    rw [hgg, hP, e]
    have hg' : (g == 0) = false := by simpa using hg
    have hg'' : (g != 0) = true := by simpa using hg
    clear hgg ht hg hP e
    go_enter Try.func20, Try.ntmps20
    go_wp2_with (go_at_call 22; (with_reducible refine (HC.out _).mono ?_); rintro e w1 ⟨hv, hb1⟩; obtain ⟨v, rfl, hrow⟩ := hv.out; rw [HGG.out]; have hB1 := ((below_new w (.cells #[.string m.name, .int .i64 m.to, .int .i64 m.spd, .int .i64 m.rise, .int .i64 m.fall] 23)).alloc (by simp) (.cells #[.int .i64 0, .int .i64 0] 39)).trans (hb1.mono (by simp <;> omega)); have l4 : w1.cell? ⟨w.heap.size + 1, 0, none⟩ = some (.int .i64 0) := (hb1.cell (p := ⟨w.heap.size + 1, 0, none⟩) (by simp)).trans (by simp); have l5 : w1.cell? ⟨w.heap.size + 1, 1, none⟩ = some (.int .i64 0) := (hb1.cell (p := ⟨w.heap.size + 1, 1, none⟩) (by simp)).trans (by simp); have l6 : w1.frozen? ⟨w.heap.size + 1, 0, none⟩ = false := (hb1.frozen (p := ⟨w.heap.size + 1, 0, none⟩) (by simp)).trans (by simp); have l7 : w1.frozen? ⟨w.heap.size + 1, 1, none⟩ = false := (hb1.frozen (p := ⟨w.heap.size + 1, 1, none⟩) (by simp)).trans (by simp))
    have s2 := (two_cells (v0 := .int .i64 0) (v1 := .int .i64 0) l4 l5).1
    have s3 := (two_cells (v0 := .int .i64 0) (v1 := .int .i64 0) l4 l5).2
    refine bodyPost_ret (v := .tuple #[.agg #[.int .i64 0, .int .i64 0], .int .i64 g]) (by simp [results, Try.results20, go_sem, s2, s3]) rfl ⟨rfl, ?_⟩
    exact (hB1.setCell (p := ⟨w.heap.size + 1, 0, none⟩) (by simp) _).setCell (p := ⟨w.heap.size + 1, 1, none⟩) (by simp) _
end Go.Proofs.Ytlgpolfbilkmbaa
namespace Go.Proofs.Ytlgpolfbilkmbaa

theorem rat_nz {a b c : Rat} (ha : a ≠ 0) (hb : b ≠ 0) (hc : c ≠ 0) : a * b * c ≠ 0 := by
  intro h
  rcases Rat.mul_eq_zero.1 h with h | h
  · rcases Rat.mul_eq_zero.1 h with h | h
    · exact ha h
    · exact hb h
  · exact hc h
theorem rat_div_pos {a b : Rat} (ha : 0 < a) (hb : 0 < b) : 0 < a / b := by
  rw [Rat.div_def]; exact Rat.mul_pos ha (Rat.inv_pos.2 hb)
/-- The curve of a move with a run, and one without. -/
def moveQ (d R F t k : Rat) : List QP :=
  [⟨0, 0, 0, R / 2⟩, ⟨t / R, t * t / (2 * R), t, 0⟩, ⟨(2 * F * (t * t) + k) / (2 * R * F * t), (2 * F * d - t * t) / (2 * F), t, -F / 2⟩, ⟨(2 * F * (t * t) + k + 2 * R * (t * t)) / (2 * R * F * t), d, 0, 0⟩]
def moveS (d R F t k : Rat) : List QP :=
  [⟨0, 0, 0, R / 2⟩, ⟨(2 * F * (t * t) + k) / (2 * R * F * t), (2 * F * d - t * t) / (2 * F), t, -F / 2⟩, ⟨(2 * F * (t * t) + k + 2 * R * (t * t)) / (2 * R * F * t), d, 0, 0⟩]
theorem mv_a {R F t k : Rat} (hR : 0 < R) (hF : 0 < F) (ht : 0 < t) : (2 * F * (t * t) + k) / (2 * R * F * t) = t / R + k / (2 * R * F * t) := by
  have h1 : R ≠ 0 := by grind
  have h2 : F ≠ 0 := by grind
  have h3 : t ≠ 0 := by grind
  have h4 : 2 * R ≠ 0 := by grind
  have h6 : 2 * R * F * t ≠ 0 := rat_nz h4 h2 h3
  grind
theorem mv_b {R F t k : Rat} (hR : 0 < R) (hF : 0 < F) (ht : 0 < t) : (2 * F * (t * t) + k + 2 * R * (t * t)) / (2 * R * F * t) = (2 * F * (t * t) + k) / (2 * R * F * t) + t / F := by
  have h1 : R ≠ 0 := by grind
  have h2 : F ≠ 0 := by grind
  have h3 : t ≠ 0 := by grind
  have h4 : 2 * R ≠ 0 := by grind
  have h6 : 2 * R * F * t ≠ 0 := rat_nz h4 h2 h3
  grind
theorem mv_c {R F t d k : Rat} (hR : 0 < R) (hF : 0 < F) (ht : 0 < t) (hk : k = 2 * R * F * d - t * t * (R + F)) : t * t / (2 * R) + t * (k / (2 * R * F * t)) = (2 * F * d - t * t) / (2 * F) := by
  have h1 : R ≠ 0 := by grind
  have h2 : F ≠ 0 := by grind
  have h3 : t ≠ 0 := by grind
  have h4 : 2 * R ≠ 0 := by grind
  have h5 : 2 * F ≠ 0 := by grind
  have h6 : 2 * R * F * t ≠ 0 := rat_nz h4 h2 h3
  grind
theorem mv_d {F t d : Rat} (hF : 0 < F) : (2 * F * d - t * t) / (2 * F) + (t + (-F / 2) * (t / F)) * (t / F) = d ∧ t + 2 * (-F / 2 * (t / F)) = 0 := by
  have h1 : F ≠ 0 := by grind
  grind
theorem mv_e {R t : Rat} (hR : 0 < R) : 0 + (0 + R / 2 * (t / R - 0)) * (t / R - 0) = t * t / (2 * R) ∧ 0 + 2 * (R / 2 * (t / R - 0)) = t := by
  have h1 : R ≠ 0 := by grind
  grind
theorem up_last {R F t d k : Rat} (hR : 0 < R) (hF : 0 < F) (ht : 0 < t) : Up t [⟨(2 * F * (t * t) + k) / (2 * R * F * t), (2 * F * d - t * t) / (2 * F), t, -F / 2⟩, ⟨(2 * F * (t * t) + k + 2 * R * (t * t)) / (2 * R * F * t), d, 0, 0⟩] := by
  have h1 := mv_b (k := k) hR hF ht
  have h2 := rat_div_pos ht hF
  obtain ⟨d1, d2⟩ := mv_d (t := t) (d := d) hF
  have e : (2 * F * (t * t) + k + 2 * R * (t * t)) / (2 * R * F * t) - (2 * F * (t * t) + k) / (2 * R * F * t) = t / F := by grind
  refine Up.go _ _ _ ?_ (Rat.le_of_lt ht) Rat.le_refl ?_ ?_ ?_ ?_ (Up.rest _ rfl rfl (Rat.le_of_lt ht))
  · show (2 * F * (t * t) + k) / (2 * R * F * t) < (2 * F * (t * t) + k + 2 * R * (t * t)) / (2 * R * F * t)
    grind
  · show 0 ≤ t + 2 * (-F / 2 * ((2 * F * (t * t) + k + 2 * R * (t * t)) / (2 * R * F * t) - (2 * F * (t * t) + k) / (2 * R * F * t)))
    rw [e, d2]; exact Rat.le_refl
  · show t + 2 * (-F / 2 * ((2 * F * (t * t) + k + 2 * R * (t * t)) / (2 * R * F * t) - (2 * F * (t * t) + k) / (2 * R * F * t))) ≤ t
    rw [e, d2]; exact Rat.le_of_lt ht
  · show (2 * F * d - t * t) / (2 * F) + (t + -F / 2 * ((2 * F * (t * t) + k + 2 * R * (t * t)) / (2 * R * F * t) - (2 * F * (t * t) + k) / (2 * R * F * t))) * ((2 * F * (t * t) + k + 2 * R * (t * t)) / (2 * R * F * t) - (2 * F * (t * t) + k) / (2 * R * F * t)) = d
    rw [e, d1]
  · show t + 2 * (-F / 2 * ((2 * F * (t * t) + k + 2 * R * (t * t)) / (2 * R * F * t) - (2 * F * (t * t) + k) / (2 * R * F * t))) = 0
    rw [e, d2]
theorem moveQ_up {R F t d k : Rat} (hR : 0 < R) (hF : 0 < F) (ht : 0 < t) (hk : k = 2 * R * F * d - t * t * (R + F)) (k0 : 0 < k) : Up t (moveQ d R F t k) := by
  have h2 := rat_div_pos ht hR
  have tle := Rat.le_of_lt ht
  obtain ⟨e1, e2⟩ := mv_e (R := R) (t := t) hR
  have ha := mv_a (k := k) hR hF ht
  have hc := mv_c hR hF ht hk
  have hw : 0 < 2 * R * F * t := Rat.mul_pos (Rat.mul_pos (by grind) hF) ht
  have h3 := rat_div_pos k0 hw
  have e : (2 * F * (t * t) + k) / (2 * R * F * t) - t / R = k / (2 * R * F * t) := by grind
  refine Up.go _ _ _ h2 Rat.le_refl tle ?_ ?_ e1 e2 (Up.go _ _ _ ?_ tle Rat.le_refl ?_ ?_ ?_ ?_ (up_last hR hF ht))
  · show 0 ≤ 0 + 2 * (R / 2 * (t / R - 0))
    rw [e2]; exact tle
  · show 0 + 2 * (R / 2 * (t / R - 0)) ≤ t
    rw [e2]; exact Rat.le_refl
  · show t / R < (2 * F * (t * t) + k) / (2 * R * F * t)
    grind
  · show 0 ≤ t + 2 * (0 * ((2 * F * (t * t) + k) / (2 * R * F * t) - t / R))
    grind
  · show t + 2 * (0 * ((2 * F * (t * t) + k) / (2 * R * F * t) - t / R)) ≤ t
    grind
  · show t * t / (2 * R) + (t + 0 * ((2 * F * (t * t) + k) / (2 * R * F * t) - t / R)) * ((2 * F * (t * t) + k) / (2 * R * F * t) - t / R) = (2 * F * d - t * t) / (2 * F)
    rw [e, ← hc]; grind
  · show t + 2 * (0 * ((2 * F * (t * t) + k) / (2 * R * F * t) - t / R)) = t
    grind
theorem moveS_up {R F t d k : Rat} (hR : 0 < R) (hF : 0 < F) (ht : 0 < t) (hk : k = 2 * R * F * d - t * t * (R + F)) (k0 : k = 0) : Up t (moveS d R F t k) := by
  have h2 := rat_div_pos ht hR
  have tle := Rat.le_of_lt ht
  obtain ⟨e1, e2⟩ := mv_e (R := R) (t := t) hR
  have ha := mv_a (k := k) hR hF ht
  have hc := mv_c hR hF ht hk
  have z : k / (2 * R * F * t) = 0 := by rw [k0, Rat.div_def, Rat.zero_mul]
  rw [z] at ha hc
  have e : (2 * F * (t * t) + k) / (2 * R * F * t) = t / R := by grind
  refine Up.go _ _ _ ?_ Rat.le_refl tle ?_ ?_ ?_ ?_ (up_last hR hF ht)
  · show 0 < (2 * F * (t * t) + k) / (2 * R * F * t)
    rw [e]; exact h2
  · show 0 ≤ 0 + 2 * (R / 2 * ((2 * F * (t * t) + k) / (2 * R * F * t) - 0))
    rw [e, e2]; exact tle
  · show 0 + 2 * (R / 2 * ((2 * F * (t * t) + k) / (2 * R * F * t) - 0)) ≤ t
    rw [e, e2]; exact Rat.le_refl
  · show 0 + (0 + R / 2 * ((2 * F * (t * t) + k) / (2 * R * F * t) - 0)) * ((2 * F * (t * t) + k) / (2 * R * F * t) - 0) = (2 * F * d - t * t) / (2 * F)
    rw [e, e1, ← hc]; grind
  · show 0 + 2 * (R / 2 * ((2 * F * (t * t) + k) / (2 * R * F * t) - 0)) = t
    rw [e, e2]
theorem frq_lowI (n d : Int) (hd : 0 < d) : fr (lowN n d, lowD n d) = (n : Rat) / (d : Rat) := frq_low n d hd
theorem qL_curve {d R F t : Int} (hd : ¬ d = 0) (hR : 1 ≤ R) (hF : 1 ≤ F) (ht : 1 ≤ t) : qL (curveL d R F t) = if kP d R F t = 0 then moveS d R F t (kP d R F t : Int) else moveQ d R F t (kP d R F t : Int) := by
  have w0 : 0 < 2 * R * F * t := Int.mul_pos (Int.mul_pos (by omega) (by omega)) (by omega)
  unfold curveL
  rw [if_neg hd]
  split
  · simp [qL, qp, moveS, frq_one, frq_low _ 2 (by decide), frq_low _ (2 * R * F * t) w0, frq_low _ (2 * F) (by omega)]
  · simp [qL, qp, moveQ, frq_one, frq_low _ 2 (by decide), frq_low _ (2 * R * F * t) w0, frq_low _ (2 * F) (by omega), frq_low _ (2 * R) (by omega), frq_low _ R (by omega)]
end Go.Proofs.Ytlgpolfbilkmbaa
namespace Go.Proofs.Ytlgpolfbilkmbaa

theorem Up.asc {m : Rat} {L : List QP} (h : Up m L) : Asc L := by
  induction h with
  | rest p _ _ _ => exact fun i h => absurd h (by simp)
  | go p q r hf _ _ _ _ _ _ h ih =>
    intro i hi
    cases i with
    | zero => exact hf
    | succ i => exact ih i (by simp only [List.length_cons] at hi ⊢; omega)
theorem ok_of_up {L : List Pc} {m : Rat} (h1 : 1 ≤ L.length) (h2 : L.length ≤ 200) (hv : ∀ i, i < L.length → PcOK (pcg L i)) (up : Up m (qL L)) : CurveOK L :=
  ⟨h1, h2, hv, fun i hi => by
    have hi' : i + 1 < (qL L).length := by rw [qL_len]; exact hi
    have a := up.asc i hi'
    rw [qL_f, qL_f] at a
    exact (frq_lt (a := ((pcg L i).f0, (pcg L i).f1)) (b := ((pcg L (i + 1)).f0, (pcg L (i + 1)).f1)) (den_pos (hv i (by omega)).vf) (den_pos (hv (i + 1) hi).vf)).1 a⟩
structure MoveC (L : List Pc) (d t : Int) : Prop where
  ok : CurveOK L
  up : Up (t : Rat) (qL L)
  f0 : ((pcg L 0).f0, (pcg L 0).f1) = (0, 1)
  a0 : ((pcg L 0).a0, (pcg L 0).a1) = (0, 1)
  b0 : ((pcg L 0).b0, (pcg L 0).b1) = (0, 1)
  an : ((pcg L (L.length - 1)).a0, (pcg L (L.length - 1)).a1) = (d, 1)
  bn : ((pcg L (L.length - 1)).b0, (pcg L (L.length - 1)).b1) = (0, 1)
  cn : ((pcg L (L.length - 1)).c0, (pcg L (L.length - 1)).c1) = (0, 1)
  len : L.length ≤ 4
  t0 : 0 ≤ t
theorem valid_one {n : Int} (h1 : -1152921504606846976 ≤ n) (h2 : n ≤ 1152921504606846976) : validF n 1 = true := (validF_iff _ _).2 ⟨by decide, by decide, h1, h2, by simp⟩
theorem move_c {d : Int} {m : Mv} {t : Int} (hg : givenP d m = 0) (ht : IsTop d m.spd m.rise m.fall t) : MoveC (curveL d m.rise m.fall t) d t := by
  obtain ⟨hv, hd⟩ := given_ok hg
  obtain ⟨V0, V1, R0, R1, F0, F1⟩ := valid_bds hv
  obtain ⟨d1, d2⟩ := inB_iff.1 hd
  have tz := ht.1
  have o := valid_one (n := 0) (by decide) (by decide)
  by_cases hz : d = 0
  · have e : curveL d m.rise m.fall t = [⟨0, 1, 0, 1, 0, 1, 0, 1⟩] := by unfold curveL; rw [if_pos hz]
    rw [e]
    have up : Up (t : Rat) (qL [⟨0, 1, 0, 1, 0, 1, 0, 1⟩]) := Up.rest _ frq_zero frq_zero (Rat.intCast_nonneg.2 tz)
    have hvv : ∀ i, i < [(⟨0, 1, 0, 1, 0, 1, 0, 1⟩ : Pc)].length → PcOK (pcg [⟨0, 1, 0, 1, 0, 1, 0, 1⟩] i) := fun i hi => by
      obtain rfl : i = 0 := by simpa using hi
      exact ⟨o, o, o, o⟩
    exact ⟨ok_of_up (by simp) (by simp) hvv up, up, rfl, rfl, rfl, by rw [hz]; rfl, rfl, rfl, by simp, tz⟩
  · have t0 := top_pos (by omega) R0 F0 V0 ht
    have t1 : t ≤ 8192 := by have := ht.2.1; omega
    obtain ⟨T0, T1, k0, k1, rf0, rf1, w0, w1, a0, a1, b0, b1, c0, c1, e0, e1⟩ := curve_b (by omega) d2 R0 R1 F0 F1 V0 V1 ht
    have hQ := qL_curve (d := d) (R := m.rise) (F := m.fall) (t := t) hz R0 F0 t0
    have cR := cast_pos (d := m.rise) (by omega)
    have cF := cast_pos (d := m.fall) (by omega)
    have ct := cast_pos (d := t) (by omega)
    have hk : ((kP d m.rise m.fall t : Int) : Rat) = 2 * (m.rise : Rat) * (m.fall : Rat) * (d : Rat) - (t : Rat) * (t : Rat) * ((m.rise : Rat) + (m.fall : Rat)) := by
      unfold kP; simp
    have vd := valid_one (n := d) (by omega) (by omega)
    have vt := valid_one (n := t) (by omega) (by omega)
    have p0 : PcOK ⟨0, 1, 0, 1, 0, 1, lowN m.rise 2, lowD m.rise 2⟩ := ⟨o, o, o, valid_low (by decide) (by omega) (by omega) (by decide)⟩
    have p1 : PcOK ⟨lowN t m.rise, lowD t m.rise, lowN (t * t) (2 * m.rise), lowD (t * t) (2 * m.rise), t, 1, 0, 1⟩ := ⟨valid_low (by omega) (by omega) (by omega) (by omega), valid_low (by omega) (by omega) (by omega) (by omega), vt, o⟩
    have p2 : PcOK ⟨lowN (2 * m.fall * (t * t) + kP d m.rise m.fall t) (2 * m.rise * m.fall * t), lowD (2 * m.fall * (t * t) + kP d m.rise m.fall t) (2 * m.rise * m.fall * t), lowN (2 * m.fall * d - t * t) (2 * m.fall), lowD (2 * m.fall * d - t * t) (2 * m.fall), t, 1, lowN (-m.fall) 2, lowD (-m.fall) 2⟩ := ⟨valid_low (by omega) (by omega) (by omega) (by omega), valid_low (by omega) (by omega) (by omega) (by omega), vt, valid_low (by decide) (by omega) (by omega) (by decide)⟩
    have p3 : PcOK ⟨lowN (2 * m.fall * (t * t) + kP d m.rise m.fall t + 2 * m.rise * (t * t)) (2 * m.rise * m.fall * t), lowD (2 * m.fall * (t * t) + kP d m.rise m.fall t + 2 * m.rise * (t * t)) (2 * m.rise * m.fall * t), d, 1, 0, 1, 0, 1⟩ := ⟨valid_low (by omega) (by omega) (by omega) (by omega), vd, o, o⟩
    by_cases kz : kP d m.rise m.fall t = 0
    · rw [if_pos kz] at hQ
      have up : Up (t : Rat) (qL (curveL d m.rise m.fall t)) := by rw [hQ]; exact moveS_up cR cF ct hk (by rw [kz]; rfl)
      unfold curveL at up ⊢
      rw [if_neg hz, if_pos kz] at up ⊢
      refine ⟨ok_of_up (by simp) (by simp) (fun i hi => ?_) up, up, rfl, rfl, rfl, rfl, rfl, rfl, by simp, tz⟩
      have hi' : i < 3 := by simpa using hi
      obtain rfl | rfl | rfl : i = 0 ∨ i = 1 ∨ i = 2 := by omega
      · exact p0
      · exact p2
      · exact p3
    · rw [if_neg kz] at hQ
      have up : Up (t : Rat) (qL (curveL d m.rise m.fall t)) := by rw [hQ]; exact moveQ_up cR cF ct hk (Rat.intCast_pos.2 (by omega))
      unfold curveL at up ⊢
      rw [if_neg hz, if_neg kz] at up ⊢
      refine ⟨ok_of_up (by simp) (by simp) (fun i hi => ?_) up, up, rfl, rfl, rfl, rfl, rfl, rfl, by simp, tz⟩
      have hi' : i < 4 := by simpa using hi
      obtain rfl | rfl | rfl | rfl : i = 0 ∨ i = 1 ∨ i = 2 ∨ i = 3 := by omega
      · exact p0
      · exact p1
      · exact p2
      · exact p3
theorem MoveC.last {L : List Pc} {d t : Int} (h : MoveC L d t) : lastA (qL L) = (d : Rat) ∧ lastF (qL L) = fr ((pcg L (L.length - 1)).f0, (pcg L (L.length - 1)).f1) := by
  have g : ∀ (Q : List QP) (h : 0 < Q.length), lastA Q = (Q[Q.length - 1]'(by omega)).a ∧ lastF Q = (Q[Q.length - 1]'(by omega)).f := by
    intro Q
    induction Q with
    | nil => intro h; simp at h
    | cons p r ih =>
      intro _
      cases r with
      | nil => exact ⟨rfl, rfl⟩
      | cons q r =>
        obtain ⟨a, b⟩ := ih (by simp)
        have e1 : lastA (p :: q :: r) = lastA (q :: r) := rfl
        have e2 : lastF (p :: q :: r) = lastF (q :: r) := rfl
        rw [e1, e2, a, b]
        exact ⟨rfl, rfl⟩
  have hp := h.ok.pos
  obtain ⟨a, b⟩ := g (qL L) (by rw [qL_len]; omega)
  rw [a, b]
  have hl := qL_len L
  constructor
  · rw [qL_get]
    have e : (qL L).length - 1 = L.length - 1 := by omega
    rw [e, ← frq_one d, ← h.an]
    rfl
  · rw [qL_f]
    have e : (qL L).length - 1 = L.length - 1 := by omega
    rw [e]
theorem MoveC.first {L : List Pc} {d t : Int} (h : MoveC L d t) : headA (qL L) = 0 := by
  rw [headA_qL h.ok.pos, h.a0, frq_zero]
/-- Values at two times, of which one is not later, ascend. -/
theorem MoveC.values {L : List Pc} {d t : Int} (h : MoveC L d t) {x y : Int × Int} (vx : vF x = true) (vy : vF y = true) (xy : fr x ≤ fr y) (hx : (atP L x).2.2 = 0) (hy : (atP L y).2.2 = 0) :
    0 ≤ (atP L x).1 ∧ (atP L x).1 * (atP L y).2.1 ≤ (atP L y).1 * (atP L x).2.1 ∧ (atP L y).1 * 1 ≤ d * (atP L y).2.1 := by
  have ex := atP_ok h.ok vx hx
  have ey := atP_ok h.ok vy hy
  have wx := atP_valid h.ok vx hx
  have wy := atP_valid h.ok vy hy
  obtain ⟨r1, r2, _⟩ := h.up.range (fr x)
  obtain ⟨s1, s2, _⟩ := h.up.range (fr y)
  have mo := h.up.mono xy
  rw [← ex] at r1 mo
  rw [← ey] at mo s2
  rw [h.first] at r1
  rw [h.last.1] at s2
  refine ⟨?_, ?_, ?_⟩
  · rw [← frq_zero] at r1
    have := (frq_le (a := (0, 1)) (by decide) (den_pos wx)).1 r1
    have e : 0 * (atP L x).2.1 ≤ (atP L x).1 * 1 := this
    omega
  · exact (frq_le (den_pos wx) (den_pos wy)).1 mo
  · rw [← frq_one] at s2
    exact (frq_le (b := (d, 1)) (den_pos wy) (by show (0 : Int) < 1; decide)).1 s2
/-- A slope is none below 0, and none beyond the top speed. -/
theorem MoveC.slope {L : List Pc} {d t : Int} (h : MoveC L d t) {x : Int × Int} (vx : vF x = true) (hx : (slopeP L x).2.2 = 0) : 0 ≤ (slopeP L x).1 ∧ (slopeP L x).1 * 1 ≤ t * (slopeP L x).2.1 := by
  have ex := slopeP_ok h.ok vx hx
  have wx := slopeP_valid h.ok vx hx
  obtain ⟨r1, r2⟩ := h.up.slope (fr x)
  rw [← ex] at r1 r2
  constructor
  · rw [← frq_zero] at r1
    have := (frq_le (a := (0, 1)) (by decide) (den_pos wx)).1 r1
    have e : 0 * (slopeP L x).2.1 ≤ (slopeP L x).1 * 1 := this
    omega
  · rw [← frq_one] at r2
    exact (frq_le (b := (t, 1)) (den_pos wx) (by show (0 : Int) < 1; decide)).1 r2
end Go.Proofs.Ytlgpolfbilkmbaa
namespace Go.Proofs.Ytlgpolfbilkmbaa
open Go.RowKit Go.Shelf
set_option maxRecDepth 100000 in
set_option maxHeartbeats 8000000 in
theorem make_zero (d : Int) (d0 : 1 ≤ d) (d1 : d ≤ 9223372036854775807) (w : World) :
    Calls Try.prog 35 #[.int .i64 0, .int .i64 d] w fun e w' => e = .returned (.tuple #[.agg #[.int .i64 0, .int .i64 1], .int .i64 0]) ∧ Below w.heap.size w w' := by
  have Z1 : Hid (∀ w : World, Calls Try.prog 64 #[.int .i64 0] w fun e w' => e = .returned (.int .u64 0) ∧ w = w') := Lib.hid fun w => by have := size_any 0 (by decide) (by decide) w; simpa using this
  have Z2 : Hid (∀ w : World, Calls Try.prog 64 #[.int .i64 d] w fun e w' => e = .returned (.int .u64 d) ∧ w = w') := Lib.hid fun w => by have := size_any d (by omega) (by omega) w; rwa [show (d.natAbs : Int) = d by omega] at this
  have HG : Hid (∀ w : World, Calls Try.prog 62 #[.int .u64 0, .int .u64 d] w fun e w' => e = .returned (.int .u64 d) ∧ ∃ m, w' = w.drewN m) := Lib.hid fun w => by
    have := gcd_any 0 d (by decide) (by decide) (by omega) (by omega) w
    rwa [show ((Int.gcd 0 d : Nat) : Int) = d by simp; omega] at this
  have HS : Hid (∀ w : World, Calls Try.prog 69 #[.bool false, .int .u64 (IntKind.u64.wrap 0), .int .u64 (IntKind.u64.wrap 1)] w fun e w' => e = .returned (.tuple #[.agg #[.int .i64 0, .int .i64 1], .int .i64 0]) ∧ Below w.heap.size w w') := Lib.hid fun w => by rw [show IntKind.u64.wrap 0 = 0 from rfl, show IntKind.u64.wrap 1 = 1 from rfl]; exact signed_any false 0 1 (by decide) (by decide) w
  have z1 : (d == 0) = false := by simp; omega
  have z2 : ¬ d = 0 := by omega
  have z3 : IntKind.u64.wrap (d.tdiv d) = 1 := by rw [Int.tdiv_self z2]; rfl
  have z4 : IntKind.u64.wrap ((0 : Int).tdiv d) = 0 := by rw [Int.zero_tdiv]; rfl
  go_enter Try.func35, Try.ntmps35
  go_upto_region 5 with (first
    | (go_at_call 64; (with_reducible refine (Z1.out _).mono ?_); rintro e w' ⟨rfl, rfl⟩)
    | (go_at_call 64; (with_reducible refine (Z2.out _).mono ?_); rintro e w' ⟨rfl, rfl⟩)
    | (go_at_call 62; (with_reducible refine (HG.out _).mono ?_); rintro e w' ⟨rfl, m, rfl⟩))
  have HF : FI ((w.alloc (.cells #[.int .i64 0, .int .i64 0] 39)).drewN m) w.heap.size 0 0 := ⟨by simp, by simp, by simp, by simp, by simp⟩
  have hW := below_drewN (below_new w (.cells #[.int .i64 0, .int .i64 0] 39)) m
  generalize (w.alloc (.cells #[.int .i64 0, .int .i64 0] 39)).drewN m = W0 at *
  refine wp_region_held_drew (S := fun w' => Below w.heap.size w w') (by kernel_rfl) (hW.drew) (fun hHeld => ?_)
  refine wpAnyH_take (i := 0) (oi := _) (v := ?_) rfl (by kernel_rfl) (by kernel_rfl) (by kernel_rfl) (fun _ _ _ h => h) (Or.inl ⟨by rfl, ?_⟩) (by assumption) ?_
  rotate_left
  · (intro w hSw; (try dsimp only at hSw); (try simp only [List.getElem_toArray, List.getElem_cons_zero]); go_simp; try with_reducible rfl)
  simp only [Act.put, List.setIfInBounds_toArray, List.set_cons_zero, List.set_cons_succ, List.getElem_toArray, List.getElem_cons_zero]
  refine wpAnyH_take (i := 1) (oi := _) (v := ?_) rfl (by kernel_rfl) (by kernel_rfl) (by kernel_rfl) (fun _ _ _ h => h) (Or.inl ⟨by rfl, ?_⟩) (by assumption) ?_
  rotate_left
  · (intro w hSw; (try dsimp only at hSw); (try simp only [List.getElem_toArray, List.getElem_cons_succ, List.getElem_cons_zero]); go_simp; try with_reducible rfl)
  simp only [Act.put, List.setIfInBounds_toArray, List.set_cons_zero, List.set_cons_succ, List.getElem_toArray, List.getElem_cons_succ, List.getElem_cons_zero]
  refine wpAnyH_take (i := 2) (oi := _) (v := ?_) rfl (by kernel_rfl) (by kernel_rfl) (by kernel_rfl) (fun _ _ _ h => h) (Or.inl ⟨by rfl, ?_⟩) (by assumption) ?_
  rotate_left
  · (intro w hSw; (try dsimp only at hSw); (try simp only [List.getElem_toArray, List.getElem_cons_succ, List.getElem_cons_zero]); go_simp; try with_reducible rfl)
  simp only [Act.put, List.setIfInBounds_toArray, List.set_cons_zero, List.set_cons_succ, List.getElem_toArray, List.getElem_cons_succ, List.getElem_cons_zero]
  refine wpAnyH_take (i := 3) (oi := _) (v := undef) rfl (by kernel_rfl) (by kernel_rfl) (by kernel_rfl) (fun _ _ _ h => h) (Or.inr ⟨by rfl, rfl⟩) (by assumption) ?_
  simp only [Act.put, List.setIfInBounds_toArray, List.set_cons_zero, List.set_cons_succ, List.getElem_toArray, List.getElem_cons_succ, List.getElem_cons_zero]
  refine wpAnyH_take (i := 4) (oi := _) (v := undef) rfl (by kernel_rfl) (by kernel_rfl) (by kernel_rfl) (fun _ _ _ h => h) (Or.inr ⟨by rfl, rfl⟩) (by assumption) ?_
  simp only [Act.put, List.setIfInBounds_toArray, List.set_cons_zero, List.set_cons_succ, List.getElem_toArray, List.getElem_cons_succ, List.getElem_cons_zero]
  refine wpAnyH_take (i := 5) (oi := _) (v := undef) rfl (by kernel_rfl) (by kernel_rfl) (by kernel_rfl) (fun _ _ _ h => h) (Or.inr ⟨by rfl, rfl⟩) (by assumption) ?_
  simp only [Act.put, List.setIfInBounds_toArray, List.set_cons_zero, List.set_cons_succ, List.getElem_toArray, List.getElem_cons_succ, List.getElem_cons_zero]
  refine wpAnyH_take (i := 6) (oi := _) (v := undef) rfl (by kernel_rfl) (by kernel_rfl) (by kernel_rfl) (fun _ _ _ h => h) (Or.inr ⟨by rfl, rfl⟩) (by assumption) ?_
  simp only [Act.put, List.setIfInBounds_toArray, List.set_cons_zero, List.set_cons_succ, List.getElem_toArray, List.getElem_cons_succ, List.getElem_cons_zero]
  refine wpAnyH_take (i := 7) (oi := _) (v := undef) rfl (by kernel_rfl) (by kernel_rfl) (by kernel_rfl) (fun _ _ _ h => h) (Or.inr ⟨by rfl, rfl⟩) (by assumption) ?_
  simp only [Act.put, List.setIfInBounds_toArray, List.set_cons_zero, List.set_cons_succ, List.getElem_toArray, List.getElem_cons_succ, List.getElem_cons_zero]
  refine wpAnyH_take (i := 8) (oi := _) (v := ?_) rfl (by kernel_rfl) (by kernel_rfl) (by kernel_rfl) (fun _ _ _ h => h) (Or.inl ⟨by rfl, ?_⟩) (by assumption) ?_
  rotate_left
  · (intro w hSw; (try dsimp only at hSw); (try simp only [List.getElem_toArray, List.getElem_cons_succ, List.getElem_cons_zero]); go_simp; try with_reducible rfl)
  simp only [Act.put, List.setIfInBounds_toArray, List.set_cons_zero, List.set_cons_succ, List.getElem_toArray, List.getElem_cons_succ, List.getElem_cons_zero]
  refine wpAnyH_take (i := 9) (oi := _) (v := ?_) rfl (by kernel_rfl) (by kernel_rfl) (by kernel_rfl) (fun _ _ _ h => h) (Or.inl ⟨by rfl, ?_⟩) (by assumption) ?_
  rotate_left
  · (intro w hSw; (try dsimp only at hSw); (try simp only [List.getElem_toArray, List.getElem_cons_succ, List.getElem_cons_zero]); go_simp; try with_reducible rfl)
  simp only [Act.put, List.setIfInBounds_toArray, List.set_cons_zero, List.set_cons_succ, List.getElem_toArray, List.getElem_cons_succ, List.getElem_cons_zero]
  refine wpAnyH_take (i := 10) (oi := _) (v := ?_) rfl (by kernel_rfl) (by kernel_rfl) (by kernel_rfl) (fun _ _ _ h => h) (Or.inl ⟨by rfl, ?_⟩) (by assumption) ?_
  rotate_left
  · (intro w hSw; (try dsimp only at hSw); (try simp only [List.getElem_toArray, List.getElem_cons_succ, List.getElem_cons_zero]); go_simp; try with_reducible rfl)
  simp only [Act.put, List.setIfInBounds_toArray, List.set_cons_zero, List.set_cons_succ, List.getElem_toArray, List.getElem_cons_succ, List.getElem_cons_zero]
  refine wpAnyH_take (i := 11) (oi := _) (v := ?_) rfl (by kernel_rfl) (by kernel_rfl) (by kernel_rfl) (fun _ _ _ h => h) (Or.inl ⟨by rfl, ?_⟩) (by assumption) ?_
  rotate_left
  · (intro w hSw; (try dsimp only at hSw); (try simp only [List.getElem_toArray, List.getElem_cons_succ, List.getElem_cons_zero]); go_simp; try with_reducible rfl)
  simp only [Act.put, List.setIfInBounds_toArray, List.set_cons_zero, List.set_cons_succ, List.getElem_toArray, List.getElem_cons_succ, List.getElem_cons_zero]
  refine wpAnyH_take (i := 12) (oi := _) (v := ?_) rfl (by kernel_rfl) (by kernel_rfl) (by kernel_rfl) (fun _ _ _ h => h) (Or.inl ⟨by rfl, ?_⟩) (by assumption) ?_
  rotate_left
  · (intro w hSw; (try dsimp only at hSw); (try simp only [List.getElem_toArray, List.getElem_cons_succ, List.getElem_cons_zero]); go_simp; try with_reducible rfl)
  simp only [Act.put, List.setIfInBounds_toArray, List.set_cons_zero, List.set_cons_succ, List.getElem_toArray, List.getElem_cons_succ, List.getElem_cons_zero]
  refine wpAnyH_take (i := 13) (oi := _) (v := ?_) rfl (by kernel_rfl) (by kernel_rfl) (by kernel_rfl) (fun _ _ _ h => h) (Or.inl ⟨by rfl, ?_⟩) (by assumption) ?_
  rotate_left
  · (intro w hSw; (try dsimp only at hSw); (try simp only [List.getElem_toArray, List.getElem_cons_succ, List.getElem_cons_zero]); go_simp; try with_reducible rfl)
  simp only [Act.put, List.setIfInBounds_toArray, List.set_cons_zero, List.set_cons_succ, List.getElem_toArray, List.getElem_cons_succ, List.getElem_cons_zero]
  refine wpAnyH_take (i := 14) (oi := _) (v := ?_) rfl (by kernel_rfl) (by kernel_rfl) (by kernel_rfl) (fun _ _ _ h => h) (Or.inl ⟨by rfl, ?_⟩) (by assumption) ?_
  rotate_left
  · (intro w hSw; (try dsimp only at hSw); (try simp only [List.getElem_toArray, List.getElem_cons_succ, List.getElem_cons_zero]); go_simp; try with_reducible rfl)
  simp only [Act.put, List.setIfInBounds_toArray, List.set_cons_zero, List.set_cons_succ, List.getElem_toArray, List.getElem_cons_succ, List.getElem_cons_zero]
  refine wpAnyH_ready (rs := [15]) (by kernel_rfl) (by simp) ?_
  refine AllReadyH.cons (o := _) rfl (fun K hK => ?_) AllReadyH.nil
  try simp only [List.getElem_toArray, List.getElem_cons_succ, List.getElem_cons_zero]
  go_simp
  (go_at_call 69; go_split_ands; (with_reducible refine (HS.out _).mono ?_); rintro e w2 ⟨rfl, hb2⟩; have hB2 := hW.drew.trans (hb2.mono hW.drew.size); obtain ⟨q0, q1, q2, q3, q4⟩ := (show FI W0.drew w.heap.size 0 0 from HF).carry hb2)
  go_wp2_with fail
  refine hK.out _ _ (hB2) (fun hHeld => ?_)
  clear hK K
  try simp only [Act.put, List.setIfInBounds_toArray, List.set_cons_zero, List.set_cons_succ, List.getElem_toArray, List.getElem_cons_succ, List.getElem_cons_zero]
  refine wpAnyH_take (i := 16) (oi := _) (v := ?_) rfl (by kernel_rfl) (by kernel_rfl) (by kernel_rfl) (fun _ _ _ h => h) (Or.inl ⟨by rfl, ?_⟩) (by assumption) ?_
  rotate_left
  · (intro w hSw; (try dsimp only at hSw); (try simp only [List.getElem_toArray, List.getElem_cons_succ, List.getElem_cons_zero]); go_simp; try with_reducible rfl)
  simp only [Act.put, List.setIfInBounds_toArray, List.set_cons_zero, List.set_cons_succ, List.getElem_toArray, List.getElem_cons_succ, List.getElem_cons_zero]
  refine wpAnyH_take (i := 17) (oi := _) (v := ?_) rfl (by kernel_rfl) (by kernel_rfl) (by kernel_rfl) (fun _ _ _ h => h) (Or.inl ⟨by rfl, ?_⟩) (by assumption) ?_
  rotate_left
  · (intro w hSw; (try dsimp only at hSw); (try simp only [List.getElem_toArray, List.getElem_cons_succ, List.getElem_cons_zero]); go_simp; try with_reducible rfl)
  simp only [Act.put, List.setIfInBounds_toArray, List.set_cons_zero, List.set_cons_succ, List.getElem_toArray, List.getElem_cons_succ, List.getElem_cons_zero]
  refine wpAnyH_ready (rs := [18]) (by kernel_rfl) (by simp) ?_
  refine AllReadyH.cons (o := _) rfl (fun K hK => ?_) AllReadyH.nil
  try simp only [List.getElem_toArray, List.getElem_cons_succ, List.getElem_cons_zero]
  go_simp
  refine hK.out _ _ (below_s _ _ (below_s _ _ hB2 (Nat.le_refl _)) (Nat.le_refl _)) (fun hHeld => ?_)
  clear hK K
  try simp only [Act.put, List.setIfInBounds_toArray, List.set_cons_zero, List.set_cons_succ, List.getElem_toArray, List.getElem_cons_succ, List.getElem_cons_zero]
  refine wpAnyH_take (i := 19) (oi := _) (v := ?_) rfl (by kernel_rfl) (by kernel_rfl) (by kernel_rfl) (fun _ _ _ h => h) (Or.inl ⟨by rfl, ?_⟩) (by assumption) ?_
  rotate_left
  · (intro w hSw; (try dsimp only at hSw); (try simp only [List.getElem_toArray, List.getElem_cons_succ, List.getElem_cons_zero]); go_simp; try with_reducible rfl)
  simp only [Act.put, List.setIfInBounds_toArray, List.set_cons_zero, List.set_cons_succ, List.getElem_toArray, List.getElem_cons_succ, List.getElem_cons_zero]
  refine wpAnyH_done (by kernel_rfl) ?_ _
  go_wp2_with fail
  have l0 := (two_cells (v0 := .int .i64 0) (v1 := .int .i64 1) q0 q1).1
  have l1 := (two_cells (v0 := .int .i64 0) (v1 := .int .i64 1) q0 q1).2
  refine bodyPost_ret (v := .tuple #[.agg #[.int .i64 0, .int .i64 1], .int .i64 0]) (by simp [results, Try.results35, go_sem, l0, l1]) rfl ⟨rfl, ?_⟩
  exact below_s _ _ (below_s _ _ hB2 (Nat.le_refl _)) (Nat.le_refl _)
end Go.Proofs.Ytlgpolfbilkmbaa
namespace Go.Proofs.Ytlgpolfbilkmbaa
open Go.RowKit Go.Shelf
def partP (k : Int) : Int × Int := (lowN k 65535, lowD k 65535)
/-- The part of a time, and the value there, each with its error. -/
def partT (T : Int × Int) (k : Int) : Int × Int × Int := mulP T.1 T.2 (partP k).1 (partP k).2
def latP (L : List Pc) (T : Int × Int) (k : Int) : Int × Int × Int := if (partT T k).2.2 = 0 then atP L ((partT T k).1, (partT T k).2.1) else partT T k
theorem part_valid {k : Int} (k0 : 0 ≤ k) (k1 : k ≤ 65535) : validF (partP k).1 (partP k).2 = true := valid_low (by decide) (by omega) (by omega) (by decide)
theorem make_part (k : Int) (k0 : 0 ≤ k) (k1 : k ≤ 65535) (w : World) : Calls Try.prog 35 #[.int .i64 k, .int .i64 65535] w fun e w' => e = .returned (.tuple #[.agg #[.int .i64 (partP k).1, .int .i64 (partP k).2], .int .i64 0]) ∧ Below w.heap.size w w' := by
  by_cases z : k = 0
  · subst z
    have := make_zero 65535 (by decide) (by decide) w
    rw [show partP 0 = (0, 1) by unfold partP; rw [(low_zero (d := 65535) (by decide)).1, (low_zero (d := 65535) (by decide)).2]]
    exact this
  · have h := make_any k 65535 z (by omega) (by omega) (by decide) (by decide) w
    rw [make_low (by decide), fit_low (by decide) (by omega) (by omega) (by decide)] at h
    exact h
set_option maxRecDepth 100000 in
set_option maxHeartbeats 8000000 in
theorem lawat_any (L : List Pc) (ok : CurveOK L) (T : Int × Int) (vT : vF T = true) (k : Int) (k0 : 0 ≤ k) (k1 : k ≤ 65535) (a : Option Addr) (c : Nat) (w : World) (hL : Pcs w.heap.size w a L) :
    Calls Try.prog 33 #[.slice a L.length c, .agg #[.int .i64 T.1, .int .i64 T.2], .int .u16 k] w fun e w' => e = .returned (.tuple #[.agg #[.int .i64 (latP L T k).1, .int .i64 (latP L T k).2.1], .int .i64 (latP L T k).2.2]) ∧ Below w.heap.size w w' := by
  have wk : IntKind.i64.wrap k = k := IntWalk.i64_in _ (by omega)
  have HM := Lib.hid (make_part k k0 k1)
  have vP := part_valid k0 k1
  obtain ⟨P, hP⟩ : ∃ P, partP k = P := ⟨_, rfl⟩
  rw [hP] at HM vP
  have HX := Lib.hid (mul_any T.1 T.2 P.1 P.2 vT vP)
  obtain ⟨X, hX⟩ : ∃ X, mulP T.1 T.2 P.1 P.2 = X := ⟨_, rfl⟩
  rw [hX] at HX
  have HPX : Hid (partT T k = X) := Lib.hid (by unfold partT; rw [hP, hX])
  have HA : Hid (∀ w' : World, Below w.heap.size w w' → Calls Try.prog 31 #[.slice a L.length c, .agg #[.int .i64 X.1, .int .i64 X.2.1]] w' fun e w2 => e = .returned (.tuple #[.agg #[.int .i64 (atP L (X.1, X.2.1)).1, .int .i64 (atP L (X.1, X.2.1)).2.1], .int .i64 (atP L (X.1, X.2.1)).2.2]) ∧ Below w'.heap.size w' w2) := Lib.hid fun w' h => qat_any L ok (X.1, X.2.1) a c w' (hL.grow h)
  obtain ⟨A, hA⟩ : ∃ A, atP L (X.1, X.2.1) = A := ⟨_, rfl⟩
  rw [hA] at HA
  clear hX hP vP vT ok hL k0 k1
  by_cases z : X.2.2 = 0
  · have HR : Hid (latP L T k = A) := Lib.hid (by unfold latP; rw [HPX.out, if_pos z, hA])
    rw [HR.out]
    have z1 : (X.2.2 != 0) = false := by simpa using z
    clear z hA
    go_enter Try.func33, Try.ntmps33
    go_upto_region 2 with (go_at_call 35; (with_reducible refine (HM.out _).mono ?_); rintro e w1 ⟨rfl, hb1⟩)
    have hW0 : Below w.heap.size w ((w.alloc (.cells #[.int .i64 T.1, .int .i64 T.2] 39)).alloc (.cells #[.int .i64 0, .int .i64 0] 39)) := (below_new _ _).alloc (by simp) _
    have F0 : FI ((w.alloc (.cells #[.int .i64 T.1, .int .i64 T.2] 39)).alloc (.cells #[.int .i64 0, .int .i64 0] 39)) w.heap.size T.1 T.2 := ⟨by simp, by simp, by simp, by simp, by simp <;> omega⟩
    have F1 : FI ((w.alloc (.cells #[.int .i64 T.1, .int .i64 T.2] 39)).alloc (.cells #[.int .i64 0, .int .i64 0] 39)) (w.heap.size + 1) 0 0 := ⟨by simp, by simp, by simp, by simp, by simp⟩
    replace F0 := F0.carry hb1
    replace F1 := F1.carry hb1
    have hB1 := hW0.trans (hb1.mono hW0.size)
    clear hW0 hb1
    have F2 := FI.put w1 P.1 P.2 39
    replace F0 := F0.carry (below_new w1 (.cells #[.int .i64 P.1, .int .i64 P.2] 39))
    replace F1 := F1.carry (below_new w1 (.cells #[.int .i64 P.1, .int .i64 P.2] 39))
    replace hB1 := hB1.alloc hB1.size (.cells #[.int .i64 P.1, .int .i64 P.2] 39)
    obtain ⟨Bp, hBp⟩ : ∃ b, w1.heap.size = b := ⟨_, rfl⟩
    simp only [hBp] at F2 ⊢
    generalize w1.alloc (.cells #[.int .i64 P.1, .int .i64 P.2] 39) = W1 at *
    clear hBp
    have e0 := F0.1
    have e1 := F0.2.1
    have e2 := F2.1
    have e3 := F2.2.1
    go_upto_region 5 with (go_at_call 36; (with_reducible refine (HX.out _).mono ?_); rintro e w2 ⟨rfl, hb2⟩)
    have hB2 := hB1.trans (hb2.mono hB1.size)
    replace F1 := F1.carry hb2
    clear e0 e1 e2 e3 F0 F2 hb2
    have F3 := FI.put w2 X.1 X.2.1 39
    replace F1 := F1.carry (below_new w2 (.cells #[.int .i64 X.1, .int .i64 X.2.1] 39))
    replace hB2 := hB2.alloc hB2.size (.cells #[.int .i64 X.1, .int .i64 X.2.1] 39)
    obtain ⟨Bx, hBx⟩ : ∃ b, w2.heap.size = b := ⟨_, rfl⟩
    simp only [hBx] at F3 ⊢
    generalize w2.alloc (.cells #[.int .i64 X.1, .int .i64 X.2.1] 39) = W2 at *
    clear hBx
    have e0 := F3.1
    have e1 := F3.2.1
    go_wp2_with (go_at_call 31; (with_reducible refine (HA.out _ hB2).mono ?_); rintro e w3 ⟨rfl, hb3⟩; obtain ⟨q0, q1, q2, q3, q4⟩ := F1.carry hb3)
    have l0 := (two_cells (v0 := .int .i64 A.1) (v1 := .int .i64 A.2.1) q0 q1).1
    have l1 := (two_cells (v0 := .int .i64 A.1) (v1 := .int .i64 A.2.1) q0 q1).2
    refine bodyPost_ret (v := .tuple #[.agg #[.int .i64 A.1, .int .i64 A.2.1], .int .i64 A.2.2]) (by simp [results, Try.results33, go_sem, l0, l1]) rfl ⟨rfl, ?_⟩
    exact below_s _ _ (below_s _ _ (hB2.trans (hb3.mono hB2.size)) (Nat.le_succ _)) (Nat.le_succ _)
  · have HR : Hid (latP L T k = X) := Lib.hid (by unfold latP; rw [HPX.out, if_neg z])
    rw [HR.out]
    have z1 : (X.2.2 != 0) = true := by simpa using z
    clear z hA
    go_enter Try.func33, Try.ntmps33
    go_upto_region 2 with (go_at_call 35; (with_reducible refine (HM.out _).mono ?_); rintro e w1 ⟨rfl, hb1⟩)
    have hW0 : Below w.heap.size w ((w.alloc (.cells #[.int .i64 T.1, .int .i64 T.2] 39)).alloc (.cells #[.int .i64 0, .int .i64 0] 39)) := (below_new _ _).alloc (by simp) _
    have F0 : FI ((w.alloc (.cells #[.int .i64 T.1, .int .i64 T.2] 39)).alloc (.cells #[.int .i64 0, .int .i64 0] 39)) w.heap.size T.1 T.2 := ⟨by simp, by simp, by simp, by simp, by simp <;> omega⟩
    have F1 : FI ((w.alloc (.cells #[.int .i64 T.1, .int .i64 T.2] 39)).alloc (.cells #[.int .i64 0, .int .i64 0] 39)) (w.heap.size + 1) 0 0 := ⟨by simp, by simp, by simp, by simp, by simp⟩
    replace F0 := F0.carry hb1
    replace F1 := F1.carry hb1
    have hB1 := hW0.trans (hb1.mono hW0.size)
    clear hW0 hb1
    have F2 := FI.put w1 P.1 P.2 39
    replace F0 := F0.carry (below_new w1 (.cells #[.int .i64 P.1, .int .i64 P.2] 39))
    replace F1 := F1.carry (below_new w1 (.cells #[.int .i64 P.1, .int .i64 P.2] 39))
    replace hB1 := hB1.alloc hB1.size (.cells #[.int .i64 P.1, .int .i64 P.2] 39)
    obtain ⟨Bp, hBp⟩ : ∃ b, w1.heap.size = b := ⟨_, rfl⟩
    simp only [hBp] at F2 ⊢
    generalize w1.alloc (.cells #[.int .i64 P.1, .int .i64 P.2] 39) = W1 at *
    clear hBp
    have e0 := F0.1
    have e1 := F0.2.1
    have e2 := F2.1
    have e3 := F2.2.1
    go_upto_region 5 with (go_at_call 36; (with_reducible refine (HX.out _).mono ?_); rintro e w2 ⟨rfl, hb2⟩)
    have hB2 := hB1.trans (hb2.mono hB1.size)
    replace F1 := F1.carry hb2
    clear e0 e1 e2 e3 F0 F2 hb2
    have F3 := FI.put w2 X.1 X.2.1 39
    replace F1 := F1.carry (below_new w2 (.cells #[.int .i64 X.1, .int .i64 X.2.1] 39))
    replace hB2 := hB2.alloc hB2.size (.cells #[.int .i64 X.1, .int .i64 X.2.1] 39)
    obtain ⟨Bx, hBx⟩ : ∃ b, w2.heap.size = b := ⟨_, rfl⟩
    simp only [hBx] at F3 ⊢
    generalize w2.alloc (.cells #[.int .i64 X.1, .int .i64 X.2.1] 39) = W2 at *
    clear hBx
    have e0 := F3.1
    have e1 := F3.2.1
    obtain ⟨q0, q1, q2, q3, q4⟩ := F1
    have r0 := F3.1
    have r1 := F3.2.1
    go_wp2_with fail
    have l0 := (two_cells (v0 := .int .i64 X.1) (v1 := .int .i64 X.2.1) q0 q1).1
    have l1 := (two_cells (v0 := .int .i64 X.1) (v1 := .int .i64 X.2.1) q0 q1).2
    refine bodyPost_ret (v := .tuple #[.agg #[.int .i64 X.1, .int .i64 X.2.1], .int .i64 X.2.2]) (by simp [results, Try.results33, go_sem, l0, l1]) rfl ⟨rfl, ?_⟩
    exact below_s _ _ (below_s _ _ hB2 (Nat.le_succ _)) (Nat.le_succ _)
end Go.Proofs.Ytlgpolfbilkmbaa
namespace Go.Proofs.Ytlgpolfbilkmbaa

def timeL (L : List Pc) : Int × Int := ((pcg L (L.length - 1)).f0, (pcg L (L.length - 1)).f1)
theorem time_eq {d : Int} {m : Mv} {t : Int} (hg : givenP d m = 0) : timeP d m t = timeL (curveL d m.rise m.fall t) := by
  have hl := curveL_len d m.rise m.fall t
  unfold timeP
  rw [if_pos hg]
  unfold knotsL
  rw [knTo_len, knTo_at _ _ _ (by omega)]
  rfl
theorem fit_valid2 {p q : Int} (hq : 0 < q) (c : Int.gcd p q = 1) (h : (fitP p q).2.2 = 0) : vF ((fitP p q).1, (fitP p q).2.1) = true ∧ ((fitP p q).1, (fitP p q).2.1) = (p, q) := by
  obtain ⟨e, v⟩ := fit_ok hq c h
  rw [e]
  exact ⟨v, rfl⟩
theorem mulP_ok {a b : Int × Int} (ha : 0 < a.2) (hb : 0 < b.2) (h : (mulP a.1 a.2 b.1 b.2).2.2 = 0) : vF ((mulP a.1 a.2 b.1 b.2).1, (mulP a.1 a.2 b.1 b.2).2.1) = true ∧ fr ((mulP a.1 a.2 b.1 b.2).1, (mulP a.1 a.2 b.1 b.2).2.1) = fr a * fr b := by
  obtain ⟨v, e⟩ := fit_valid2 (lowD_pos (Int.mul_pos ha hb)) (low_cop (Int.mul_pos ha hb)) (h : (fitP _ _).2.2 = 0)
  exact ⟨v, by rw [← frq_times ha hb]; exact congrArg fr e⟩
theorem addP_ok {a b : Int × Int} (ha : 0 < a.2) (hb : 0 < b.2) (h : (addP a.1 a.2 b.1 b.2).2.2 = 0) : vF ((addP a.1 a.2 b.1 b.2).1, (addP a.1 a.2 b.1 b.2).2.1) = true ∧ fr ((addP a.1 a.2 b.1 b.2).1, (addP a.1 a.2 b.1 b.2).2.1) = fr a + fr b := by
  obtain ⟨v, e⟩ := fit_valid2 (lowD_pos (Int.mul_pos ha hb)) (low_cop (Int.mul_pos ha hb)) (h : (fitP _ _).2.2 = 0)
  exact ⟨v, by rw [← frq_add ha hb]; exact congrArg fr e⟩
theorem addP_err (a b c d : Int) : (addP a b c d).2.2 = 0 ∨ (addP a b c d).2.2 = 5 := fit_valid
theorem mulP_err (a b c d : Int) : (mulP a b c d).2.2 = 0 ∨ (mulP a b c d).2.2 = 5 := fit_valid
/-- The time of a right move, and 1000 more. -/
theorem later_ok {d : Int} {m : Mv} {t : Int} (hg : givenP d m = 0) (ht : IsTop d m.spd m.rise m.fall t) : (addP (timeL (curveL d m.rise m.fall t)).1 (timeL (curveL d m.rise m.fall t)).2 1000 1).2.2 = 0 := by
  obtain ⟨hv, hd⟩ := given_ok hg
  obtain ⟨V0, V1, R0, R1, F0, F1⟩ := valid_bds hv
  obtain ⟨d1, d2⟩ := inB_iff.1 hd
  by_cases hz : d = 0
  · have e : curveL d m.rise m.fall t = [⟨0, 1, 0, 1, 0, 1, 0, 1⟩] := by unfold curveL; rw [if_pos hz]
    rw [e]
    decide +kernel
  · have t0 := top_pos (by omega) R0 F0 V0 ht
    obtain ⟨T0, T1, k0, k1, rf0, rf1, w0, w1, a0, a1, b0, b1, c0, c1, e0, e1⟩ := curve_b (by omega) d2 R0 R1 F0 F1 V0 V1 ht
    have g : timeL (curveL d m.rise m.fall t) = (lowN (2 * m.fall * (t * t) + kP d m.rise m.fall t + 2 * m.rise * (t * t)) (2 * m.rise * m.fall * t), lowD (2 * m.fall * (t * t) + kP d m.rise m.fall t + 2 * m.rise * (t * t)) (2 * m.rise * m.fall * t)) := by
      unfold curveL
      rw [if_neg hz]
      split <;> rfl
    rw [g]
    have o := low_one 1000
    have hN : 0 ≤ 2 * m.fall * (t * t) + kP d m.rise m.fall t + 2 * m.rise * (t * t) ∧ 2 * m.fall * (t * t) + kP d m.rise m.fall t + 2 * m.rise * (t * t) ≤ 1125899906842624 := by omega
    generalize 2 * m.fall * (t * t) + kP d m.rise m.fall t + 2 * m.rise * (t * t) = N at *
    generalize 2 * m.rise * m.fall * t = D at *
    have h := addP_low (n1 := N) (d1 := D) (n2 := 1000) (d2 := 1) (N := N + 1000 * D) (D := D) (by omega) (by decide) (by omega) (by rw [Int.mul_one, Int.mul_one]) (by omega) (by omega) (by omega)
    rw [o.1, o.2] at h
    rw [h]
theorem partP_fr (k : Int) : fr (partP k) = (k : Rat) / 65535 := frq_low k 65535 (by decide)
theorem part_pos {k : Int} : 0 < (partP k).2 := lowD_pos (by decide)
theorem latP_err {L : List Pc} {T : Int × Int} {k : Int} (vT : vF T = true) : (latP L T k).2.2 = 0 ∨ (latP L T k).2.2 = 5 := by
  have h := mulP_err T.1 T.2 (partP k).1 (partP k).2
  unfold latP
  split
  next z => exact atP_err (mulP_ok (den_pos vT) part_pos z).1
  next z => exact h
/-- What the law asks at two parts of the time. -/
theorem reach_parts {L : List Pc} {d t : Int} (mc : MoveC L d t) {T : Int × Int} (vT : vF T = true) (T0 : 0 ≤ T.1) {p q : Int} (pq : p ≤ q) (hp : (latP L T p).2.2 = 0) (hq : (latP L T q).2.2 = 0) :
    vF ((latP L T p).1, (latP L T p).2.1) = true ∧ vF ((latP L T q).1, (latP L T q).2.1) = true ∧ 0 ≤ (latP L T p).1 ∧ (latP L T p).1 * (latP L T q).2.1 ≤ (latP L T q).1 * (latP L T p).2.1 ∧ (latP L T q).1 * 1 ≤ d * (latP L T q).2.1 := by
  have ep : (partT T p).2.2 = 0 ∧ latP L T p = atP L ((partT T p).1, (partT T p).2.1) := by
    unfold latP at hp ⊢
    split at hp
    next z => exact ⟨z, by rw [if_pos z]⟩
    next z => exact absurd hp z
  have eq : (partT T q).2.2 = 0 ∧ latP L T q = atP L ((partT T q).1, (partT T q).2.1) := by
    unfold latP at hq ⊢
    split at hq
    next z => exact ⟨z, by rw [if_pos z]⟩
    next z => exact absurd hq z
  obtain ⟨zp, ep⟩ := ep
  obtain ⟨zq, eq⟩ := eq
  obtain ⟨vp, fp⟩ := mulP_ok (den_pos vT) (part_pos (k := p)) zp
  obtain ⟨vq, fq⟩ := mulP_ok (den_pos vT) (part_pos (k := q)) zq
  have T0' : 0 ≤ fr T := by rw [← frq_zero]; exact (frq_le (a := (0, 1)) (by decide) (den_pos vT)).2 (by show 0 * T.2 ≤ T.1 * 1; omega)
  have pq' : (p : Rat) ≤ (q : Rat) := Rat.intCast_le_intCast.2 pq
  have xy : fr ((partT T p).1, (partT T p).2.1) ≤ fr ((partT T q).1, (partT T q).2.1) := by
    show fr ((mulP T.1 T.2 (partP p).1 (partP p).2).1, (mulP T.1 T.2 (partP p).1 (partP p).2).2.1) ≤ fr ((mulP T.1 T.2 (partP q).1 (partP q).2).1, (mulP T.1 T.2 (partP q).1 (partP q).2).2.1)
    rw [fp, fq, partP_fr, partP_fr]
    exact Rat.mul_le_mul_of_nonneg_left (by grind) T0'
  rw [ep] at hp ⊢
  rw [eq] at hq ⊢
  exact ⟨atP_valid mc.ok vp hp, atP_valid mc.ok vq hq, mc.values vp vq xy hp hq⟩
theorem MoveC.vT {L : List Pc} {d t : Int} (mc : MoveC L d t) : vF (timeL L) = true := (mc.ok.val (L.length - 1) (by have := mc.ok.pos; omega)).vf
theorem asc_from {Q : List QP} (h : Asc Q) (h0 : 0 < Q.length) : ∀ i (hi : i < Q.length), (Q[0]'h0).f ≤ Q[i].f := fun i => by
  induction i with
  | zero => exact fun _ => Rat.le_refl
  | succ i ih => exact fun hi => by have x := ih (by omega); have y := h i hi; grind
/-- The times of a move are not below 0. -/
theorem MoveC.froms {L : List Pc} {d t : Int} (mc : MoveC L d t) : ∀ i, i < L.length → 0 ≤ (pcg L i).f0 := fun i hi => by
  have hp := mc.ok.pos
  have h := asc_from mc.ok.asc' (by rw [qL_len]; omega) i (by rw [qL_len]; exact hi)
  rw [qL_f, qL_f, mc.f0] at h
  have := (frq_le (a := (0, 1)) (b := ((pcg L i).f0, (pcg L i).f1)) (by decide) (den_pos (mc.ok.val i hi).vf)).1 h
  have e : 0 * (pcg L i).f1 ≤ (pcg L i).f0 * 1 := this
  omega
theorem MoveC.at_zero {L : List Pc} {d t : Int} (mc : MoveC L d t) : atP L (0, 1) = (0, 1, 0) := by
  have h := at_first mc.ok
  have a := mc.a0
  rw [mc.f0] at h
  rw [h]
  have a1 : (pcg L 0).a0 = 0 := congrArg Prod.fst a
  have a2 : (pcg L 0).a1 = 1 := congrArg Prod.snd a
  rw [a1, a2]
theorem MoveC.at_end {L : List Pc} {d t : Int} (mc : MoveC L d t) {x u : Int × Int} (vx : vF x = true) (vu : vF u = true) (h : fr x = fr (timeL L) + fr u) (u0 : 0 ≤ fr u) : atP L x = (d, 1, 0) := by
  have a := mc.an
  rw [at_last mc.ok vx vu mc.bn mc.cn h u0]
  have a1 : (pcg L (L.length - 1)).a0 = d := congrArg Prod.fst a
  have a2 : (pcg L (L.length - 1)).a1 = 1 := congrArg Prod.snd a
  rw [a1, a2]
theorem MoveC.at_time {L : List Pc} {d t : Int} (mc : MoveC L d t) : atP L (timeL L) = (d, 1, 0) := mc.at_end mc.vT vF_zero (by rw [frq_zero]; grind) (by rw [frq_zero]; exact Rat.le_refl)
theorem vF_thousand : vF (1000, 1) = true := valid_one (by decide) (by decide)
end Go.Proofs.Ytlgpolfbilkmbaa
namespace Go.Proofs.Ytlgpolfbilkmbaa
open Go.RowKit Go.Shelf

def MvAt (w : World) (B : Nat) (m : Mv) : Prop := w.cell? ⟨B, 0, none⟩ = some (.string m.name) ∧ w.cell? ⟨B, 1, none⟩ = some (.int .i64 m.to) ∧ w.cell? ⟨B, 2, none⟩ = some (.int .i64 m.spd) ∧ w.cell? ⟨B, 3, none⟩ = some (.int .i64 m.rise) ∧ w.cell? ⟨B, 4, none⟩ = some (.int .i64 m.fall)
theorem MvAt.carry {W w : World} {B : Nat} {m : Mv} (c : MvAt W B m) (h : Below W.heap.size W w) : MvAt w B m := by
  have hz : B < W.heap.size := World.block_lt_of_cell? _ _ c.1
  exact ⟨(h.cell (p := ⟨B, 0, none⟩) hz).trans c.1, (h.cell (p := ⟨B, 1, none⟩) hz).trans c.2.1, (h.cell (p := ⟨B, 2, none⟩) hz).trans c.2.2.1, (h.cell (p := ⟨B, 3, none⟩) hz).trans c.2.2.2.1, (h.cell (p := ⟨B, 4, none⟩) hz).trans c.2.2.2.2⟩
theorem MvAt.new (W : World) (m : Mv) (t : TypeId) : MvAt (W.alloc (.cells #[.string m.name, .int .i64 m.to, .int .i64 m.spd, .int .i64 m.rise, .int .i64 m.fall] t)) W.heap.size m := ⟨by simp, by simp, by simp, by simp, by simp⟩

end Go.Proofs.Ytlgpolfbilkmbaa
namespace Go.Proofs.Ytlgpolfbilkmbaa
open Go.RowKit Go.Shelf

set_option maxHeartbeats 4000000 in
theorem fr_equal (a1 a2 : Option Addr) (F1 F2 : List (Int × Int)) (cap1 cap2 : Nat) (w : World) (hl : F1.length ≤ 1100) (h1 : Frs w.heap.size w a1 F1) (h2 : Frs w.heap.size w a2 F2) (hl2 : F2.length ≤ 1100) :
    Calls Try.prog 27 #[.slice a1 F1.length cap1, .slice a2 F2.length cap2] w fun e w' => e = .returned (.bool (decide (F1 = F2))) ∧ Below w.heap.size w w' := by
  have H1 := Lib.hid h1
  have H2 := Lib.hid h2
  clear h1 h2
  by_cases hle : F1.length = F2.length
  · have hn : ((F1.length : Int) != (F2.length : Int)) = false := by rw [bne_eq_false_iff_eq]; omega
    have HL := Lib.hid hle; clear hle
    go_enter Try.func27, Try.ntmps27
    go_wp2
    go_loopw [13] (fun i wr => ∃ k : Nat, k ≤ F1.length ∧ i = .int .i64 k ∧ Below w.heap.size w wr ∧ Hid (∀ j, j < k → frg F1 j = frg F2 j)) (fun i _ => F1.length - (intOf i).toNat)
    case atStart => exact ⟨0, Nat.zero_le _, rfl, Below.refl _ _, Lib.hid (fun _ h => absurd h (Nat.not_lt_zero _))⟩
    case round =>
      obtain ⟨k, hk, rfl, hB, HA⟩ := hrel
      by_cases hlt : k < F1.length
      · have hlt2 : k < F2.length := by have := HL.out; omega
        obtain ⟨b, off, rfl, hb, hcx⟩ := H1.out (by omega)
        obtain ⟨b', off', rfl, hb', hcx'⟩ := H2.out (by omega)
        obtain ⟨c0, c1⟩ := hcx k hlt
        obtain ⟨e0, e1⟩ := hcx' k hlt2
        have d0 := (hB.cell (p := ⟨b, off + k * 2, none⟩) hb).trans c0
        have d1 := (hB.cell (p := ⟨b, off + k * 2 + 1, none⟩) hb).trans c1
        have f0 := (hB.cell (p := ⟨b', off' + k * 2, none⟩) hb').trans e0
        have f1 := (hB.cell (p := ⟨b', off' + k * 2 + 1, none⟩) hb').trans e1
        clear c0 c1 e0 e1 hcx hcx'
        by_cases q0 : (frg F1 k).1 = (frg F2 k).1
        · by_cases q1 : (frg F1 k).2 = (frg F2 k).2
          · have HB : Hid (∀ j, j < k + 1 → frg F1 j = frg F2 j) := Lib.hid fun j hj => by
              rcases Nat.lt_or_ge j k with l | l
              · exact HA.out j l
              · obtain rfl : j = k := by omega
                exact Prod.ext q0 q1
            have g0 : ((frg F1 k).1 == (frg F2 k).1) = true := beq_iff_eq.2 q0
            have h0 : ((frg F1 k).1 != (frg F2 k).1) = false := bne_eq_false_iff_eq.2 q0
            have g1 : ((frg F1 k).2 == (frg F2 k).2) = true := beq_iff_eq.2 q1
            have h1 : ((frg F1 k).2 != (frg F2 k).2) = false := bne_eq_false_iff_eq.2 q1
            clear q0 q1
            go_wp2_with fail
            go_quiet (fail)
            go_wp2
            go_roundw
            case rel => exact ⟨k + 1, by omega, by go_num, below_drewN hB _, HB⟩
            case measure => simp [intOf]; omega
          · have H : Hid (decide (F1 = F2) = false) := Lib.hid (decide_eq_false (fun e => q1 (by rw [e])))
            have g0 : ((frg F1 k).1 == (frg F2 k).1) = true := beq_iff_eq.2 q0
            have h0 : ((frg F1 k).1 != (frg F2 k).1) = false := bne_eq_false_iff_eq.2 q0
            have g1 : ((frg F1 k).2 == (frg F2 k).2) = false := beq_eq_false_iff_ne.2 q1
            have h1 : ((frg F1 k).2 != (frg F2 k).2) = true := bne_iff_ne.2 q1
            clear q0 q1
            go_wp2_with fail
            go_quiet (fail)
            go_wp2
            go_ret
            exact ⟨congrArg (fun b => Ending.returned (.bool b)) H.out.symm, below_drewN hB _⟩
        · have H : Hid (decide (F1 = F2) = false) := Lib.hid (decide_eq_false (fun e => q0 (by rw [e])))
          have g0 : ((frg F1 k).1 == (frg F2 k).1) = false := beq_eq_false_iff_ne.2 q0
          have h0 : ((frg F1 k).1 != (frg F2 k).1) = true := bne_iff_ne.2 q0
          clear q0
          go_wp2_with fail
          go_quiet (fail)
          go_wp2
          go_ret
          exact ⟨congrArg (fun b => Ending.returned (.bool b)) H.out.symm, below_drewN hB _⟩
      · obtain rfl : k = F1.length := by omega
        have H : Hid (decide (F1 = F2) = true) := Lib.hid (decide_eq_true (frg_ext F1 F2 HL.out HA.out))
        go_wp2
        go_ret
        exact ⟨congrArg (fun b => Ending.returned (.bool b)) H.out.symm, hB⟩
  · have hn : ((F1.length : Int) != (F2.length : Int)) = true := bne_iff_ne.2 (by omega)
    have H : Hid (decide (F1 = F2) = false) := Lib.hid (decide_eq_false (fun e => hle (by rw [e])))
    clear hle
    go_enter Try.func27, Try.ntmps27
    go_wp2
    go_ret
    exact ⟨congrArg (fun b => Ending.returned (.bool b)) H.out.symm, Below.refl _ _⟩
end Go.Proofs.Ytlgpolfbilkmbaa
namespace Go.Proofs.Ytlgpolfbilkmbaa
open Go.RowKit Go.Shelf

def exM : Mv := ⟨⟨#[115]⟩, 0, 200, 100, 100⟩
theorem ex_given : givenP 1000 exM = 0 := by decide +kernel
theorem ex_given2 : givenP 100 exM = 0 := by decide +kernel
theorem ex_top : IsTop 1000 exM.spd exM.rise exM.fall 200 := ⟨by decide, by decide, by unfold Room; decide, .inl rfl⟩
theorem ex_top2 : IsTop 100 exM.spd exM.rise exM.fall 100 := ⟨by decide, by decide, by unfold Room; decide, .inr (by unfold Room; decide)⟩
theorem ex_knots : knotsL 1000 exM.rise exM.fall 200 = [(0, 1), (2, 1), (5, 1), (7, 1)] := by decide +kernel

theorem top_ex1 (w : World) : Calls Try.prog 11 #[.int .i64 1000, .agg #[.string ⟨#[115]⟩, .int .i64 0, .int .i64 200, .int .i64 100, .int .i64 100]] w fun e w' => e = .returned (.tuple #[.int .i64 200, .int .i64 0]) ∧ Below w.heap.size w w' := by
  have h := Top_any 1000 exM 200 (fun _ => ex_top) w
  rw [show topR 1000 exM 200 = 200 by unfold topR; rw [if_pos ex_given], ex_given] at h
  exact h
theorem top_ex2 (w : World) : Calls Try.prog 11 #[.int .i64 100, .agg #[.string ⟨#[115]⟩, .int .i64 0, .int .i64 200, .int .i64 100, .int .i64 100]] w fun e w' => e = .returned (.tuple #[.int .i64 100, .int .i64 0]) ∧ Below w.heap.size w w' := by
  have h := Top_any 100 exM 100 (fun _ => ex_top2) w
  rw [show topR 100 exM 100 = 100 by unfold topR; rw [if_pos ex_given2], ex_given2] at h
  exact h
theorem time_ex (w : World) : Calls Try.prog 20 #[.int .i64 1000, .agg #[.string ⟨#[115]⟩, .int .i64 0, .int .i64 200, .int .i64 100, .int .i64 100]] w fun e w' => e = .returned (.tuple #[.agg #[.int .i64 7, .int .i64 1], .int .i64 0]) ∧ Below w.heap.size w w' := by
  have h := Time_any 1000 exM 200 (fun _ => ex_top) w
  rw [show timeP 1000 exM 200 = (7, 1) by unfold timeP; rw [if_pos ex_given, ex_knots]; rfl, ex_given] at h
  exact h
theorem knots_ex (w : World) : Calls Try.prog 22 #[.int .i64 1000, .agg #[.string ⟨#[115]⟩, .int .i64 0, .int .i64 200, .int .i64 100, .int .i64 100]] w fun e w' => Hid (∃ a c, e = .returned (.tuple #[.slice a 4 c, .int .i64 0]) ∧ Frs w'.heap.size w' a [(0, 1), (2, 1), (5, 1), (7, 1)]) ∧ Below w.heap.size w w' := by
  refine (Knots_any 1000 exM 200 (fun _ => ex_top) w).mono fun e w' h => ⟨Lib.hid ?_, h.2⟩
  obtain ⟨v, he, hr⟩ := h.1.out
  have h1 := hr.1 ex_given
  rw [ex_knots] at h1
  obtain ⟨a, c, rfl, _, _, _, hf⟩ := fr_of_row h1
  exact ⟨a, c, by rw [he, ex_given]; rfl, hf⟩
theorem equal_ex (a1 a2 : Option Addr) (F : List (Int × Int)) (n c1 c2 : Nat) (w : World) (hn : F.length = n) (hl : F.length ≤ 1100) (h1 : Frs w.heap.size w a1 F) (h2 : Frs w.heap.size w a2 F) :
    Calls Try.prog 27 #[.slice a1 n c1, .slice a2 n c2] w fun e w' => e = .returned (.bool true) ∧ Below w.heap.size w w' := by
  subst hn
  exact (fr_equal a1 a2 F F c1 c2 w hl h1 h2 hl).mono fun e w' h => by rw [decide_eq_true rfl] at h; exact h
theorem frs_new (w : World) (n : Nat) (L : List (Int × Int)) (h : n = L.length) (hl : n ≤ 1000) : Frs (w.alloc (.cells (frflat L).toArray 39)).heap.size (w.alloc (.cells (frflat L).toArray 39)) (some ⟨w.heap.size, 0, none⟩) L := by
  subst h
  obtain ⟨a, cap, e, _, _, _, hc⟩ := fr_of_row (World.ownsRow_lit (base := 0) (e := 39) (size := 2) w (frflat L).toArray L.length (Nat.zero_le _) (by unfold maxLen; omega) (by simp [fr_len]))
  cases e
  exact hc

set_option maxHeartbeats 1000000 in
theorem example_any (w : World) : Calls Try.prog 38 #[] w fun e w' => e = .returned (.agg #[.string ⟨#[115]⟩, .int .i64 0, .int .i64 200, .int .i64 100, .int .i64 100]) ∧ Below w.heap.size w w' := by
  go_enter Try.func38, Try.ntmps38
  go_wp2_with fail
  refine bodyPost_ret (v := .agg #[.string ⟨#[115]⟩, .int .i64 0, .int .i64 200, .int .i64 100, .int .i64 100]) (by simp [results, Try.results38, go_sem]) rfl ⟨rfl, ?_⟩
  exact below_new _ _
set_option maxHeartbeats 1000000 in
theorem of_any (n : Int) (w : World) : Calls Try.prog 30 #[.int .i64 n] w fun e w' => e = .returned (.agg #[.int .i64 n, .int .i64 1]) ∧ Below w.heap.size w w' := by
  go_enter Try.func30, Try.ntmps30
  go_wp2_with fail
  refine bodyPost_ret (v := .agg #[.int .i64 n, .int .i64 1]) (by simp [results, Try.results30, go_sem]) rfl ⟨rfl, ?_⟩
  exact below_new _ _

set_option maxRecDepth 100000 in
set_option maxHeartbeats 8000000 in
theorem awake_any (w : World) : Calls Try.prog 10 #[] w fun e w' => e = .returned (.bool true) ∧ Below w.heap.size w w' := by
  have HO : Hid (∀ w : World, Frs (w.alloc (.cells #[.int .i64 0, .int .i64 1, .int .i64 2, .int .i64 1, .int .i64 5, .int .i64 1, .int .i64 7, .int .i64 1] 39)).heap.size (w.alloc (.cells #[.int .i64 0, .int .i64 1, .int .i64 2, .int .i64 1, .int .i64 5, .int .i64 1, .int .i64 7, .int .i64 1] 39)) (some ⟨w.heap.size, 0, none⟩) [(0, 1), (2, 1), (5, 1), (7, 1)]) := Lib.hid fun w => frs_new w 4 [(0, 1), (2, 1), (5, 1), (7, 1)] rfl (by decide)
  go_enter Try.func10, Try.ntmps10
  go_upto_region 5 with (first
    | (go_at_call 38; (with_reducible refine (example_any _).mono ?_); rintro e wx ⟨rfl, hbx⟩; (first | (have hq := hB.trans (hbx.mono hB.size); have hB := hq) | (have hB := hbx)); (first | (have hq2 := hC.trans (hbx.mono hC.size); have hC := hq2) | (have hC : Below (wt.alloc (.cells #[.int .i64 7, .int .i64 1] 39)).heap.size (wt.alloc (.cells #[.int .i64 7, .int .i64 1] 39)) wx := hbx) | skip))
    | (go_at_call 11; (with_reducible refine (top_ex1 _).mono ?_); rintro e wx ⟨rfl, hbx⟩; have hq := hB.trans (hbx.mono hB.size); have hB := hq)
    | (go_at_call 11; (with_reducible refine (top_ex2 _).mono ?_); rintro e wx ⟨rfl, hbx⟩; have hq := hB.trans (hbx.mono hB.size); have hB := hq; (first | (have hq2 := hC.trans (hbx.mono hC.size); have hC := hq2) | (have hC : Below (wt.alloc (.cells #[.int .i64 7, .int .i64 1] 39)).heap.size (wt.alloc (.cells #[.int .i64 7, .int .i64 1] 39)) wx := hbx) | skip))
    | (go_at_call 20; (with_reducible refine (time_ex _).mono ?_); rintro e wt ⟨rfl, hbx⟩; have hq : Below w.heap.size w (wt.alloc (.cells #[.int .i64 7, .int .i64 1] 39)) := (hB.trans (hbx.mono hB.size)).alloc (Nat.le_trans hB.size hbx.size) _; have hB := hq)
    | (go_at_call 22; (with_reducible refine (knots_ex _).mono ?_); rintro e wk ⟨hx, hbx⟩; obtain ⟨ka, kc, rfl, hkf⟩ := hx.out; have hq := hB.trans (hbx.mono hB.size); have hB := hq; (first | (have hq2 := hC.trans (hbx.mono hC.size); have hC := hq2) | (have hC : Below (wt.alloc (.cells #[.int .i64 7, .int .i64 1] 39)).heap.size (wt.alloc (.cells #[.int .i64 7, .int .i64 1] 39)) wk := hbx) | skip)))
  have z0 : wk.cell? ⟨wt.heap.size, 0, none⟩ = some (.int .i64 7) := (hC.cell (p := ⟨wt.heap.size, 0, none⟩) (by simp)).trans (by simp)
  have z1 : wk.cell? ⟨wt.heap.size, 1, none⟩ = some (.int .i64 1) := (hC.cell (p := ⟨wt.heap.size, 1, none⟩) (by simp)).trans (by simp)
  have hzl : wt.heap.size < wk.heap.size := World.block_lt_of_cell? _ _ z0
  have HKF := Lib.hid hkf
  have HBB := Lib.hid hB
  have HS : Hid (∀ w', Below wk.heap.size wk w' → Below wk.heap.size wk w' ∧ w'.cell? ⟨wt.heap.size, 0, none⟩ = some (.int .i64 7) ∧ w'.cell? ⟨wt.heap.size, 1, none⟩ = some (.int .i64 1)) := Lib.hid fun w' h => ⟨h, (h.cell (p := ⟨wt.heap.size, 0, none⟩) hzl).trans z0, (h.cell (p := ⟨wt.heap.size, 1, none⟩) hzl).trans z1⟩
  clear hC hB hkf hbx z0 z1
  have hbr := Below.refl wk.heap.size wk
  have hbd := hbr.drew
  go_region_held3 (fun w' => Below wk.heap.size wk w' ∧ w'.cell? ⟨wt.heap.size, 0, none⟩ = some (.int .i64 7) ∧ w'.cell? ⟨wt.heap.size, 1, none⟩ = some (.int .i64 1))
    (first | exact HS.out _ hbd | (go_split_ands; refine HS.out _ ?_; repeat' (first | assumption | apply below_a | apply Below.drew)))
    (first
      | (go_at_call 30; go_split_ands; (with_reducible refine (of_any _ _).mono ?_); rintro e yy ⟨rfl, hyy⟩; have hxx := held_next (wr := wk) (by assumption) hyy)
      | (go_at_call 27; go_split_ands; (with_reducible refine (equal_ex ka _ [(0, 1), (2, 1), (5, 1), (7, 1)] 4 kc 4 _ rfl (by decide) ?_ (HO.out _)).mono ?_); (next => exact (HKF.out.grow hxx).grow (below_new _ _)); rintro e yz ⟨rfl, hyz⟩; have hzz := hxx.trans ((mono_in _ hyz).mono hxx.size)))
  all_goals go_wp2_with fail
  all_goals go_ret
  all_goals exact ⟨rfl, HBB.out.trans (hzz.mono HBB.out.size)⟩
end Go.Proofs.Ytlgpolfbilkmbaa
