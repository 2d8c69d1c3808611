/-
  THE WALK of profile.Curve, over the contracts of package ratio that it calls at the numbers at hand: the cuts.
-/
import Derived.Test.YtlgpolfbilkmbaaCv12
import Derived.Test.YtlgpolfbilkmbaaCv14
import Derived.Test.YtlgpolfbilkmbaaCv15
import Derived.Test.YtlgpolfbilkmbaaCv16
import Derived.Test.YtlgpolfbilkmbaaCv17
import Derived.Test.YtlgpolfbilkmbaaCv19
import Derived.Test.YtlgpolfbilkmbaaCv20
namespace Go.Proofs.Ytlgpolfbilkmbaa
open Go.RowKit Go.Shelf

set_option maxRecDepth 100000 in
set_option maxHeartbeats 40000000 in
theorem curve_walk (d : Int) (m : Mv) (t tt R2 F2 rn rd fn fd sn sd un ud kn kd qn qd pn pd gn gd en ed cn cd hn hd mn md : Int)
    (hg : givenP d m = 0) (hd0 : ¬ d = 0) (ht : IsTop d m.spd m.rise m.fall t)
    (htt : IntKind.i64.wrap (t * t) = tt) (hR2 : IntKind.i64.wrap (2 * m.rise) = R2) (hF2 : IntKind.i64.wrap (2 * m.fall) = F2) (hNF : IntKind.i64.wrap (-m.fall) = -m.fall)
    (m1 : Gives 35 #[.int .i64 tt, .int .i64 R2] rn rd)
    (m2 : Gives 35 #[.int .i64 tt, .int .i64 F2] fn fd)
    (m3 : Gives 35 #[.int .i64 t, .int .i64 m.rise] sn sd)
    (m4 : Gives 35 #[.int .i64 t, .int .i64 m.fall] gn gd)
    (m5 : Gives 35 #[.int .i64 m.rise, .int .i64 2] cn cd)
    (m6 : Gives 35 #[.int .i64 (-m.fall), .int .i64 2] mn md)
    (s1 : Gives 49 #[.agg #[.int .i64 d, .int .i64 1], .agg #[.int .i64 rn, .int .i64 rd]] un ud)
    (s2 : Gives 49 #[.agg #[.int .i64 un, .int .i64 ud], .agg #[.int .i64 fn, .int .i64 fd]] kn kd)
    (s3 : Gives 49 #[.agg #[.int .i64 d, .int .i64 1], .agg #[.int .i64 fn, .int .i64 fd]] hn hd)
    (v1 : Gives 50 #[.agg #[.int .i64 kn, .int .i64 kd], .agg #[.int .i64 t, .int .i64 1]] qn qd)
    (a1 : Gives 32 #[.agg #[.int .i64 sn, .int .i64 sd], .agg #[.int .i64 qn, .int .i64 qd]] pn pd)
    (a2 : Gives 32 #[.agg #[.int .i64 pn, .int .i64 pd], .agg #[.int .i64 gn, .int .i64 gd]] en ed)
    (L : List Pc) (hL : L = [⟨0, 1, 0, 1, 0, 1, cn, cd⟩] ++ (if kn = 0 then [] else [⟨sn, sd, rn, rd, t, 1, 0, 1⟩]) ++ [⟨pn, pd, hn, hd, t, 1, mn, md⟩, ⟨en, ed, d, 1, 0, 1, 0, 1⟩]) (w : World) :
    Calls Try.prog 16 #[.int .i64 d, .agg #[.string m.name, .int .i64 m.to, .int .i64 m.spd, .int .i64 m.rise, .int .i64 m.fall]] w fun e w' => Hid (∃ v, e = .returned (.tuple #[v, .int .i64 0]) ∧ w'.ownsRow w.heap.size 70 8 v L.length (pcflat L)) ∧ Below w.heap.size w w' := by
  have HG := Lib.hid hg
  have HC := Lib.hid (top_any d m t hg ht)
  have hd' : (d == 0) = false := by simpa using hd0
  have HL := Lib.hid hL
  have M1 := Lib.hid m1
  have M2 := Lib.hid m2
  have M3 := Lib.hid m3
  have M4 := Lib.hid m4
  have M5 := Lib.hid m5
  have M6 := Lib.hid m6
  have S1 := Lib.hid s1
  have S2 := Lib.hid s2
  have S3 := Lib.hid s3
  have V1 := Lib.hid v1
  have A1 := Lib.hid a1
  have A2 := Lib.hid a2
  clear hg ht hd0 hL m1 m2 m3 m4 m5 m6 s1 s2 s3 v1 a1 a2
  go_enter Try.func16, Try.ntmps16
  go_upto_region 12 with (first
      | (go_at_call 39; (with_reducible refine (given_any d m _).mono ?_); rintro e w1 ⟨rfl, hb1⟩; rw [HG.out]; have hB1 := (below_new w (.cells #[.string m.name, .int .i64 m.to, .int .i64 m.spd, .int .i64 m.rise, .int .i64 m.fall] 23)).trans (hb1.mono (by simp)); have kz : w.heap.size < w1.heap.size := Nat.lt_of_lt_of_le (by simp) hb1.size; have k0 : w1.cell? ⟨w.heap.size, 0, none⟩ = some (.string m.name) := (hb1.cell (p := ⟨w.heap.size, 0, none⟩) (by simp)).trans (by simp); have k1 : w1.cell? ⟨w.heap.size, 1, none⟩ = some (.int .i64 m.to) := (hb1.cell (p := ⟨w.heap.size, 1, none⟩) (by simp)).trans (by simp); have k2 : w1.cell? ⟨w.heap.size, 2, none⟩ = some (.int .i64 m.spd) := (hb1.cell (p := ⟨w.heap.size, 2, none⟩) (by simp)).trans (by simp); have k3 : w1.cell? ⟨w.heap.size, 3, none⟩ = some (.int .i64 m.rise) := (hb1.cell (p := ⟨w.heap.size, 3, none⟩) (by simp)).trans (by simp); have k4 : w1.cell? ⟨w.heap.size, 4, none⟩ = some (.int .i64 m.fall) := (hb1.cell (p := ⟨w.heap.size, 4, none⟩) (by simp)).trans (by simp))
      | (go_at_call 40; (with_reducible refine (HC.out _).mono ?_); rintro e w2 ⟨rfl, hb2⟩; have j0 : w2.cell? ⟨w.heap.size, 0, none⟩ = some (.string m.name) := (hb2.cell (p := ⟨w.heap.size, 0, none⟩) (by simp <;> omega)).trans ((World.cell?_alloc_lt _ _ _ kz).trans k0); have j1 : w2.cell? ⟨w.heap.size, 1, none⟩ = some (.int .i64 m.to) := (hb2.cell (p := ⟨w.heap.size, 1, none⟩) (by simp <;> omega)).trans ((World.cell?_alloc_lt _ _ _ kz).trans k1); have j2 : w2.cell? ⟨w.heap.size, 2, none⟩ = some (.int .i64 m.spd) := (hb2.cell (p := ⟨w.heap.size, 2, none⟩) (by simp <;> omega)).trans ((World.cell?_alloc_lt _ _ _ kz).trans k2); have j3 : w2.cell? ⟨w.heap.size, 3, none⟩ = some (.int .i64 m.rise) := (hb2.cell (p := ⟨w.heap.size, 3, none⟩) (by simp <;> omega)).trans ((World.cell?_alloc_lt _ _ _ kz).trans k3); have j4 : w2.cell? ⟨w.heap.size, 4, none⟩ = some (.int .i64 m.fall) := (hb2.cell (p := ⟨w.heap.size, 4, none⟩) (by simp <;> omega)).trans ((World.cell?_alloc_lt _ _ _ kz).trans k4); have j5 : w2.cell? ⟨w1.heap.size, 0, none⟩ = some (.int .i64 0) := (hb2.cell (p := ⟨w1.heap.size, 0, none⟩) (by simp)).trans (by simp); have j6 : w2.cell? ⟨w1.heap.size, 1, none⟩ = some (.int .i64 1) := (hb2.cell (p := ⟨w1.heap.size, 1, none⟩) (by simp)).trans (by simp)))
  have hW2 : Below w.heap.size w w2 := (hB1.alloc hB1.size _).trans (hb2.mono (by simp <;> omega))
  have hz0 : w.heap.size < w2.heap.size := World.block_lt_of_cell? _ _ j0
  have hz1 : w1.heap.size < w2.heap.size := World.block_lt_of_cell? _ _ j5
  obtain ⟨FK, hFK⟩ : ∃ x : Value, Value.func (.func 46) #[] #[.pointer (some ⟨w2.heap.size, 0, none⟩)] = x := ⟨_, rfl⟩
  have W0b : Below w.heap.size w ((w2.alloc (.cells #[.int .i64 0] 25)).alloc (.cells #[Value.func (.func 46) #[] #[.pointer (some ⟨w2.heap.size, 0, none⟩)]] 71)) := (hW2.alloc hW2.size _).alloc (by have := hW2.size; simp <;> omega) _
  have x0 : ((w2.alloc (.cells #[.int .i64 0] 25)).alloc (.cells #[Value.func (.func 46) #[] #[.pointer (some ⟨w2.heap.size, 0, none⟩)]] 71)).cell? ⟨w.heap.size, 3, none⟩ = some (.int .i64 m.rise) := (World.cell?_alloc_lt _ _ _ (by simp <;> omega)).trans ((World.cell?_alloc_lt _ _ _ hz0).trans j3)
  have x1 : ((w2.alloc (.cells #[.int .i64 0] 25)).alloc (.cells #[Value.func (.func 46) #[] #[.pointer (some ⟨w2.heap.size, 0, none⟩)]] 71)).cell? ⟨w.heap.size, 4, none⟩ = some (.int .i64 m.fall) := (World.cell?_alloc_lt _ _ _ (by simp <;> omega)).trans ((World.cell?_alloc_lt _ _ _ hz0).trans j4)
  have x2 : ((w2.alloc (.cells #[.int .i64 0] 25)).alloc (.cells #[Value.func (.func 46) #[] #[.pointer (some ⟨w2.heap.size, 0, none⟩)]] 71)).cell? ⟨w1.heap.size, 0, none⟩ = some (.int .i64 0) := (World.cell?_alloc_lt _ _ _ (by simp <;> omega)).trans ((World.cell?_alloc_lt _ _ _ hz1).trans j5)
  have x3 : ((w2.alloc (.cells #[.int .i64 0] 25)).alloc (.cells #[Value.func (.func 46) #[] #[.pointer (some ⟨w2.heap.size, 0, none⟩)]] 71)).cell? ⟨w1.heap.size, 1, none⟩ = some (.int .i64 1) := (World.cell?_alloc_lt _ _ _ (by simp <;> omega)).trans ((World.cell?_alloc_lt _ _ _ hz1).trans j6)
  have x4 : ((w2.alloc (.cells #[.int .i64 0] 25)).alloc (.cells #[Value.func (.func 46) #[] #[.pointer (some ⟨w2.heap.size, 0, none⟩)]] 71)).cell? ⟨w2.heap.size, 0, none⟩ = some (.int .i64 0) := by simp
  have x5 : ((w2.alloc (.cells #[.int .i64 0] 25)).alloc (.cells #[Value.func (.func 46) #[] #[.pointer (some ⟨w2.heap.size, 0, none⟩)]] 71)).cell? ⟨(w2.heap.size + 1), 0, none⟩ = some (.func (.func 46) #[] #[.pointer (some ⟨w2.heap.size, 0, none⟩)]) := by simp
  clear hFK FK hb1 hB1 kz k0 k1 k2 k3 k4 hb2 j0 j1 j2 j3 j4 j5 j6 hW2 hz0 hz1
  generalize ((w2.alloc (.cells #[.int .i64 0] 25)).alloc (.cells #[Value.func (.func 46) #[] #[.pointer (some ⟨w2.heap.size, 0, none⟩)]] 71)) = W0 at *
  obtain ⟨Bk, hBk⟩ : ∃ b, w2.heap.size + 1 = b := ⟨_, rfl⟩
  simp only [hBk] at *
  clear hBk
  generalize w2.heap.size = Bb at *
  generalize w1.heap.size = Bz at *
  have HS : Hid (∀ w', Below W0.heap.size W0 w' → Below W0.heap.size W0 w' ∧ w'.cell? ⟨w.heap.size, 3, none⟩ = some (.int .i64 m.rise) ∧ w'.cell? ⟨w.heap.size, 4, none⟩ = some (.int .i64 m.fall) ∧ w'.cell? ⟨Bz, 0, none⟩ = some (.int .i64 0) ∧ w'.cell? ⟨Bz, 1, none⟩ = some (.int .i64 1) ∧ w'.cell? ⟨Bb, 0, none⟩ = some (.int .i64 0) ∧ w'.cell? ⟨Bk, 0, none⟩ = some (.func (.func 46) #[] #[.pointer (some ⟨Bb, 0, none⟩)])) := Lib.hid fun w' h => ⟨h, (h.cell (p := ⟨w.heap.size, 3, none⟩) (World.block_lt_of_cell? _ _ x0)).trans x0, (h.cell (p := ⟨w.heap.size, 4, none⟩) (World.block_lt_of_cell? _ _ x1)).trans x1, (h.cell (p := ⟨Bz, 0, none⟩) (World.block_lt_of_cell? _ _ x2)).trans x2, (h.cell (p := ⟨Bz, 1, none⟩) (World.block_lt_of_cell? _ _ x3)).trans x3, (h.cell (p := ⟨Bb, 0, none⟩) (World.block_lt_of_cell? _ _ x4)).trans x4, (h.cell (p := ⟨Bk, 0, none⟩) (World.block_lt_of_cell? _ _ x5)).trans x5⟩
  have hbr := Below.refl W0.heap.size W0
  have hbd := hbr.drew
  have HS2 : Hid (∀ w', Below W0.heap.size W0 w' → Below W0.heap.size W0 w' ∧ w'.cell? ⟨w.heap.size, 3, none⟩ = some (.int .i64 m.rise) ∧ w'.cell? ⟨w.heap.size, 4, none⟩ = some (.int .i64 m.fall) ∧ w'.cell? ⟨Bk, 0, none⟩ = some (.func (.func 46) #[] #[.pointer (some ⟨Bb, 0, none⟩)])) := Lib.hid fun w' h => ⟨h, (HS.out w' h).2.1, (HS.out w' h).2.2.1, (HS.out w' h).2.2.2.2.2.2⟩
  refine cv12 HS2 M1 M2 htt hR2 hF2 ?_
  intro u13 u14 u20 u21 u22 u23 u24 u25 u26 u27 u28 u29 u30 u31 u32 u33 u34 u35 u36 u37 u38 u39 u40 u41 u42 u43 u44 u45 u46 u47 u48 u49 u50 u51 u52 u53 u54 u55 u56 u57 u58 u59 u60 u61 u62 u63 u64 u65 u66 u67 u68 u69 u70 u71 u72 u73 u74 u75 u76 u77 u78 u79 u80 u81 u82 u83 u84 u85 u86 u87 u88 u89 u90 u91 u92 u93 u94 u95 u96 u97 u98 u99 u100 u101 u102 u103 u104 u105 u106 u107 u108 u109 u110 u111 u112 u113 u114 u115 u116 u117 u118 u119 u120 u121 u122 u123 u124 u125 u126 u127 u128 u129 u130 u131 u132 u133 u134 u135 u136 u137 u138 u139 u140 u141 u142 u143 u144 u145 u146 u147 u148 u149 u150 u151 u152 u153 u154 u155 u156 wc hcut
  clear HS2
  · obtain ⟨B13, B14, rfl, rfl, hBn, ⟨y0, y1⟩, ⟨y2, y3⟩⟩ := hcut
    obtain ⟨W1, rfl⟩ : ∃ W : World, W = wc := ⟨_, rfl⟩
    clear x0 x1 x2 x3 x4 x5
    obtain ⟨_, x0, x1, x2, x3, x4, x5⟩ := HS.out _ hBn
    have W1b := W0b.trans (hBn.mono W0b.size)
    clear HS hbd hbr hBn W0b
    go_upto_region 14 with (first
      | (go_at_call 48; (with_reducible refine (over_any t m.rise sn sd M3.out Bk (.pointer (some ⟨Bb, 0, none⟩)) _ ?_).mono ?_); (next => exact x5); rintro e w4 ⟨rfl, hb4⟩))
    have hBn : Below W1.heap.size W1 (w4.alloc (.cells #[.int .i64 sn, .int .i64 sd] 39)) := below_a _ hb4
    have z0 : (w4.alloc (.cells #[.int .i64 sn, .int .i64 sd] 39)).cell? ⟨w4.heap.size, 0, none⟩ = some (.int .i64 sn) := by simp
    have z1 : (w4.alloc (.cells #[.int .i64 sn, .int .i64 sd] 39)).cell? ⟨w4.heap.size, 1, none⟩ = some (.int .i64 sd) := by simp
    have q0 := (hBn.cell (p := ⟨w.heap.size, 3, none⟩) (World.block_lt_of_cell? _ _ x0)).trans x0
    have q1 := (hBn.cell (p := ⟨w.heap.size, 4, none⟩) (World.block_lt_of_cell? _ _ x1)).trans x1
    have q2 := (hBn.cell (p := ⟨Bz, 0, none⟩) (World.block_lt_of_cell? _ _ x2)).trans x2
    have q3 := (hBn.cell (p := ⟨Bz, 1, none⟩) (World.block_lt_of_cell? _ _ x3)).trans x3
    have q4 := (hBn.cell (p := ⟨Bb, 0, none⟩) (World.block_lt_of_cell? _ _ x4)).trans x4
    have q5 := (hBn.cell (p := ⟨Bk, 0, none⟩) (World.block_lt_of_cell? _ _ x5)).trans x5
    have q6 := (hBn.cell (p := ⟨B13, 0, none⟩) (World.block_lt_of_cell? _ _ y0)).trans y0
    have q7 := (hBn.cell (p := ⟨B13, 1, none⟩) (World.block_lt_of_cell? _ _ y1)).trans y1
    have q8 := (hBn.cell (p := ⟨B14, 0, none⟩) (World.block_lt_of_cell? _ _ y2)).trans y2
    have q9 := (hBn.cell (p := ⟨B14, 1, none⟩) (World.block_lt_of_cell? _ _ y3)).trans y3
    have W2b := W1b.trans (hBn.mono W1b.size)
    clear hb4 hBn W1b x0 x1 x2 x3 x4 x5 y0 y1 y2 y3
    generalize w4.alloc (.cells #[.int .i64 sn, .int .i64 sd] 39) = W2 at *
    generalize w4.heap.size = B15 at *
    obtain ⟨x0, x1, x2, x3, x4, x5, x6, x7, x8, x9, x10, x11⟩ : W2.cell? ⟨w.heap.size, 3, none⟩ = some (.int .i64 m.rise) ∧ W2.cell? ⟨w.heap.size, 4, none⟩ = some (.int .i64 m.fall) ∧ W2.cell? ⟨Bz, 0, none⟩ = some (.int .i64 0) ∧ W2.cell? ⟨Bz, 1, none⟩ = some (.int .i64 1) ∧ W2.cell? ⟨Bb, 0, none⟩ = some (.int .i64 0) ∧ W2.cell? ⟨Bk, 0, none⟩ = some (.func (.func 46) #[] #[.pointer (some ⟨Bb, 0, none⟩)]) ∧ W2.cell? ⟨B13, 0, none⟩ = some (.int .i64 rn) ∧ W2.cell? ⟨B13, 1, none⟩ = some (.int .i64 rd) ∧ W2.cell? ⟨B14, 0, none⟩ = some (.int .i64 fn) ∧ W2.cell? ⟨B14, 1, none⟩ = some (.int .i64 fd) ∧ W2.cell? ⟨B15, 0, none⟩ = some (.int .i64 sn) ∧ W2.cell? ⟨B15, 1, none⟩ = some (.int .i64 sd) := ⟨q0, q1, q2, q3, q4, q5, q6, q7, q8, q9, z0, z1⟩
    clear q0 q1 q2 q3 q4 q5 q6 q7 q8 q9 z0 z1
    go_upto_region 14 with (fail)
    have HS : Hid (∀ w', Below W2.heap.size W2 w' → Below W2.heap.size W2 w' ∧ w'.cell? ⟨w.heap.size, 3, none⟩ = some (.int .i64 m.rise) ∧ w'.cell? ⟨w.heap.size, 4, none⟩ = some (.int .i64 m.fall) ∧ w'.cell? ⟨Bz, 0, none⟩ = some (.int .i64 0) ∧ w'.cell? ⟨Bz, 1, none⟩ = some (.int .i64 1) ∧ w'.cell? ⟨Bb, 0, none⟩ = some (.int .i64 0) ∧ w'.cell? ⟨Bk, 0, none⟩ = some (.func (.func 46) #[] #[.pointer (some ⟨Bb, 0, none⟩)]) ∧ w'.cell? ⟨B13, 0, none⟩ = some (.int .i64 rn) ∧ w'.cell? ⟨B13, 1, none⟩ = some (.int .i64 rd) ∧ w'.cell? ⟨B14, 0, none⟩ = some (.int .i64 fn) ∧ w'.cell? ⟨B14, 1, none⟩ = some (.int .i64 fd) ∧ w'.cell? ⟨B15, 0, none⟩ = some (.int .i64 sn) ∧ w'.cell? ⟨B15, 1, none⟩ = some (.int .i64 sd)) := Lib.hid fun w' h => ⟨h, (h.cell (p := ⟨w.heap.size, 3, none⟩) (World.block_lt_of_cell? _ _ x0)).trans x0, (h.cell (p := ⟨w.heap.size, 4, none⟩) (World.block_lt_of_cell? _ _ x1)).trans x1, (h.cell (p := ⟨Bz, 0, none⟩) (World.block_lt_of_cell? _ _ x2)).trans x2, (h.cell (p := ⟨Bz, 1, none⟩) (World.block_lt_of_cell? _ _ x3)).trans x3, (h.cell (p := ⟨Bb, 0, none⟩) (World.block_lt_of_cell? _ _ x4)).trans x4, (h.cell (p := ⟨Bk, 0, none⟩) (World.block_lt_of_cell? _ _ x5)).trans x5, (h.cell (p := ⟨B13, 0, none⟩) (World.block_lt_of_cell? _ _ x6)).trans x6, (h.cell (p := ⟨B13, 1, none⟩) (World.block_lt_of_cell? _ _ x7)).trans x7, (h.cell (p := ⟨B14, 0, none⟩) (World.block_lt_of_cell? _ _ x8)).trans x8, (h.cell (p := ⟨B14, 1, none⟩) (World.block_lt_of_cell? _ _ x9)).trans x9, (h.cell (p := ⟨B15, 0, none⟩) (World.block_lt_of_cell? _ _ x10)).trans x10, (h.cell (p := ⟨B15, 1, none⟩) (World.block_lt_of_cell? _ _ x11)).trans x11⟩
    have hbr := Below.refl W2.heap.size W2
    have hbd := hbr.drew
    have HS2 : Hid (∀ w', Below W2.heap.size W2 w' → Below W2.heap.size W2 w' ∧ w'.cell? ⟨Bk, 0, none⟩ = some (.func (.func 46) #[] #[.pointer (some ⟨Bb, 0, none⟩)]) ∧ w'.cell? ⟨B13, 0, none⟩ = some (.int .i64 rn) ∧ w'.cell? ⟨B13, 1, none⟩ = some (.int .i64 rd) ∧ w'.cell? ⟨B14, 0, none⟩ = some (.int .i64 fn) ∧ w'.cell? ⟨B14, 1, none⟩ = some (.int .i64 fd)) := Lib.hid fun w' h => ⟨h, (HS.out w' h).2.2.2.2.2.2.1, (HS.out w' h).2.2.2.2.2.2.2.1, (HS.out w' h).2.2.2.2.2.2.2.2.1, (HS.out w' h).2.2.2.2.2.2.2.2.2.1, (HS.out w' h).2.2.2.2.2.2.2.2.2.2.1⟩
    refine cv14 HS2 S1 S2 ?_
    intro u16 u20 u21 u22 u23 u24 u25 u26 u27 u28 u29 u30 u31 u32 u33 u34 u35 u36 u37 u38 u39 u40 u41 u42 u43 u44 u45 u46 u47 u48 u49 u50 u51 u52 u53 u54 u55 u56 u57 u58 u59 u60 u61 u62 u63 u64 u65 u66 u67 u68 u69 u70 u71 u72 u73 u74 u75 u76 u77 u78 u79 u80 u81 u82 u83 u84 u85 u86 u87 u88 u89 u90 u91 u92 u93 u94 u95 u96 u97 u98 u99 u100 u101 u102 u103 u104 u105 u106 u107 u108 u109 u110 u111 u112 u113 u114 u115 u116 u117 u118 u119 u120 u121 u122 u123 u124 u125 u126 u127 u128 u129 u130 u131 u132 u133 u134 u135 u136 u137 u138 u139 u140 u141 u142 u143 u144 u145 u146 u147 u148 u149 u150 u151 u152 u153 u154 u155 u156 wc hcut
    clear HS2
    · obtain ⟨B16, rfl, hBn, ⟨y0, y1⟩⟩ := hcut
      obtain ⟨W3, rfl⟩ : ∃ W : World, W = wc := ⟨_, rfl⟩
      clear x0 x1 x2 x3 x4 x5 x6 x7 x8 x9 x10 x11
      obtain ⟨_, x0, x1, x2, x3, x4, x5, x6, x7, x8, x9, x10, x11⟩ := HS.out _ hBn
      have W3b := W2b.trans (hBn.mono W2b.size)
      clear HS hbd hbr hBn W2b
      obtain ⟨x12, x13⟩ : FR W3 B16 kn kd := ⟨y0, y1⟩
      clear y0 y1
      go_upto_region 15 with (fail)
      have HS : Hid (∀ w', Below W3.heap.size W3 w' → Below W3.heap.size W3 w' ∧ w'.cell? ⟨w.heap.size, 3, none⟩ = some (.int .i64 m.rise) ∧ w'.cell? ⟨w.heap.size, 4, none⟩ = some (.int .i64 m.fall) ∧ w'.cell? ⟨Bz, 0, none⟩ = some (.int .i64 0) ∧ w'.cell? ⟨Bz, 1, none⟩ = some (.int .i64 1) ∧ w'.cell? ⟨Bb, 0, none⟩ = some (.int .i64 0) ∧ w'.cell? ⟨Bk, 0, none⟩ = some (.func (.func 46) #[] #[.pointer (some ⟨Bb, 0, none⟩)]) ∧ w'.cell? ⟨B13, 0, none⟩ = some (.int .i64 rn) ∧ w'.cell? ⟨B13, 1, none⟩ = some (.int .i64 rd) ∧ w'.cell? ⟨B14, 0, none⟩ = some (.int .i64 fn) ∧ w'.cell? ⟨B14, 1, none⟩ = some (.int .i64 fd) ∧ w'.cell? ⟨B15, 0, none⟩ = some (.int .i64 sn) ∧ w'.cell? ⟨B15, 1, none⟩ = some (.int .i64 sd) ∧ w'.cell? ⟨B16, 0, none⟩ = some (.int .i64 kn) ∧ w'.cell? ⟨B16, 1, none⟩ = some (.int .i64 kd)) := Lib.hid fun w' h => ⟨h, (h.cell (p := ⟨w.heap.size, 3, none⟩) (World.block_lt_of_cell? _ _ x0)).trans x0, (h.cell (p := ⟨w.heap.size, 4, none⟩) (World.block_lt_of_cell? _ _ x1)).trans x1, (h.cell (p := ⟨Bz, 0, none⟩) (World.block_lt_of_cell? _ _ x2)).trans x2, (h.cell (p := ⟨Bz, 1, none⟩) (World.block_lt_of_cell? _ _ x3)).trans x3, (h.cell (p := ⟨Bb, 0, none⟩) (World.block_lt_of_cell? _ _ x4)).trans x4, (h.cell (p := ⟨Bk, 0, none⟩) (World.block_lt_of_cell? _ _ x5)).trans x5, (h.cell (p := ⟨B13, 0, none⟩) (World.block_lt_of_cell? _ _ x6)).trans x6, (h.cell (p := ⟨B13, 1, none⟩) (World.block_lt_of_cell? _ _ x7)).trans x7, (h.cell (p := ⟨B14, 0, none⟩) (World.block_lt_of_cell? _ _ x8)).trans x8, (h.cell (p := ⟨B14, 1, none⟩) (World.block_lt_of_cell? _ _ x9)).trans x9, (h.cell (p := ⟨B15, 0, none⟩) (World.block_lt_of_cell? _ _ x10)).trans x10, (h.cell (p := ⟨B15, 1, none⟩) (World.block_lt_of_cell? _ _ x11)).trans x11, (h.cell (p := ⟨B16, 0, none⟩) (World.block_lt_of_cell? _ _ x12)).trans x12, (h.cell (p := ⟨B16, 1, none⟩) (World.block_lt_of_cell? _ _ x13)).trans x13⟩
      have hbr := Below.refl W3.heap.size W3
      have hbd := hbr.drew
      have HS2 : Hid (∀ w', Below W3.heap.size W3 w' → Below W3.heap.size W3 w' ∧ w'.cell? ⟨Bk, 0, none⟩ = some (.func (.func 46) #[] #[.pointer (some ⟨Bb, 0, none⟩)]) ∧ w'.cell? ⟨B15, 0, none⟩ = some (.int .i64 sn) ∧ w'.cell? ⟨B15, 1, none⟩ = some (.int .i64 sd) ∧ w'.cell? ⟨B16, 0, none⟩ = some (.int .i64 kn) ∧ w'.cell? ⟨B16, 1, none⟩ = some (.int .i64 kd)) := Lib.hid fun w' h => ⟨h, (HS.out w' h).2.2.2.2.2.2.1, (HS.out w' h).2.2.2.2.2.2.2.2.2.2.2.1, (HS.out w' h).2.2.2.2.2.2.2.2.2.2.2.2.1, (HS.out w' h).2.2.2.2.2.2.2.2.2.2.2.2.2.1, (HS.out w' h).2.2.2.2.2.2.2.2.2.2.2.2.2.2⟩
      refine cv15 HS2 V1 A1 ?_
      intro u17 u20 u21 u22 u23 u24 u25 u26 u27 u28 u29 u30 u31 u32 u33 u34 u35 u36 u37 u38 u39 u40 u41 u42 u43 u44 u45 u46 u47 u48 u49 u50 u51 u52 u53 u54 u55 u56 u57 u58 u59 u60 u61 u62 u63 u64 u65 u66 u67 u68 u69 u70 u71 u72 u73 u74 u75 u76 u77 u78 u79 u80 u81 u82 u83 u84 u85 u86 u87 u88 u89 u90 u91 u92 u93 u94 u95 u96 u97 u98 u99 u100 u101 u102 u103 u104 u105 u106 u107 u108 u109 u110 u111 u112 u113 u114 u115 u116 u117 u118 u119 u120 u121 u122 u123 u124 u125 u126 u127 u128 u129 u130 u131 u132 u133 u134 u135 u136 u137 u138 u139 u140 u141 u142 u143 u144 u145 u146 u147 u148 u149 u150 u151 u152 u153 u154 u155 u156 wc hcut
      clear HS2
      · obtain ⟨B17, rfl, hBn, ⟨y0, y1⟩⟩ := hcut
        obtain ⟨W4, rfl⟩ : ∃ W : World, W = wc := ⟨_, rfl⟩
        clear x0 x1 x2 x3 x4 x5 x6 x7 x8 x9 x10 x11 x12 x13
        obtain ⟨_, x0, x1, x2, x3, x4, x5, x6, x7, x8, x9, x10, x11, x12, x13⟩ := HS.out _ hBn
        have W4b := W3b.trans (hBn.mono W3b.size)
        clear HS hbd hbr hBn W3b
        obtain ⟨x14, x15⟩ : FR W4 B17 pn pd := ⟨y0, y1⟩
        clear y0 y1
        go_upto_region 16 with (fail)
        have HS : Hid (∀ w', Below W4.heap.size W4 w' → Below W4.heap.size W4 w' ∧ w'.cell? ⟨w.heap.size, 3, none⟩ = some (.int .i64 m.rise) ∧ w'.cell? ⟨w.heap.size, 4, none⟩ = some (.int .i64 m.fall) ∧ w'.cell? ⟨Bz, 0, none⟩ = some (.int .i64 0) ∧ w'.cell? ⟨Bz, 1, none⟩ = some (.int .i64 1) ∧ w'.cell? ⟨Bb, 0, none⟩ = some (.int .i64 0) ∧ w'.cell? ⟨Bk, 0, none⟩ = some (.func (.func 46) #[] #[.pointer (some ⟨Bb, 0, none⟩)]) ∧ w'.cell? ⟨B13, 0, none⟩ = some (.int .i64 rn) ∧ w'.cell? ⟨B13, 1, none⟩ = some (.int .i64 rd) ∧ w'.cell? ⟨B14, 0, none⟩ = some (.int .i64 fn) ∧ w'.cell? ⟨B14, 1, none⟩ = some (.int .i64 fd) ∧ w'.cell? ⟨B15, 0, none⟩ = some (.int .i64 sn) ∧ w'.cell? ⟨B15, 1, none⟩ = some (.int .i64 sd) ∧ w'.cell? ⟨B16, 0, none⟩ = some (.int .i64 kn) ∧ w'.cell? ⟨B16, 1, none⟩ = some (.int .i64 kd) ∧ w'.cell? ⟨B17, 0, none⟩ = some (.int .i64 pn) ∧ w'.cell? ⟨B17, 1, none⟩ = some (.int .i64 pd)) := Lib.hid fun w' h => ⟨h, (h.cell (p := ⟨w.heap.size, 3, none⟩) (World.block_lt_of_cell? _ _ x0)).trans x0, (h.cell (p := ⟨w.heap.size, 4, none⟩) (World.block_lt_of_cell? _ _ x1)).trans x1, (h.cell (p := ⟨Bz, 0, none⟩) (World.block_lt_of_cell? _ _ x2)).trans x2, (h.cell (p := ⟨Bz, 1, none⟩) (World.block_lt_of_cell? _ _ x3)).trans x3, (h.cell (p := ⟨Bb, 0, none⟩) (World.block_lt_of_cell? _ _ x4)).trans x4, (h.cell (p := ⟨Bk, 0, none⟩) (World.block_lt_of_cell? _ _ x5)).trans x5, (h.cell (p := ⟨B13, 0, none⟩) (World.block_lt_of_cell? _ _ x6)).trans x6, (h.cell (p := ⟨B13, 1, none⟩) (World.block_lt_of_cell? _ _ x7)).trans x7, (h.cell (p := ⟨B14, 0, none⟩) (World.block_lt_of_cell? _ _ x8)).trans x8, (h.cell (p := ⟨B14, 1, none⟩) (World.block_lt_of_cell? _ _ x9)).trans x9, (h.cell (p := ⟨B15, 0, none⟩) (World.block_lt_of_cell? _ _ x10)).trans x10, (h.cell (p := ⟨B15, 1, none⟩) (World.block_lt_of_cell? _ _ x11)).trans x11, (h.cell (p := ⟨B16, 0, none⟩) (World.block_lt_of_cell? _ _ x12)).trans x12, (h.cell (p := ⟨B16, 1, none⟩) (World.block_lt_of_cell? _ _ x13)).trans x13, (h.cell (p := ⟨B17, 0, none⟩) (World.block_lt_of_cell? _ _ x14)).trans x14, (h.cell (p := ⟨B17, 1, none⟩) (World.block_lt_of_cell? _ _ x15)).trans x15⟩
        have hbr := Below.refl W4.heap.size W4
        have hbd := hbr.drew
        have HS2 : Hid (∀ w', Below W4.heap.size W4 w' → Below W4.heap.size W4 w' ∧ w'.cell? ⟨w.heap.size, 4, none⟩ = some (.int .i64 m.fall) ∧ w'.cell? ⟨Bk, 0, none⟩ = some (.func (.func 46) #[] #[.pointer (some ⟨Bb, 0, none⟩)]) ∧ w'.cell? ⟨B17, 0, none⟩ = some (.int .i64 pn) ∧ w'.cell? ⟨B17, 1, none⟩ = some (.int .i64 pd)) := Lib.hid fun w' h => ⟨h, (HS.out w' h).2.2.1, (HS.out w' h).2.2.2.2.2.2.1, (HS.out w' h).2.2.2.2.2.2.2.2.2.2.2.2.2.2.2.1, (HS.out w' h).2.2.2.2.2.2.2.2.2.2.2.2.2.2.2.2⟩
        refine cv16 HS2 M4 A2 ?_
        intro u18 u20 u21 u22 u23 u24 u25 u26 u27 u28 u29 u30 u31 u32 u33 u34 u35 u36 u37 u38 u39 u40 u41 u42 u43 u44 u45 u46 u47 u48 u49 u50 u51 u52 u53 u54 u55 u56 u57 u58 u59 u60 u61 u62 u63 u64 u65 u66 u67 u68 u69 u70 u71 u72 u73 u74 u75 u76 u77 u78 u79 u80 u81 u82 u83 u84 u85 u86 u87 u88 u89 u90 u91 u92 u93 u94 u95 u96 u97 u98 u99 u100 u101 u102 u103 u104 u105 u106 u107 u108 u109 u110 u111 u112 u113 u114 u115 u116 u117 u118 u119 u120 u121 u122 u123 u124 u125 u126 u127 u128 u129 u130 u131 u132 u133 u134 u135 u136 u137 u138 u139 u140 u141 u142 u143 u144 u145 u146 u147 u148 u149 u150 u151 u152 u153 u154 u155 u156 wc hcut
        clear HS2
        · obtain ⟨B18, rfl, hBn, ⟨y0, y1⟩⟩ := hcut
          obtain ⟨W5, rfl⟩ : ∃ W : World, W = wc := ⟨_, rfl⟩
          clear x0 x1 x2 x3 x4 x5 x6 x7 x8 x9 x10 x11 x12 x13 x14 x15
          obtain ⟨_, x0, x1, x2, x3, x4, x5, x6, x7, x8, x9, x10, x11, x12, x13, x14, x15⟩ := HS.out _ hBn
          have W5b := W4b.trans (hBn.mono W4b.size)
          clear HS hbd hbr hBn W4b
          obtain ⟨x16, x17⟩ : FR W5 B18 en ed := ⟨y0, y1⟩
          clear y0 y1
          go_upto_region 17 with (fail)
          have HS : Hid (∀ w', Below W5.heap.size W5 w' → Below W5.heap.size W5 w' ∧ w'.cell? ⟨w.heap.size, 3, none⟩ = some (.int .i64 m.rise) ∧ w'.cell? ⟨w.heap.size, 4, none⟩ = some (.int .i64 m.fall) ∧ w'.cell? ⟨Bz, 0, none⟩ = some (.int .i64 0) ∧ w'.cell? ⟨Bz, 1, none⟩ = some (.int .i64 1) ∧ w'.cell? ⟨Bb, 0, none⟩ = some (.int .i64 0) ∧ w'.cell? ⟨Bk, 0, none⟩ = some (.func (.func 46) #[] #[.pointer (some ⟨Bb, 0, none⟩)]) ∧ w'.cell? ⟨B13, 0, none⟩ = some (.int .i64 rn) ∧ w'.cell? ⟨B13, 1, none⟩ = some (.int .i64 rd) ∧ w'.cell? ⟨B14, 0, none⟩ = some (.int .i64 fn) ∧ w'.cell? ⟨B14, 1, none⟩ = some (.int .i64 fd) ∧ w'.cell? ⟨B15, 0, none⟩ = some (.int .i64 sn) ∧ w'.cell? ⟨B15, 1, none⟩ = some (.int .i64 sd) ∧ w'.cell? ⟨B16, 0, none⟩ = some (.int .i64 kn) ∧ w'.cell? ⟨B16, 1, none⟩ = some (.int .i64 kd) ∧ w'.cell? ⟨B17, 0, none⟩ = some (.int .i64 pn) ∧ w'.cell? ⟨B17, 1, none⟩ = some (.int .i64 pd) ∧ w'.cell? ⟨B18, 0, none⟩ = some (.int .i64 en) ∧ w'.cell? ⟨B18, 1, none⟩ = some (.int .i64 ed)) := Lib.hid fun w' h => ⟨h, (h.cell (p := ⟨w.heap.size, 3, none⟩) (World.block_lt_of_cell? _ _ x0)).trans x0, (h.cell (p := ⟨w.heap.size, 4, none⟩) (World.block_lt_of_cell? _ _ x1)).trans x1, (h.cell (p := ⟨Bz, 0, none⟩) (World.block_lt_of_cell? _ _ x2)).trans x2, (h.cell (p := ⟨Bz, 1, none⟩) (World.block_lt_of_cell? _ _ x3)).trans x3, (h.cell (p := ⟨Bb, 0, none⟩) (World.block_lt_of_cell? _ _ x4)).trans x4, (h.cell (p := ⟨Bk, 0, none⟩) (World.block_lt_of_cell? _ _ x5)).trans x5, (h.cell (p := ⟨B13, 0, none⟩) (World.block_lt_of_cell? _ _ x6)).trans x6, (h.cell (p := ⟨B13, 1, none⟩) (World.block_lt_of_cell? _ _ x7)).trans x7, (h.cell (p := ⟨B14, 0, none⟩) (World.block_lt_of_cell? _ _ x8)).trans x8, (h.cell (p := ⟨B14, 1, none⟩) (World.block_lt_of_cell? _ _ x9)).trans x9, (h.cell (p := ⟨B15, 0, none⟩) (World.block_lt_of_cell? _ _ x10)).trans x10, (h.cell (p := ⟨B15, 1, none⟩) (World.block_lt_of_cell? _ _ x11)).trans x11, (h.cell (p := ⟨B16, 0, none⟩) (World.block_lt_of_cell? _ _ x12)).trans x12, (h.cell (p := ⟨B16, 1, none⟩) (World.block_lt_of_cell? _ _ x13)).trans x13, (h.cell (p := ⟨B17, 0, none⟩) (World.block_lt_of_cell? _ _ x14)).trans x14, (h.cell (p := ⟨B17, 1, none⟩) (World.block_lt_of_cell? _ _ x15)).trans x15, (h.cell (p := ⟨B18, 0, none⟩) (World.block_lt_of_cell? _ _ x16)).trans x16, (h.cell (p := ⟨B18, 1, none⟩) (World.block_lt_of_cell? _ _ x17)).trans x17⟩
          have hbr := Below.refl W5.heap.size W5
          have hbd := hbr.drew
          obtain ⟨i0, hi, hz0, hz1, hz2⟩ := info_parts piece_info
          have W5s := W5b.size
          have HS2 : Hid (∀ w', Below W5.heap.size W5 w' → Below W5.heap.size W5 w' ∧ w'.cell? ⟨w.heap.size, 3, none⟩ = some (.int .i64 m.rise) ∧ w'.cell? ⟨Bz, 0, none⟩ = some (.int .i64 0) ∧ w'.cell? ⟨Bz, 1, none⟩ = some (.int .i64 1) ∧ w'.cell? ⟨Bk, 0, none⟩ = some (.func (.func 46) #[] #[.pointer (some ⟨Bb, 0, none⟩)])) := Lib.hid fun w' h => ⟨h, (HS.out w' h).2.1, (HS.out w' h).2.2.2.1, (HS.out w' h).2.2.2.2.1, (HS.out w' h).2.2.2.2.2.2.1⟩
          refine cv17 HS2 M5 ?_
          intro u19 u20 u21 u22 u23 u24 u25 u26 u27 u28 u29 u30 u31 u32 u33 u34 u35 u36 u37 u38 u39 u40 u41 u42 u43 u44 u45 u46 u47 u48 u49 u50 u51 u52 u53 u54 u55 u56 u57 u58 u59 u60 u61 u62 u63 u64 u65 u66 u67 u68 u69 u70 u71 u72 u73 u74 u75 u76 u77 u78 u79 u80 u81 u82 u83 u84 u85 u86 u87 u88 u89 u90 u91 u92 u93 u94 u95 u96 u97 u98 u99 u100 u101 u102 u103 u104 u105 u106 u107 u108 u109 u110 u111 u112 u113 u114 u115 u116 u117 u118 u119 u120 u121 u122 u123 u124 u125 u126 u127 u128 u129 u130 u131 u132 u133 u134 u135 u136 u137 u138 u139 u140 u141 u142 u143 u144 u145 u146 u147 u148 u149 u150 u151 u152 u153 u154 u155 u156 wc hcut
          clear HS2
          · obtain ⟨HR, hBn⟩ := hcut
            obtain ⟨r19, rfl⟩ : ∃ x : Value, x = u19 := ⟨_, rfl⟩
            obtain ⟨W6, rfl⟩ : ∃ x : World, x = wc := ⟨_, rfl⟩
            clear x0 x1 x2 x3 x4 x5 x6 x7 x8 x9 x10 x11 x12 x13 x14 x15 x16 x17
            obtain ⟨_, x0, x1, x2, x3, x4, x5, x6, x7, x8, x9, x10, x11, x12, x13, x14, x15, x16, x17⟩ := HS.out _ hBn
            go_upto_if 113 with (fail)
            go_cut [19] (fun v wx => Hid (∃ M : List Pc, M = [⟨0, 1, 0, 1, 0, 1, cn, cd⟩] ++ (if kn = 0 then [] else [⟨sn, sd, rn, rd, t, 1, 0, 1⟩]) ∧ wx.ownsRow W5.heap.size 70 8 v M.length (pcflat M)) ∧ Below W5.heap.size W5 wx)
            case first => 
              by_cases hk : kn = 0
              · have z1 : (kn != 0) = false := by simpa using hk
                have z2 : (kn == 0) = true := by simpa using hk
                go_wp2_with fail
                go_meet
                exact ⟨Lib.hid ⟨_, rfl, by rw [if_pos hk]; exact HR.out⟩, hBn⟩
              · have z1 : (kn != 0) = true := by simpa using hk
                have z2 : (kn == 0) = false := by simpa using hk
                have HS2 : Hid (∀ w', Below W5.heap.size W5 w' → Below W5.heap.size W5 w' ∧ w'.cell? ⟨Bz, 0, none⟩ = some (.int .i64 0) ∧ w'.cell? ⟨Bz, 1, none⟩ = some (.int .i64 1) ∧ w'.cell? ⟨B13, 0, none⟩ = some (.int .i64 rn) ∧ w'.cell? ⟨B13, 1, none⟩ = some (.int .i64 rd) ∧ w'.cell? ⟨B15, 0, none⟩ = some (.int .i64 sn) ∧ w'.cell? ⟨B15, 1, none⟩ = some (.int .i64 sd)) := Lib.hid fun w' h => ⟨h, (HS.out w' h).2.2.2.1, (HS.out w' h).2.2.2.2.1, (HS.out w' h).2.2.2.2.2.2.2.1, (HS.out w' h).2.2.2.2.2.2.2.2.1, (HS.out w' h).2.2.2.2.2.2.2.2.2.2.2.1, (HS.out w' h).2.2.2.2.2.2.2.2.2.2.2.2.1⟩
                have HNK := Lib.hid hk
                clear hk
                go_upto_region 19 with (fail)
                clear z1 z2 x0 x1 x2 x3 x4 x5 x6 x7 x8 x9 x10 x11 x12 x13 x14 x15 x16 x17
                refine cv19 HS2 HNK HR hBn ?_
                intro u19 u20 u21 u22 u23 u24 u25 u26 u27 u28 u29 u30 u31 u32 u33 u34 u35 u36 u37 u38 u39 u40 u41 u42 u43 u44 u45 u46 u47 u48 u49 u50 u51 u52 u53 u54 u55 u56 u57 u58 u59 u60 u61 u62 u63 u64 u65 u66 u67 u68 u69 u70 u71 u72 u73 u74 u75 u76 u77 u78 u79 u80 u81 u82 u83 u84 u85 u86 u87 u88 u89 u90 u91 u92 u93 u94 u95 u96 u97 u98 u99 u100 u101 u102 u103 u104 u105 u106 u107 u108 u109 u110 u111 u112 u113 u114 u115 u116 u117 u118 u119 u120 u121 u122 u123 u124 u125 u126 u127 u128 u129 u130 u131 u132 u133 u134 u135 u136 u137 u138 u139 u140 u141 u142 u143 u144 u145 u146 u147 u148 u149 u150 u151 u152 u153 u154 u155 u156 wc hcut
                go_wp2_with fail
                go_meet
                exact hcut
            case rest =>
              obtain ⟨HM, hBm⟩ := hcut
              obtain ⟨r20, rfl⟩ : ∃ x : Value, x = u19 := ⟨_, rfl⟩
              obtain ⟨W7, rfl⟩ : ∃ x : World, x = wc := ⟨_, rfl⟩
              clear hBn HR x0 x1 x2 x3 x4 x5 x6 x7 x8 x9 x10 x11 x12 x13 x14 x15 x16 x17
              obtain ⟨M, hM, hMo⟩ := HM.out
              have HR := Lib.hid hMo
              have hMl : M.length ≤ 2 := by rw [hM]; split <;> simp
              have HMM := Lib.hid hM
              clear hM hMo HM
              obtain ⟨_, x0, x1, x2, x3, x4, x5, x6, x7, x8, x9, x10, x11, x12, x13, x14, x15, x16, x17⟩ := HS.out _ hBm
              go_upto_region 20 with (fail)
              have HS2 : Hid (∀ w', Below W5.heap.size W5 w' → Below W5.heap.size W5 w' ∧ w'.cell? ⟨w.heap.size, 4, none⟩ = some (.int .i64 m.fall) ∧ w'.cell? ⟨Bz, 0, none⟩ = some (.int .i64 0) ∧ w'.cell? ⟨Bz, 1, none⟩ = some (.int .i64 1) ∧ w'.cell? ⟨Bk, 0, none⟩ = some (.func (.func 46) #[] #[.pointer (some ⟨Bb, 0, none⟩)]) ∧ w'.cell? ⟨B14, 0, none⟩ = some (.int .i64 fn) ∧ w'.cell? ⟨B14, 1, none⟩ = some (.int .i64 fd) ∧ w'.cell? ⟨B17, 0, none⟩ = some (.int .i64 pn) ∧ w'.cell? ⟨B17, 1, none⟩ = some (.int .i64 pd) ∧ w'.cell? ⟨B18, 0, none⟩ = some (.int .i64 en) ∧ w'.cell? ⟨B18, 1, none⟩ = some (.int .i64 ed)) := Lib.hid fun w' h => ⟨h, (HS.out w' h).2.2.1, (HS.out w' h).2.2.2.1, (HS.out w' h).2.2.2.2.1, (HS.out w' h).2.2.2.2.2.2.1, (HS.out w' h).2.2.2.2.2.2.2.2.2.1, (HS.out w' h).2.2.2.2.2.2.2.2.2.2.1, (HS.out w' h).2.2.2.2.2.2.2.2.2.2.2.2.2.2.2.1, (HS.out w' h).2.2.2.2.2.2.2.2.2.2.2.2.2.2.2.2.1, (HS.out w' h).2.2.2.2.2.2.2.2.2.2.2.2.2.2.2.2.2.1, (HS.out w' h).2.2.2.2.2.2.2.2.2.2.2.2.2.2.2.2.2.2⟩
              refine cv20 HS2 S3 M6 hMl hNF HR hBm ?_
              intro u19 u20 u21 u22 u23 u24 u25 u26 u27 u28 u29 u30 u31 u32 u33 u34 u35 u36 u37 u38 u39 u40 u41 u42 u43 u44 u45 u46 u47 u48 u49 u50 u51 u52 u53 u54 u55 u56 u57 u58 u59 u60 u61 u62 u63 u64 u65 u66 u67 u68 u69 u70 u71 u72 u73 u74 u75 u76 u77 u78 u79 u80 u81 u82 u83 u84 u85 u86 u87 u88 u89 u90 u91 u92 u93 u94 u95 u96 u97 u98 u99 u100 u101 u102 u103 u104 u105 u106 u107 u108 u109 u110 u111 u112 u113 u114 u115 u116 u117 u118 u119 u120 u121 u122 u123 u124 u125 u126 u127 u128 u129 u130 u131 u132 u133 u134 u135 u136 u137 u138 u139 u140 u141 u142 u143 u144 u145 u146 u147 u148 u149 u150 u151 u152 u153 u154 u155 u156 wc hcut
              clear HS2
              · obtain ⟨HF, hBf⟩ := hcut
                obtain ⟨r21, rfl⟩ : ∃ x : Value, x = u19 := ⟨_, rfl⟩
                obtain ⟨W8, rfl⟩ : ∃ x : World, x = wc := ⟨_, rfl⟩
                clear x0 x1 x2 x3 x4 x5 x6 x7 x8 x9 x10 x11 x12 x13 x14 x15 x16 x17
                obtain ⟨_, x0, x1, x2, x3, x4, x5, x6, x7, x8, x9, x10, x11, x12, x13, x14, x15, x16, x17⟩ := HS.out _ hBf
                go_wp2_with fail
                go_ret2
                refine ⟨Lib.hid ⟨_, rfl, ?_⟩, W5b.trans (hBf.mono W5b.size)⟩
                have e : L = (M ++ ([⟨pn, pd, hn, hd, t, 1, mn, md⟩, ⟨en, ed, d, 1, 0, 1, 0, 1⟩] : List Pc)) := by rw [HL.out, ← HMM.out]
                rw [e]
                exact own_base HF.out W5b.size
end Go.Proofs.Ytlgpolfbilkmbaa
