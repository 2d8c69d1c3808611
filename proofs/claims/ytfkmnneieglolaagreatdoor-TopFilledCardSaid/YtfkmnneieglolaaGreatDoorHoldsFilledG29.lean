/-
  THE WALK of a loop of loadin.of, over a frame of letters.
  THE WALK of package loadin's of, at two jobs of which the first must be done first.
  THE WALK of loadin.Order, at two jobs of which the first must be done first.
  THE WALK of the law's writtenSet, and what it makes.
  THE WALKS of strings.Builder's copyCheck, WriteString, Len, String at a builder that lies in a writer of package source.
  THE CONTRACTS of the library functions of this dump (slices.Sort, Compact ..), as the kit lays them in plain words.
  THE WALK of the writer's line: words and numbers, joined, into the builder.
  HOW SLICES OF BEAMS AND OF SETS LIE IN MEMORY; slices.IndexFunc at sets, ContainsFunc at beams.
  PLAIN: houses: their beams and their sets; which houses are valid.
  THE WALK of grid.Valid.
  HOW A HOUSE LIES IN MEMORY.
  THE WALKS of house.find and house.Valid.
-/
import Derived.OneCell
import Derived.Lib.Builder
import Derived.Lib.AppendStr
import Derived.Lib.UnsafeStr
import Derived.Shelf.Strings.OnBuilder
import Derived.Shelf.Strconv.Itoa3
import Derived.Shelf.Strings.Builder1
import Derived.Shelf.Strings.Builder2
import Derived.Shelf.Strconv.Itoa0
import Derived.Shelf.Strconv.Itoa1
import Derived.Shelf.LaysM
import Derived.Shelf.Strconv.Itoa2
import Derived.Test.YtfkmnneieglolaaGreatDoorProg
import Derived.Lib.LaidTab
import Derived.Outline
import Derived.Deep.DeepCutAuto
import Derived.Test.YtfkmnneieglolaaGreatDoorHoldsFilledG28
import Derived.Test.YtfkmnneieglolaaGreatDoorMem
import Derived.Test.YtfkmnneieglolaaGreatDoorItem
import Derived.Test.YtfkmnneieglolaaGreatDoorDec
import Derived.Test.YtfkmnneieglolaaGreatDoorValid
import Derived.Test.YtfkmnneieglolaaGreatDoorSetM
import Derived.Test.YtfkmnneieglolaaGreatDoorBat3
namespace Go.Proofs.YtfkmnneieglolaaGreatDoor
open Go.RowKit Go.Shelf
attribute [local go_sem] Oper.semAt_some
set_option maxRecDepth 100000 in
set_option maxHeartbeats 16000000 in
theorem of9 {W0 wz : World} {u0 u1 u2 u3 u4 u5 u6 u7 u9 u10 u11 u12 u13 u14 u15 u16 u17 u18 u19 u20 u21 u22 u23 u24 u25 u26 u27 u28 u29 u30 u31 u32 u33 u34 u35 u36 u37 u38 u39 u40 u41 u42 u43 u44 u45 u46 u47 u48 u49 u50 u51 u52 u53 u54 u55 u56 u57 u58 u59 u60 u61 u62 u63 u64 u65 u66 u67 u68 u69 u70 u71 u72 u73 u74 u75 u76 u77 u78 u79 u80 u81 u82 u83 u84 u85 u86 u87 u88 u89 u90 u91 u92 u93 u94 u95 u96 u97 u98 u99 u100 u101 u102 u103 u104 u105 u106 u107 u108 u109 u110 u111 u112 u113 u114 u115 u116 u117 u118 u119 u120 u121 u122 u123 u124 u125 u126 u127 u128 u129 u130 u131 u132 u133 u134 u135 u136 u137 u138 u139 u140 u141 u142 u143 u144 u145 u146 u147 u148 u149 u150 u151 u152 u153 u154 u155 u156 u157 u158 u159 u160 u161 u162 u163 u164 u165 u166 u167 u168 u169 u170 u171 u172 u173 u174 u175 u176 u177 u178 u179 u180 u181 u182 u183 u184 u185 : Value} {K : Act → World → Prop} {Q0 : Exit → Act → World → Prop}
    (hB : Below W0.heap.size W0 wz) (hK : ∀ (v9 v43 v44 v45 v46 v47 v48 v49 v50 v51 v52 v53 v54 : Value) (wx : World), (∃ bl l bh br bg : Nat, v9 = .pointer (some ⟨bl, 0, none⟩) ∧ v46 = .slice (some ⟨bh, 0, none⟩) 4 4 ∧ v49 = .slice (some ⟨br, 0, none⟩) 4 4 ∧ v52 = .slice (some ⟨bg, 0, none⟩) 4 4 ∧ v54 = .pointer (some ⟨l, 0, none⟩) ∧ Hid (LatW W0.heap.size wx bl l bh br bg ∧ Four wx bh (.bool false) (.bool false) (.bool false) (.bool false) ∧ Four wx br (.bool false) (.bool false) (.bool false) (.bool false) ∧ Four wx bg (.bool false) (.bool false) (.bool false) (.bool false)) ∧ Below W0.heap.size W0 wx) → K ⟨List.toArray (u0 :: u1 :: u2 :: u3 :: u4 :: u5 :: u6 :: u7 :: .int .i64 2 :: v9 :: u10 :: u11 :: u12 :: u13 :: u14 :: u15 :: u16 :: u17 :: u18 :: u19 :: u20 :: u21 :: u22 :: u23 :: u24 :: u25 :: u26 :: u27 :: u28 :: u29 :: u30 :: u31 :: u32 :: u33 :: u34 :: u35 :: u36 :: u37 :: u38 :: u39 :: u40 :: u41 :: u42 :: v43 :: v44 :: v45 :: v46 :: v47 :: v48 :: v49 :: v50 :: v51 :: v52 :: v53 :: v54 :: u55 :: u56 :: u57 :: u58 :: u59 :: u60 :: u61 :: u62 :: u63 :: u64 :: u65 :: u66 :: u67 :: u68 :: u69 :: u70 :: u71 :: u72 :: u73 :: u74 :: u75 :: u76 :: u77 :: u78 :: u79 :: u80 :: u81 :: u82 :: u83 :: u84 :: u85 :: u86 :: u87 :: u88 :: u89 :: u90 :: u91 :: u92 :: u93 :: u94 :: u95 :: u96 :: u97 :: u98 :: u99 :: u100 :: u101 :: u102 :: u103 :: u104 :: u105 :: u106 :: u107 :: u108 :: u109 :: u110 :: u111 :: u112 :: u113 :: u114 :: u115 :: u116 :: u117 :: u118 :: u119 :: u120 :: u121 :: u122 :: u123 :: u124 :: u125 :: u126 :: u127 :: u128 :: u129 :: u130 :: u131 :: u132 :: u133 :: u134 :: u135 :: u136 :: u137 :: u138 :: u139 :: u140 :: u141 :: u142 :: u143 :: u144 :: u145 :: u146 :: u147 :: u148 :: u149 :: u150 :: u151 :: u152 :: u153 :: u154 :: u155 :: u156 :: u157 :: u158 :: u159 :: u160 :: u161 :: u162 :: u163 :: u164 :: u165 :: u166 :: u167 :: u168 :: u169 :: u170 :: u171 :: u172 :: u173 :: u174 :: u175 :: u176 :: u177 :: u178 :: u179 :: u180 :: u181 :: u182 :: u183 :: u184 :: u185 :: []), []⟩ wx) :
    Code.wp Tryz.prog (ofCode 9) (Exit.then K Q0) ⟨List.toArray (u0 :: u1 :: u2 :: u3 :: u4 :: u5 :: u6 :: u7 :: .int .i64 2 :: u9 :: u10 :: u11 :: u12 :: u13 :: u14 :: u15 :: u16 :: u17 :: u18 :: u19 :: u20 :: u21 :: u22 :: u23 :: u24 :: u25 :: u26 :: u27 :: u28 :: u29 :: u30 :: u31 :: u32 :: u33 :: u34 :: u35 :: u36 :: u37 :: u38 :: u39 :: u40 :: u41 :: u42 :: u43 :: u44 :: u45 :: u46 :: u47 :: u48 :: u49 :: u50 :: u51 :: u52 :: u53 :: u54 :: u55 :: u56 :: u57 :: u58 :: u59 :: u60 :: u61 :: u62 :: u63 :: u64 :: u65 :: u66 :: u67 :: u68 :: u69 :: u70 :: u71 :: u72 :: u73 :: u74 :: u75 :: u76 :: u77 :: u78 :: u79 :: u80 :: u81 :: u82 :: u83 :: u84 :: u85 :: u86 :: u87 :: u88 :: u89 :: u90 :: u91 :: u92 :: u93 :: u94 :: u95 :: u96 :: u97 :: u98 :: u99 :: u100 :: u101 :: u102 :: u103 :: u104 :: u105 :: u106 :: u107 :: u108 :: u109 :: u110 :: u111 :: u112 :: u113 :: u114 :: u115 :: u116 :: u117 :: u118 :: u119 :: u120 :: u121 :: u122 :: u123 :: u124 :: u125 :: u126 :: u127 :: u128 :: u129 :: u130 :: u131 :: u132 :: u133 :: u134 :: u135 :: u136 :: u137 :: u138 :: u139 :: u140 :: u141 :: u142 :: u143 :: u144 :: u145 :: u146 :: u147 :: u148 :: u149 :: u150 :: u151 :: u152 :: u153 :: u154 :: u155 :: u156 :: u157 :: u158 :: u159 :: u160 :: u161 :: u162 :: u163 :: u164 :: u165 :: u166 :: u167 :: u168 :: u169 :: u170 :: u171 :: u172 :: u173 :: u174 :: u175 :: u176 :: u177 :: u178 :: u179 :: u180 :: u181 :: u182 :: u183 :: u184 :: u185 :: []), []⟩ wz := by
  conv => arg 2; whnf
  refine wp_region_noPanic ?_
  have hmb := make_bools
  obtain ⟨-, v1, v2, v4⟩ := bitsL
  have hs0 := hB.size
  have HK := Lib.hid hK
  clear hK
  go_region
  all_goals go_wp2_with fail
  all_goals refine HK.out _ _ _ _ _ _ _ _ _ _ _ _ _ _ ⟨_, _, _, _, _, rfl, rfl, rfl, rfl, rfl, Lib.hid ⟨⟨?_, ?_, ?_, ?_, ?_, ?_, ?_, ?_⟩, ⟨?_, ?_, ?_, ?_, ?_, ?_⟩, ⟨?_, ?_, ?_, ?_, ?_, ?_⟩, ⟨?_, ?_, ?_, ?_, ?_, ?_⟩⟩, by repeat' (first | exact hB | apply belA | apply Below.drew | (refine belS ?_ ?_ _) | (simp; omega) | omega)⟩
  all_goals first | (go_simp; done) | omega | (simp; omega)
end Go.Proofs.YtfkmnneieglolaaGreatDoor
namespace Go.Proofs.YtfkmnneieglolaaGreatDoor
open Go.RowKit Go.Shelf
attribute [local go_sem] Oper.semAt_some
set_option maxRecDepth 100000 in
set_option maxHeartbeats 16000000 in
theorem of_ex (r : SetR) (b cap : Nat) (w : World) (hv : setB r = true) (hs : SetIn w r) (hbal : balanceS r = 6) (hbr : r.brake = 10) (hpu : r.purchase = 1) (hJ : Jobs w b [jA, jB]) :
    Calls Tryz.prog 31 #[SV r, .slice (some ⟨b, 0, none⟩) 2 cap] w fun e w' => Hid (∃ l bg, e = .returned (.tuple #[.pointer (some ⟨l, 0, none⟩), .int .i64 0]) ∧ l < w'.heap.size ∧ w'.cell? ⟨l, 0, none⟩ = some (.int .i64 2) ∧ w'.cell? ⟨l, 3, none⟩ = some (.slice (some ⟨bg, 0, none⟩) 4 4) ∧ Four w' bg (.bool true) (.bool true) (.bool false) (.bool true)) ∧ Below w.heap.size w w' := by
  have hb0 := below_new w (SC r)
  have HS := Lib.hid (hs.grow hb0)
  have HX : Hid (∀ wx, Below (w.alloc (SC r)).heap.size (w.alloc (SC r)) wx → Below w.heap.size w wx) := Lib.hid fun wx h => mono_in _ h
  have HX13 := Lib.hid (set13 (SetAt.new w r 26) (by simp))
  have HJ := Lib.hid (hJ.grow hb0)
  have HJF := Lib.hid (jobs_fix (hJ.grow hb0))
  have HV := Lib.hid hv
  have HBR := Lib.hid hbr
  have HBV : Hid (∀ W, Jobs W b [jA, jB] → Calls Tryz.prog 56 #[.slice (some ⟨b, 0, none⟩) 2 cap] W fun e w' => e = .returned (.bool true) ∧ Below W.heap.size W w') := Lib.hid fun W h => brakevalid_yes b [jA, jB] cap W jobs_ok h
  have HST : Hid (∀ W, SetIn W r → Calls Tryz.prog 57 #[SV r, .int .i64 0, .int .i64 0] W fun e w' => e = .returned (.tuple #[.int .i64 6, .int .i64 0]) ∧ Below W.heap.size W w') := Lib.hid fun W h => by
    have := state_any r W hv h
    rw [hbal] at this
    exact this
  have HCA : Hid (∀ W, SetIn W r → Calls Tryz.prog 58 #[SV r, .agg #[.string ⟨#[97]⟩, .bool false, .int .i64 16]] W fun e w' => e = .returned (.tuple #[.int .i64 (-16), .int .i64 0]) ∧ Below W.heap.size W w') := Lib.hid fun W h => by
    have := change_any r jA W hv ((jobs_ok.2 0 (by simp)).1) h
    rw [show changeS r jA = -16 by rfl] at this
    exact this
  have HCB : Hid (∀ W, SetIn W r → Calls Tryz.prog 58 #[SV r, .agg #[.string ⟨#[98]⟩, .bool true, .int .i64 18]] W fun e w' => e = .returned (.tuple #[.int .i64 18, .int .i64 0]) ∧ Below W.heap.size W w') := Lib.hid fun W h => by
    have := change_any r jB W hv ((jobs_ok.2 1 (by simp)).1) h
    rw [show changeS r jB = 18 by unfold changeS; rw [hpu]; rfl] at this
    exact this
  have hmi := make_ints
  obtain ⟨-, v1, v2, v4⟩ := bitsL
  clear hb0 hs hJ hv hbal hpu hbr
  go_enter Tryz.func31, Tryz.ntmps31
  go_upto_region 1 with (fail)
  generalize w.alloc (SC r) = W0 at *
  obtain ⟨Bs, hBs⟩ : ∃ b, w.heap.size = b := ⟨_, rfl⟩
  rw [hBs] at HX13 ⊢
  clear hBs
  have hB := Below.refl W0.heap.size W0
  obtain ⟨x0, x1, x2, x3, x4, x5, x6, x7, x8, x9, x10, x11, x12⟩ := HX13.out
  go_upto_region 9 with (first
    | (go_at_call 23; (with_reducible refine (batvalid_any r _ HS.out).mono ?_); rintro e wx ⟨rfl, hb⟩; rw [HV.out]; have hBn := hB.trans (hb.mono hB.size); clear hB hb; have hB := hBn; clear hBn)
    | (go_at_call 56; (with_reducible refine (HBV.out _ (HJ.out.grow hB)).mono ?_); rintro e wy ⟨rfl, hb⟩; have hBn := hB.trans (hb.mono hB.size); clear hB hb; have hB := hBn; clear hBn)
    | (go_at_call 57; (with_reducible refine (HST.out _ (HS.out.grow hB)).mono ?_); rintro e wz ⟨rfl, hb⟩; have hBn := hB.trans (hb.mono hB.size); clear hB hb; have hB := hBn; clear hBn))
  have HXB : Hid (∀ wx, Below W0.heap.size W0 wx → wx.cell? ⟨Bs, 10, none⟩ = some (.int .i64 10)) := Lib.hid (by rw [← HBR.out]; exact x10)
  clear x0 x1 x2 x3 x4 x5 x6 x7 x8 x9 x10 x11 x12
  refine of9 hB ?_
  intro v9 v43 v44 v45 v46 v47 v48 v49 v50 v51 v52 v53 v54 wc hcut
  obtain ⟨bl, l, bh, br, bg, rfl, rfl, rfl, rfl, rfl, HL0, hB1⟩ := hcut
  clear hB
  have hz := HL0.out.2.2.2.lt
  have hz1 := HL0.out.2.1.lt
  have hz2 := HL0.out.2.2.1.lt
  have hz3 := HL0.out.1.tl
  have HS0 : Hid (LSt W0 (wc.alloc (.cells #[.int .i64 6, .int .i64 0, .int .i64 0, .int .i64 0] 3)) bl l bh br bg wc.heap.size false false false false false false false false false false false false 6 0 0 0) := by
    have hb := below_new wc (.cells #[.int .i64 6, .int .i64 0, .int .i64 0, .int .i64 0] 3)
    exact Lib.hid ⟨HL0.out.1.below hb, HL0.out.2.1.below hb, HL0.out.2.2.1.below hb, HL0.out.2.2.2.below hb, ⟨by go_simp, by go_simp, by go_simp, by go_simp, by go_simp, by simp⟩, belA _ hB1, ⟨by omega, by omega, by omega, by omega, by omega⟩, hB1.size⟩
  clear HL0 hB1 hz hz1 hz2 hz3
  go_upto_region 12 with (fail)
  obtain ⟨bi, hbi⟩ : ∃ b, wc.heap.size = b := ⟨_, rfl⟩
  obtain ⟨w1, hw1⟩ : ∃ W : World, wc.alloc (.cells #[.int .i64 6, .int .i64 0, .int .i64 0, .int .i64 0] 3) = W := ⟨_, rfl⟩
  rw [hbi] at HS0 ⊢
  rw [hw1] at HS0 ⊢
  clear hbi hw1
  go_wp2_with fail
  refine of1 HS0 HX13 HJF HS HCA HCB ?_
  intro v11 v12 v13 v14 v15 v63 v64 v65 v66 v67 v68 v69 v70 v71 v72 v73 v74 v75 v76 v77 v78 v79 v80 v81 v82 v83 v84 v85 v86 v87 v88 v89 v90 v91 v92 v93 v94 v95 w2 HS2
  go_wp2_with fail
  refine of3 HS2 HXB ?_
  intro v16 v17 v98 v99 v100 v101 v102 v103 v104 v105 v106 v107 v108 v109 v110 v111 v112 v113 v114 v115 v116 v117 v118 v119 v120 w3 HS3
  obtain ⟨⟨p0, p1, p2, p3, p4, ⟨p5, p6⟩, p7, p8⟩, ⟨a0, a1, a2, a3, a4, a5⟩, ⟨b0, b1, b2, b3, b4, b5⟩, ⟨c0, c1, c2, c3, c4, c5⟩, ⟨d0, d1, d2, d3, d4, d5⟩, hB, -, -⟩ := HS3.out
  go_wp2_with fail
  clear p0 p1 p2 p3 p4 p5 p6 p7 p8 a0 a1 a2 a3 a4 a5 b0 b1 b2 b3 b4 b5 c0 c1 c2 c3 c4 c5 d0 d1 d2 d3 d4 d5 hB
  refine of4 HS3 ?_
  intro v18 v126 v127 v128 v129 v130 v131 v132 v133 v134 v135 v136 v137 v138 v139 v140 v141 v142 v143 v144 v145 v146 v147 v148 v149 v150 v151 v152 w4 HS4
  obtain ⟨⟨p0, p1, p2, p3, p4, ⟨p5, p6⟩, p7, p8⟩, ⟨a0, a1, a2, a3, a4, a5⟩, ⟨b0, b1, b2, b3, b4, b5⟩, ⟨c0, c1, c2, c3, c4, c5⟩, ⟨d0, d1, d2, d3, d4, d5⟩, hB, -, -⟩ := HS4.out
  go_upto_region 35 with (go_at_call 32; (with_reducible refine (whole_any l _ p1).mono ?_); rintro e wq ⟨rfl, hq⟩; subst hq)
  have hne := And.intro (show br ≠ w4.heap.size by have := HS4.out.fr.lt; omega) (show bg ≠ w4.heap.size by have := HS4.out.fg.lt; omega)
  have HS5 := Lib.hid (HS4.out.alloc (.cells #[.int .i64 3] 3))
  have hsc : (w4.alloc (.cells #[.int .i64 3] 3)).cell? ⟨w4.heap.size, 0, none⟩ = some (.int .i64 3) := by simp
  have hsl : w4.heap.size < (w4.alloc (.cells #[.int .i64 3] 3)).heap.size := by simp
  clear p0 p1 p2 p3 p4 p5 p6 p7 p8 a0 a1 a2 a3 a4 a5 b0 b1 b2 b3 b4 b5 c0 c1 c2 c3 c4 c5 d0 d1 d2 d3 d4 d5 hB
  clear HS4 HS3
  obtain ⟨sb, hsb⟩ : ∃ b, w4.heap.size = b := ⟨_, rfl⟩
  rw [hsb] at hsc hsl hne ⊢
  generalize w4.alloc (.cells #[.int .i64 3] 3) = w5 at *
  refine of5 HS5 (Lib.hid hsc) (Lib.hid hsl) (Lib.hid hne) ?_
  intro v19 v155 v156 v157 v158 v159 v160 v161 v162 v163 v164 v165 v166 v167 v168 v169 v170 v171 v172 v173 v174 v175 v176 v177 v178 v179 v180 v181 v182 v183 v184 w6 HS6
  clear hsb hsc hsl hne
  obtain ⟨⟨p0, p1, p2, p3, p4, ⟨p5, p6⟩, p7, p8⟩, ⟨a0, a1, a2, a3, a4, a5⟩, ⟨b0, b1, b2, b3, b4, b5⟩, ⟨c0, c1, c2, c3, c4, c5⟩, ⟨d0, d1, d2, d3, d4, d5⟩, hB, -, -⟩ := HS6.out
  go_wp2_with fail
  go_ret2
  exact ⟨Lib.hid ⟨l, bg, rfl, HS6.out.lat.tl.2, HS6.out.lat.n, HS6.out.lat.g, HS6.out.fg⟩, HX.out _ HS6.out.old⟩
end Go.Proofs.YtfkmnneieglolaaGreatDoor
namespace Go.Proofs.YtfkmnneieglolaaGreatDoor
open Go.RowKit Go.Shelf
attribute [local go_sem] Oper.semAt_some
set_option maxHeartbeats 4000000 in
theorem any_first (l g : Nat) (s : Int) (cb : Array Value) (R : World → Prop) (w : World) (h0 : w.cell? ⟨l, 0, none⟩ = some (.int .i64 2)) (eg : ∀ args w, (callFunc g args).run Tryz.prog w = .ok (.enter g args) w)
    (hg0 : Calls Tryz.prog g (#[.int .i64 0] ++ cb) w fun e w' => e = .returned (.bool true) ∧ R w') :
    Calls Tryz.prog 33 #[.pointer (some ⟨l, 0, none⟩), .int .i64 s, .func (.func g) #[] cb] w fun e w' => e = .returned (.bool true) ∧ R w' := by
  have H0 := Lib.hid hg0
  clear hg0
  go_enter Tryz.func33, Tryz.ntmps33
  go_wp2_with fail
  refine wp_loop_rounds 3 ?_
  rw [rounds_succ]
  go_wp2_with ((with_reducible refine H0.out.mono ?_); rintro e w1 ⟨rfl, hR⟩)
  go_ret
  exact ⟨rfl, hR⟩
set_option maxHeartbeats 4000000 in
theorem any_second (l g : Nat) (s : Int) (cb : Array Value) (R : World → Prop) (w : World) (h0 : w.cell? ⟨l, 0, none⟩ = some (.int .i64 2)) (eg : ∀ args w, (callFunc g args).run Tryz.prog w = .ok (.enter g args) w)
    (hg0 : Calls Tryz.prog g (#[.int .i64 0] ++ cb) w fun e w' => e = .returned (.bool false) ∧ Below w.heap.size w w') (hg1 : ∀ W, Below w.heap.size w W → Calls Tryz.prog g (#[.int .i64 1] ++ cb) W fun e w' => e = .returned (.bool true) ∧ R w') :
    Calls Tryz.prog 33 #[.pointer (some ⟨l, 0, none⟩), .int .i64 s, .func (.func g) #[] cb] w fun e w' => e = .returned (.bool true) ∧ R w' := by
  have H0 := Lib.hid hg0
  have H1 := Lib.hid hg1
  clear hg0 hg1
  go_enter Tryz.func33, Tryz.ntmps33
  go_wp2_with fail
  refine wp_loop_rounds 3 ?_
  rw [rounds_succ]
  go_wp2_with ((with_reducible refine H0.out.mono ?_); rintro e w1 ⟨rfl, hb1⟩)
  rw [rounds_succ]
  have H2 := Lib.hid (H1.out _ hb1)
  go_wp2_with ((with_reducible refine H2.out.mono ?_); rintro e w2 ⟨rfl, hR⟩)
  go_ret
  exact ⟨rfl, hR⟩
/-- What the closure of Order knows: the boxes of the state, of the lattice, and of what comes out. -/
structure OrdAt (w : World) (sb lb l bg ob : Nat) (s : Int) (v : Value) : Prop where
  hs : w.cell? ⟨sb, 0, none⟩ = some (.int .i64 s)
  hl : w.cell? ⟨lb, 0, none⟩ = some (.pointer (some ⟨l, 0, none⟩))
  hn : w.cell? ⟨l, 0, none⟩ = some (.int .i64 2)
  h3 : w.cell? ⟨l, 3, none⟩ = some (.slice (some ⟨bg, 0, none⟩) 4 4)
  hg : Four w bg (.bool true) (.bool true) (.bool false) (.bool true)
  ho : w.cell? ⟨ob, 0, none⟩ = some v
  fs : w.frozen? ⟨sb, 0, none⟩ = false
  fo : w.frozen? ⟨ob, 0, none⟩ = false
  lt : sb < w.heap.size ∧ lb < w.heap.size ∧ l < w.heap.size ∧ ob < w.heap.size
  ne : ob ≠ sb ∧ lb < ob ∧ l < ob ∧ bg < ob ∧ lb ≠ sb ∧ l ≠ sb ∧ bg ≠ sb
theorem OrdAt.below {w w' : World} {sb lb l bg ob : Nat} {s : Int} {v : Value} (h : OrdAt w sb lb l bg ob s v) (hb : Below w.heap.size w w') : OrdAt w' sb lb l bg ob s v :=
  ⟨(hb.cell (p := ⟨sb, 0, none⟩) h.lt.1).trans h.hs, (hb.cell (p := ⟨lb, 0, none⟩) h.lt.2.1).trans h.hl, (hb.cell (p := ⟨l, 0, none⟩) h.lt.2.2.1).trans h.hn, (hb.cell (p := ⟨l, 3, none⟩) h.lt.2.2.1).trans h.h3, h.hg.below hb, (hb.cell (p := ⟨ob, 0, none⟩) h.lt.2.2.2).trans h.ho,
    (hb.frozen (p := ⟨sb, 0, none⟩) h.lt.1).trans h.fs, (hb.frozen (p := ⟨ob, 0, none⟩) h.lt.2.2.2).trans h.fo, ⟨Nat.lt_of_lt_of_le h.lt.1 hb.size, Nat.lt_of_lt_of_le h.lt.2.1 hb.size, Nat.lt_of_lt_of_le h.lt.2.2.1 hb.size, Nat.lt_of_lt_of_le h.lt.2.2.2 hb.size⟩, h.ne⟩
theorem heap_new (w : World) (o : Obj) : (w.alloc o).heap[w.heap.size]? = some o := by
  show (w.heap.push o)[w.heap.size]? = some o
  simp
theorem cell_blk {w w' : World} {b : Nat} (h : w'.heap[b]? = w.heap[b]?) (j : Nat) : w'.cell? ⟨b, j, none⟩ = w.cell? ⟨b, j, none⟩ := by simp [World.cell?, h]
theorem frz_blk {w w' : World} {b : Nat} (h : w'.heap[b]? = w.heap[b]?) (j : Nat) : w'.frozen? ⟨b, j, none⟩ = w.frozen? ⟨b, j, none⟩ := by simp [World.frozen?, h]
theorem OrdAt.kept {w w' : World} {sb lb l bg ob : Nat} {s : Int} {v : Value} (h : OrdAt w sb lb l bg ob s v) (hs : w'.heap[sb]? = w.heap[sb]?) (hk : ∀ b, b ≤ ob → w'.heap[b]? = w.heap[b]?) (hz : w.heap.size ≤ w'.heap.size) : OrdAt w' sb lb l bg ob s v := by
  obtain ⟨h0, h1, h2, h3, ⟨r0, r1, r2, r3, r4, r5⟩, h5, h6, h7, h8, h9⟩ := h
  have e1 := hk lb (by omega)
  have e2 := hk l (by omega)
  have e3 := hk bg (by omega)
  have e4 := hk ob (by omega)
  exact ⟨(cell_blk hs 0).trans h0, (cell_blk e1 0).trans h1, (cell_blk e2 0).trans h2, (cell_blk e2 3).trans h3, ⟨(cell_blk e3 0).trans r0, (cell_blk e3 1).trans r1, (cell_blk e3 2).trans r2, (cell_blk e3 3).trans r3, fun j => (frz_blk e3 j).trans (r4 j), by omega⟩, (cell_blk e4 0).trans h5, (frz_blk hs 0).trans h6, (frz_blk e4 0).trans h7, by omega, h9⟩
theorem OrdAt.setO {w : World} {sb lb l bg ob : Nat} {s : Int} {v : Value} (h : OrdAt w sb lb l bg ob s v) (u : Value) : OrdAt (w.setCell ⟨ob, 0, none⟩ u) sb lb l bg ob s u := by
  obtain ⟨h0, h1, h2, h3, h4, h5, h6, h7, h8, h9⟩ := h
  have k : ∀ b j, b ≠ ob → (w.setCell ⟨ob, 0, none⟩ u).cell? ⟨b, j, none⟩ = w.cell? ⟨b, j, none⟩ := fun _ _ e => World.cell?_setCell_far _ _ _ _ (fun z => e z.symm)
  exact ⟨(k _ _ h9.1.symm).trans h0, (k _ _ (by omega)).trans h1, (k _ _ (by omega)).trans h2, (k _ _ (by omega)).trans h3, h4.far (by omega) _ _, World.cell?_setCell_same _ _ _ h5, (World.frozen?_setCell _ _ _ _).trans h6, (World.frozen?_setCell _ _ _ _).trans h7, by simpa using h8, h9⟩
theorem OrdAt.setS {w : World} {sb lb l bg ob : Nat} {s : Int} {v : Value} (h : OrdAt w sb lb l bg ob s v) (t : Int) : OrdAt (w.setCell ⟨sb, 0, none⟩ (.int .i64 t)) sb lb l bg ob t v := by
  obtain ⟨h0, h1, h2, h3, h4, h5, h6, h7, h8, h9⟩ := h
  have k : ∀ b j, b ≠ sb → (w.setCell ⟨sb, 0, none⟩ (.int .i64 t)).cell? ⟨b, j, none⟩ = w.cell? ⟨b, j, none⟩ := fun _ _ e => World.cell?_setCell_far _ _ _ _ (fun z => e z.symm)
  exact ⟨World.cell?_setCell_same _ _ _ h0, (k _ _ h9.2.2.2.2.1).trans h1, (k _ _ h9.2.2.2.2.2.1).trans h2, (k _ _ h9.2.2.2.2.2.1).trans h3, h4.far h9.2.2.2.2.2.2 _ _, (k _ _ h9.1).trans h5, (World.frozen?_setCell _ _ _ _).trans h6, (World.frozen?_setCell _ _ _ _).trans h7, by simpa using h8, h9⟩
set_option maxRecDepth 100000 in
set_option maxHeartbeats 4000000 in
theorem oc_no (sb lb l bg ob : Nat) (v : Value) (w : World) (h : OrdAt w sb lb l bg ob 1 v) :
    Calls Tryz.prog 34 #[.int .i64 0, .pointer (some ⟨sb, 0, none⟩), .pointer (some ⟨lb, 0, none⟩), .pointer (some ⟨ob, 0, none⟩)] w fun e w' => e = .returned (.bool false) ∧ Below w.heap.size w w' := by
  obtain ⟨h0, h1, h2, h3, ⟨r0, r1, r2, r3, r4, r5⟩, h5, h6, h7, h8, h9⟩ := h
  obtain ⟨⟨b0, b1, b2, b3, b4, b5, b6, b7, b8, b9⟩, v1, v2, v4⟩ := bitsL
  go_enter Tryz.func34, Tryz.ntmps34
  go_wp2_with fail
  go_quiet (fail)
  go_wp2_with fail
  go_ret
  exact ⟨rfl, below_drewN (Below.refl _ _) _⟩
theorem slice_of_row {w : World} {n₀ : Nat} {v : Value} {O : List Int} (h : w.ownsRow n₀ 3 1 v O.length (nflat O)) : ∃ a n c, v = .slice a n c := by
  obtain ⟨a, c, e, _⟩ := num_of_row h
  exact ⟨a, _, c, e⟩
/-- A row of the call's own does not lie in the state's box. -/
theorem row_sep {w : World} {n₀ sb : Nat} {s : Int} {v : Value} {O : List Int} (h : w.ownsRow n₀ 3 1 v O.length (nflat O)) (hs : sb < n₀ ∨ (2 ≤ O.length ∧ ∃ m, w.heap[sb]? = some (.cells #[.int .i64 s] 3 m))) : v.ownBlock ≠ some sb := by
  intro e
  rcases hs with hs | ⟨hl, m, hm⟩
  · have := (h.lt sb e).1
    omega
  · rcases h.2 with ⟨rfl, _⟩ | ⟨g, cap, cur, rfl, _, hg, h1, _, h3, _⟩
    · cases e
    · cases e
      rw [hg] at hm
      simp only [Option.some.injEq, Obj.cells.injEq] at hm
      rw [hm.1] at h3
      simp at h3
      omega
set_option maxRecDepth 100000 in
set_option maxHeartbeats 8000000 in
theorem oc_go (i s t : Int) (O : List Int) (n₀ sb lb l bg ob : Nat) (v : Value) (w : World) (h : OrdAt w sb lb l bg ob s v) (hv : w.ownsRow n₀ 3 1 v O.length (nflat O)) (hn : n₀ ≤ w.heap.size) (hob : ob < n₀) (hos : ob ≤ sb) (hsv : v.ownBlock ≠ some sb) (hO : O.length ≤ 2)
    (hsep : sb < n₀ ∨ (1 ≤ O.length ∧ ∃ m, w.heap[sb]? = some (.cells #[.int .i64 s] 3 m))) (hi : (i = 0 ∧ s = 0 ∧ t = 1) ∨ (i = 1 ∧ s = 1 ∧ t = 3)) :
    Calls Tryz.prog 34 #[.int .i64 i, .pointer (some ⟨sb, 0, none⟩), .pointer (some ⟨lb, 0, none⟩), .pointer (some ⟨ob, 0, none⟩)] w fun e w' => e = .returned (.bool true) ∧ Hid (∃ v', OrdAt w' sb lb l bg ob t v' ∧ w'.ownsRow n₀ 3 1 v' (O ++ [i]).length (nflat (O ++ [i])) ∧ Below ob w w' ∧ n₀ ≤ w'.heap.size) := by
  have HSEP := Lib.hid hsep
  have HH := Lib.hid h
  have HSV := Lib.hid hsv
  obtain ⟨h0, h1, h2, h3, ⟨r0, r1, r2, r3, r4, r5⟩, h5, h6, h7, h8, h9⟩ := h
  obtain ⟨⟨b0, b1, b2, b3, b4, b5, b6, b7, b8, b9⟩, v1, v2, v4⟩ := bitsL
  have HV := Lib.hid hv
  clear hv h8 h9 hsep hsv
  rcases hi with ⟨rfl, rfl, rfl⟩ | ⟨rfl, rfl, rfl⟩
  all_goals go_enter Tryz.func34, Tryz.ntmps34
  all_goals go_wp2_with fail
  all_goals go_quiet (fail)
  all_goals clear h0 h1 h2 h3 r0 r1 r2 r3 r4 r5 h5 h6 h7
  all_goals have hb1 := below_drewN (Below.refl w.heap.size w) nq
  all_goals replace HH := Lib.hid (HH.out.below hb1)
  all_goals replace HV := Lib.hid (ownsRow_below HV.out hb1)
  all_goals replace hn : n₀ ≤ (w.drewN nq).heap.size := hn
  all_goals have HB1 := Lib.hid hb1
  all_goals replace HSEP := Lib.hid (show sb < n₀ ∨ (1 ≤ O.length ∧ ∃ m, (w.drewN nq).heap[sb]? = some (.cells #[.int .i64 _] 3 m)) from HSEP.out)
  all_goals have HBW : Hid (∀ w', Below ob (w.drewN nq) w' → Below ob w w') := Lib.hid fun w' z => (HB1.out.mono (by have := HH.out.lt; exact Nat.le_of_lt this.2.2.2)).trans z
  all_goals clear hb1 HB1
  all_goals generalize w.drewN nq = w1 at *
  all_goals obtain ⟨h0, -, -, -, -, h5, h6, h7, h8, h9⟩ := HH.out
  · go_upto_region 4 with (at_builtin; refine num_append rfl _ _ rfl n₀ _ O rfl (HV.out.alloc _) _ 0 rfl (by simp) (by omega) (by simp; omega) ?_; intro v6 w6 hown6 hg6; have ha := HH.out.below (below_new w1 (.cells #[.int .i64 0] 3)); have HH6 := Lib.hid (ha.kept (hg6.block sb ha.lt.1 (fun e => HSV.out e.symm)) (fun b hb => hg6.block b (Nat.lt_of_le_of_lt hb ha.lt.2.2.2) (fun e => absurd (HV.out.lt b e.symm).1 (by omega))) hg6.size); have HR6 := Lib.hid hown6; have HB6 : Hid (Below ob w1 w6) := Lib.hid (((Below.refl ob w1).alloc (by omega) (.cells #[.int .i64 0] 3)).grown hg6 (by simp; omega) (fun g e => by have := (HV.out.lt g e).1; omega)); have HZ6 : Hid (n₀ ≤ w6.heap.size) := Lib.hid (by have := hg6.size; simp at this; omega); have HS6 : Hid (sb < n₀ ∨ (2 ≤ (O ++ [(0 : Int)]).length ∧ ∃ m, w6.heap[sb]? = some (.cells #[.int .i64 0] 3 m))) := Lib.hid (HSEP.out.imp id (fun ⟨q1, m, q2⟩ => ⟨by simp; omega, m, (hg6.block sb ha.lt.1 (fun e => HSV.out e.symm)).trans (((below_new w1 (.cells #[.int .i64 0] 3)).block sb HH.out.lt.1).trans q2)⟩)); have k5 := HH6.out.ho; have k7 := HH6.out.fo; clear ha hown6 hg6; obtain ⟨va, vn, vc, hva⟩ := slice_of_row HR6.out; subst hva)
    have HV7 := Lib.hid (row_sep HR6.out HS6.out)
    have HH7 := Lib.hid (HH6.out.setO (.slice va vn vc))
    have HR7 := Lib.hid (ownsRow_setCell_below HR6.out (a := ⟨ob, 0, none⟩) hob (.slice va vn vc))
    have HB7 := Lib.hid (HB6.out.setCell (p := ⟨ob, 0, none⟩) (Nat.le_refl _) (.slice va vn vc))
    have HZ7 : Hid (n₀ ≤ (w6.setCell ⟨ob, 0, none⟩ (.slice va vn vc)).heap.size) := Lib.hid (by have := HZ6.out; simpa using this)
    clear h0 h5 h6 h7 h8 h9 k5 k7 HH6 HR6 HB6 HZ6 HS6 HH HV HSV HSEP
    generalize w6.setCell ⟨ob, 0, none⟩ (.slice va vn vc) = w7 at *
    obtain ⟨h0, -, -, -, -, h5, h6, h7, h8, h9⟩ := HH7.out
    go_region
    go_wp2_with fail
    go_ret
    refine ⟨rfl, Lib.hid ⟨.slice va vn vc, (HH7.out.setS 1).below (Below.refl _ _).drew, ownsRow_below (ownsRow_setCell_other HR7.out (a := ⟨sb, 0, none⟩) HV7.out _) (Below.refl _ _).drew, HBW.out _ ((HB7.out.setCell (p := ⟨sb, 0, none⟩) hos _).trans (Below.refl _ _).drew), by simpa using HZ7.out⟩⟩
  · go_upto_region 4 with (at_builtin; refine num_append rfl _ _ rfl n₀ _ O rfl (HV.out.alloc _) _ 1 rfl (by simp) (by omega) (by simp; omega) ?_; intro v6 w6 hown6 hg6; have ha := HH.out.below (below_new w1 (.cells #[.int .i64 1] 3)); have HH6 := Lib.hid (ha.kept (hg6.block sb ha.lt.1 (fun e => HSV.out e.symm)) (fun b hb => hg6.block b (Nat.lt_of_le_of_lt hb ha.lt.2.2.2) (fun e => absurd (HV.out.lt b e.symm).1 (by omega))) hg6.size); have HR6 := Lib.hid hown6; have HB6 : Hid (Below ob w1 w6) := Lib.hid (((Below.refl ob w1).alloc (by omega) (.cells #[.int .i64 1] 3)).grown hg6 (by simp; omega) (fun g e => by have := (HV.out.lt g e).1; omega)); have HZ6 : Hid (n₀ ≤ w6.heap.size) := Lib.hid (by have := hg6.size; simp at this; omega); have HS6 : Hid (sb < n₀ ∨ (2 ≤ (O ++ [(1 : Int)]).length ∧ ∃ m, w6.heap[sb]? = some (.cells #[.int .i64 1] 3 m))) := Lib.hid (HSEP.out.imp id (fun ⟨q1, m, q2⟩ => ⟨by simp; omega, m, (hg6.block sb ha.lt.1 (fun e => HSV.out e.symm)).trans (((below_new w1 (.cells #[.int .i64 1] 3)).block sb HH.out.lt.1).trans q2)⟩)); have k5 := HH6.out.ho; have k7 := HH6.out.fo; clear ha hown6 hg6; obtain ⟨va, vn, vc, hva⟩ := slice_of_row HR6.out; subst hva)
    have HV7 := Lib.hid (row_sep HR6.out HS6.out)
    have HH7 := Lib.hid (HH6.out.setO (.slice va vn vc))
    have HR7 := Lib.hid (ownsRow_setCell_below HR6.out (a := ⟨ob, 0, none⟩) hob (.slice va vn vc))
    have HB7 := Lib.hid (HB6.out.setCell (p := ⟨ob, 0, none⟩) (Nat.le_refl _) (.slice va vn vc))
    have HZ7 : Hid (n₀ ≤ (w6.setCell ⟨ob, 0, none⟩ (.slice va vn vc)).heap.size) := Lib.hid (by have := HZ6.out; simpa using this)
    clear h0 h5 h6 h7 h8 h9 k5 k7 HH6 HR6 HB6 HZ6 HS6 HH HV HSV HSEP
    generalize w6.setCell ⟨ob, 0, none⟩ (.slice va vn vc) = w7 at *
    obtain ⟨h0, -, -, -, -, h5, h6, h7, h8, h9⟩ := HH7.out
    go_region
    go_wp2_with fail
    go_ret
    refine ⟨rfl, Lib.hid ⟨.slice va vn vc, (HH7.out.setS 3).below (Below.refl _ _).drew, ownsRow_below (ownsRow_setCell_other HR7.out (a := ⟨sb, 0, none⟩) HV7.out _) (Below.refl _ _).drew, HBW.out _ ((HB7.out.setCell (p := ⟨sb, 0, none⟩) hos _).trans (Below.refl _ _).drew), by simpa using HZ7.out⟩⟩
theorem ent_oc (args : Array Value) (w : World) : (callFunc 34 args).run Tryz.prog w = .ok (.enter 34 args) w := enters_of Tryz.func34 (by kernel_rfl) rfl args w
set_option maxRecDepth 100000 in
set_option maxHeartbeats 8000000 in
theorem order_ex (r : SetR) (b cap : Nat) (w : World) (hv : setB r = true) (hs : SetIn w r) (hbal : balanceS r = 6) (hbr : r.brake = 10) (hpu : r.purchase = 1) (hJ : Jobs w b [jA, jB]) :
    Calls Tryz.prog 14 #[SV r, .slice (some ⟨b, 0, none⟩) 2 cap] w fun e w' => Hid (∃ a c, e = .returned (.tuple #[.slice a 2 c, .int .i64 0]) ∧ Nums w'.heap.size w' a [0, 1]) ∧ Below w.heap.size w w' := by
  have hb0 := below_new w (SC r)
  have HX : Hid (∀ wx, Below (w.alloc (SC r)).heap.size (w.alloc (SC r)) wx → Below w.heap.size w wx) := Lib.hid fun wx h => mono_in _ h
  have HX13 := Lib.hid (set13 (SetAt.new w r 26) (by simp))
  have HOF := Lib.hid (of_ex r b cap (w.alloc (SC r)) hv (hs.grow hb0) hbal hbr hpu (hJ.grow hb0))
  clear hb0 hs hJ hv hbal hpu hbr
  go_enter Tryz.func14, Tryz.ntmps14
  go_upto_region 1 with (fail)
  generalize w.alloc (SC r) = W0 at *
  have hB := Below.refl W0.heap.size W0
  obtain ⟨x0, x1, x2, x3, x4, x5, x6, x7, x8, x9, x10, x11, x12⟩ := HX13.out
  go_upto_region 4 with (go_at_call 31; (with_reducible refine HOF.out.mono ?_); rintro e w1 ⟨he, hb⟩; obtain ⟨l, bg, rfl, hl, hl0, hl3, hG⟩ := he.out; have HB1 := Lib.hid hb; clear he hB)
  have hgl := hG.lt
  have hg0 := hG.c0
  go_wp2_with fail
  have HO0 : Hid (OrdAt (((w1.alloc (.cells #[.pointer (some ⟨l, 0, none⟩)] 73)).alloc (.cells #[.slice none 0 0] 22)).alloc (.cells #[.int .i64 0] 3)) (w1.heap.size + 1 + 1) w1.heap.size l bg (w1.heap.size + 1) 0 (.slice none 0 0)) := by
    have hbb : Below w1.heap.size w1 (((w1.alloc (.cells #[.pointer (some ⟨l, 0, none⟩)] 73)).alloc (.cells #[.slice none 0 0] 22)).alloc (.cells #[.int .i64 0] 3)) := ((below_new w1 _).alloc (by simp) _).alloc (by simp; omega) _
    exact Lib.hid ⟨by go_simp, by go_simp, (hbb.cell (p := ⟨l, 0, none⟩) hl).trans hl0, (hbb.cell (p := ⟨l, 3, none⟩) hl).trans hl3, hG.below hbb, by go_simp, by go_simp, by go_simp, by simp; omega, by omega⟩
  have HB2 : Hid (Below W0.heap.size W0 (((w1.alloc (.cells #[.pointer (some ⟨l, 0, none⟩)] 73)).alloc (.cells #[.slice none 0 0] 22)).alloc (.cells #[.int .i64 0] 3))) := Lib.hid (belA _ (belA _ (belA _ HB1.out)))
  have HLO : Hid (W0.heap.size ≤ w1.heap.size + 1) := Lib.hid (by have := HB1.out.size; omega)
  have HW2 : Hid ((((w1.alloc (.cells #[.pointer (some ⟨l, 0, none⟩)] 73)).alloc (.cells #[.slice none 0 0] 22)).alloc (.cells #[.int .i64 0] 3)).heap.size = w1.heap.size + 1 + 1 + 1) := Lib.hid (by simp)
  clear hl hl0 hl3 hG hgl hg0 HB1 hb
  obtain ⟨ob, hob⟩ : ∃ b, w1.heap.size + 1 = b := ⟨_, rfl⟩
  obtain ⟨sb, hsb⟩ : ∃ b, ob + 1 = b := ⟨_, rfl⟩
  obtain ⟨lb, hlb⟩ : ∃ b, w1.heap.size = b := ⟨_, rfl⟩
  simp only [hob, hsb] at HO0 HLO HW2 ⊢
  simp only [hlb] at HO0 ⊢
  have HE : Hid (ob < sb) := Lib.hid (by omega)
  generalize ((w1.alloc (.cells #[.pointer (some ⟨l, 0, none⟩)] 73)).alloc (.cells #[.slice none 0 0] 22)).alloc (.cells #[.int .i64 0] 3) = w2 at *
  clear hob hsb hlb
  refine wp_loop_rounds 3 ?_
  rw [rounds_succ]
  obtain ⟨h0, h1, h2, h3, -, h5, h6, h7, h8, -⟩ := HO0.out
  go_wp2_with fail
  have HWH : Hid (∀ n, Calls Tryz.prog 32 #[.pointer (some ⟨l, 0, none⟩)] (w2.drewN n) fun e w' => e = .returned (.int .i64 3) ∧ w2.drewN n = w') := Lib.hid fun n => whole_any l (w2.drewN n) h2
  go_quiet ((go_at_call 32; refine Calls.quiet_of_same (v := .int .i64 3) ((HWH.out _).mono fun e w' h => ⟨h.1, h.2.symm⟩)))
  obtain ⟨wa, hwa⟩ : ∃ W, w2.drewN nq = W := ⟨_, rfl⟩
  have hbq := below_drewN (Below.refl w2.heap.size w2) nq
  rw [hwa] at hbq ⊢
  have HO1 := Lib.hid (HO0.out.below hbq)
  have HB3 := Lib.hid (HB2.out.trans (hbq.mono HB2.out.size))
  have HSA : Hid (sb < wa.heap.size ∧ ob < wa.heap.size) := Lib.hid ⟨HO1.out.lt.1, HO1.out.lt.2.2.2⟩
  clear h0 h1 h2 h3 h5 h6 h7 h8 hwa hbq HWH
  obtain ⟨n₀, hn0⟩ : ∃ n, wa.heap.size = n := ⟨_, rfl⟩
  have HN0 := Lib.hid hn0
  have HC1 : Hid (Calls Tryz.prog 34 #[.int .i64 0, .pointer (some ⟨sb, 0, none⟩), .pointer (some ⟨lb, 0, none⟩), .pointer (some ⟨ob, 0, none⟩)] wa fun e w' => e = .returned (.bool true) ∧ Hid (∃ v', OrdAt w' sb lb l bg ob 1 v' ∧ w'.ownsRow n₀ 3 1 v' 1 (nflat [0]) ∧ Below ob wa w' ∧ n₀ ≤ w'.heap.size)) := Lib.hid
    (oc_go 0 0 1 [] n₀ sb lb l bg ob (.slice none 0 0) wa HO1.out (World.ownsRow_nil _ _ _ _) (by omega) (by have := HSA.out.2; omega) (Nat.le_of_lt HE.out) (by simp [Value.ownBlock]) (by simp) (.inl (by have := HSA.out.1; omega)) (.inl ⟨rfl, rfl, rfl⟩))
  have hn1 := HO1.out.hn
  clear hn0
  obtain ⟨h0, h1, h2, h3, -, h5, h6, h7, h8, -⟩ := HO1.out
  go_wp2_with (go_at_call 33; (with_reducible refine (any_first l _ 0 _ _ wa hn1 ent_oc HC1.out).mono ?_); rintro e w3 ⟨rfl, hR⟩; obtain ⟨v3, hO3, hR3, hB3, hz3⟩ := hR.out; have HO3 := Lib.hid hO3; have HR3 := Lib.hid hR3; have HQ3 := Lib.hid hB3; have HZ3 := Lib.hid hz3; have k0 := hO3.hs; clear hR hO3 hR3 hB3 hz3)
  have HO4 : Hid (OrdAt (w3.alloc (.cells #[.int .i64 1] 3)) w3.heap.size lb l bg ob 1 v3) := by
    have hb := below_new w3 (.cells #[.int .i64 1] 3)
    have h := HO3.out.below hb
    have hg := HO3.out.hg.lt
    have hl := HO3.out.lt
    exact Lib.hid ⟨by simp, h.hl, h.hn, h.h3, h.hg, h.ho, by simp, h.fo, ⟨by simp, h.lt.2.1, h.lt.2.2.1, h.lt.2.2.2⟩, by have := HO3.out.ne; omega⟩
  have HR4 := Lib.hid (ownsRow_below HR3.out (below_new w3 (.cells #[.int .i64 1] 3)))
  have HSV : Hid (v3.ownBlock ≠ some w3.heap.size) := Lib.hid fun e => absurd (HR3.out.lt _ e).2 (Nat.lt_irrefl _)
  have HHB : Hid ((w3.alloc (.cells #[.int .i64 1] 3)).heap[w3.heap.size]? = some (.cells #[.int .i64 1] 3 (0, 0))) := Lib.hid (heap_new w3 _)
  have HB4 : Hid (∀ w', Below ob (w3.alloc (.cells #[.int .i64 1] 3)) w' → Below W0.heap.size W0 w') := Lib.hid fun w' z => HB3.out.trans (((HQ3.out.trans ((below_new w3 _).mono (by have := HO3.out.lt; omega))).trans z).mono HLO.out)
  have HZ4 : Hid (n₀ ≤ (w3.alloc (.cells #[.int .i64 1] 3)).heap.size ∧ ob ≤ w3.heap.size) := Lib.hid ⟨Nat.le_trans HZ3.out (below_new w3 _).size, by have := HO3.out.lt; omega⟩
  have HON : Hid (ob < n₀) := Lib.hid (by have := HSA.out.2; have := HN0.out; omega)
  clear h0 h1 h2 h3 h5 h6 h7 h8 HO0 HO1 HO3 HR3 HC1 HB2 HB3 HQ3 HZ3 k0 hn1 HSA HN0 HW2 HE
  obtain ⟨sc, hsc⟩ : ∃ b, w3.heap.size = b := ⟨_, rfl⟩
  rw [hsc] at HO4 HSV HHB HZ4 ⊢
  generalize w3.alloc (.cells #[.int .i64 1] 3) = w4 at *
  clear hsc
  rw [rounds_succ]
  obtain ⟨h0, h1, h2, h3, -, h5, h6, h7, h8, -⟩ := HO4.out
  go_wp2_with fail
  have HWI : Hid (∀ n, Calls Tryz.prog 32 #[.pointer (some ⟨l, 0, none⟩)] (w4.drewN n) fun e w' => e = .returned (.int .i64 3) ∧ w4.drewN n = w') := Lib.hid fun n => whole_any l (w4.drewN n) h2
  go_quiet ((go_at_call 32; refine Calls.quiet_of_same (v := .int .i64 3) ((HWI.out _).mono fun e w' h => ⟨h.1, h.2.symm⟩)))
  obtain ⟨wb, hwb⟩ : ∃ W, w4.drewN nq = W := ⟨_, rfl⟩
  have hbq := below_drewN (Below.refl w4.heap.size w4) nq
  rw [hwb] at hbq ⊢
  have HO5 := Lib.hid (HO4.out.below hbq)
  have HR5 := Lib.hid (ownsRow_below HR4.out hbq)
  have HH5 : Hid (wb.heap[sc]? = some (.cells #[.int .i64 1] 3 (0, 0))) := Lib.hid ((hbq.block sc HO4.out.lt.1).trans HHB.out)
  have HB5 : Hid (∀ w', Below ob wb w' → Below W0.heap.size W0 w') := Lib.hid fun w' z => HB4.out w' ((hbq.mono (by have := HO4.out.lt; omega)).trans z)
  have HZ5 : Hid (n₀ ≤ wb.heap.size) := Lib.hid (Nat.le_trans HZ4.out.1 hbq.size)
  have HOS : Hid (ob ≤ sc) := Lib.hid HZ4.out.2
  clear h0 h1 h2 h3 h5 h6 h7 h8 hwb HWI hbq HO4 HR4 HHB HB4 HZ4
  have HC2 : Hid (∀ W, Below wb.heap.size wb W → Calls Tryz.prog 34 #[.int .i64 1, .pointer (some ⟨sc, 0, none⟩), .pointer (some ⟨lb, 0, none⟩), .pointer (some ⟨ob, 0, none⟩)] W fun e w' => e = .returned (.bool true) ∧ Hid (∃ v', OrdAt w' sc lb l bg ob 3 v' ∧ w'.ownsRow n₀ 3 1 v' 2 (nflat [0, 1]) ∧ Below ob wb w')) := Lib.hid fun W hb => by
    have hlt := HO5.out.lt
    refine (oc_go 1 1 3 [0] n₀ sc lb l bg ob v3 W (HO5.out.below hb) (ownsRow_below HR5.out hb) (Nat.le_trans HZ5.out hb.size) HON.out HOS.out HSV.out (by simp) (.inr ⟨by simp, (0, 0), (hb.block sc hlt.1).trans HH5.out⟩) (.inr ⟨rfl, rfl, rfl⟩)).mono ?_
    rintro e w' ⟨he, h⟩
    obtain ⟨v', q1, q2, q3, _⟩ := h.out
    exact ⟨he, Lib.hid ⟨v', q1, q2, (hb.mono (by omega)).trans q3⟩⟩
  have HC1 := Lib.hid (oc_no sc lb l bg ob v3 wb HO5.out)
  have hn1 := HO5.out.hn
  obtain ⟨h0, h1, h2, h3, -, h5, h6, h7, h8, -⟩ := HO5.out
  go_wp2_with (go_at_call 33; (with_reducible refine (any_second l _ 1 _ _ wb hn1 ent_oc HC1.out HC2.out).mono ?_); rintro e w6 ⟨rfl, hR⟩; obtain ⟨v6, hO6, hR6, hB6⟩ := hR.out; have HO6 := Lib.hid hO6; have HR6 := Lib.hid hR6; have HQ6 := Lib.hid hB6; have k0 := hO6.hs; clear hR hO6 hR6 hB6)
  have HO7 : Hid (OrdAt (w6.alloc (.cells #[.int .i64 3] 3)) w6.heap.size lb l bg ob 3 v6) := by
    have hb := below_new w6 (.cells #[.int .i64 3] 3)
    have h := HO6.out.below hb
    have hg := HO6.out.hg.lt
    have hl := HO6.out.lt
    exact Lib.hid ⟨by simp, h.hl, h.hn, h.h3, h.hg, h.ho, by simp, h.fo, ⟨by simp, h.lt.2.1, h.lt.2.2.1, h.lt.2.2.2⟩, by have := HO6.out.ne; omega⟩
  have HR7 := Lib.hid (ownsRow_below HR6.out (below_new w6 (.cells #[.int .i64 3] 3)))
  have HB7 : Hid (Below W0.heap.size W0 (w6.alloc (.cells #[.int .i64 3] 3))) := Lib.hid (HB5.out _ (HQ6.out.trans ((below_new w6 _).mono (by have := HO6.out.lt; omega))))
  clear h0 h1 h2 h3 h5 h6 h7 h8 k0 hn1 HC1 HC2 HO5 HR5 HH5 HB5 HZ5 HSV HO6 HR6 HQ6 HOS HON
  obtain ⟨sd, hsd⟩ : ∃ b, w6.heap.size = b := ⟨_, rfl⟩
  rw [hsd] at HO7 ⊢
  generalize w6.alloc (.cells #[.int .i64 3] 3) = w7 at *
  clear hsd
  rw [rounds_succ]
  obtain ⟨h0, h1, h2, h3, -, h5, h6, h7, h8, -⟩ := HO7.out
  go_wp2_with fail
  have HWJ : Hid (∀ n, Calls Tryz.prog 32 #[.pointer (some ⟨l, 0, none⟩)] (w7.drewN n) fun e w' => e = .returned (.int .i64 3) ∧ w7.drewN n = w') := Lib.hid fun n => whole_any l (w7.drewN n) h2
  go_quiet ((go_at_call 32; refine Calls.quiet_of_same (v := .int .i64 3) ((HWJ.out _).mono fun e w' h => ⟨h.1, h.2.symm⟩)))
  have hbq := below_drewN (Below.refl w7.heap.size w7) nq
  have k5 := (hbq.cell (p := ⟨ob, 0, none⟩) h8.2.2.2).trans h5
  obtain ⟨va, vc, hva, -, -, -, hN⟩ := num_of_row (L := [0, 1]) HR7.out
  subst hva
  have HNN := Lib.hid (hN.grow hbq)
  have HBF := Lib.hid (HB7.out.trans (hbq.mono HB7.out.size))
  clear hN hbq
  go_wp2_with fail
  go_ret2
  exact ⟨Lib.hid ⟨va, vc, rfl, HNN.out⟩, HX.out _ HBF.out⟩
end Go.Proofs.YtfkmnneieglolaaGreatDoor
namespace Go.Proofs.YtfkmnneieglolaaGreatDoor
open Go.RowKit Go.Shelf
attribute [local go_sem] Oper.semAt_some
def rW (la ba : Option Addr) : SetR := ⟨⟨#[115]⟩, 0, 0, 8000, 1000, la, [0, 1000], 2, 60, 40, 1, 100, 10, none, [], 0, ba, [⟨⟨#[98]⟩, 7, 2⟩], 1⟩
theorem rW_ok (la ba : Option Addr) : setB (rW la ba) = true := by
  have h : setB (rW none none) = true := by decide +kernel
  exact h
theorem rW_bal (la ba : Option Addr) : balanceS (rW la ba) = 6 := by
  have h : balanceS (rW none none) = 6 := by decide +kernel
  exact h
theorem rW_in (w : World) (b1 b2 : Nat) (l1 : b1 < w.heap.size) (l2 : b2 < w.heap.size) (c0 : w.cell? ⟨b1, 0, none⟩ = some (.int .i64 0)) (c1 : w.cell? ⟨b1, 1, none⟩ = some (.int .i64 1000))
    (d0 : w.cell? ⟨b2, 0, none⟩ = some (.string ⟨#[98]⟩)) (d1 : w.cell? ⟨b2, 1, none⟩ = some (.int .i64 7)) (d2 : w.cell? ⟨b2, 2, none⟩ = some (.int .i64 2)) : SetIn w (rW (some ⟨b1, 0, none⟩) (some ⟨b2, 0, none⟩)) := by
  refine ⟨⟨fun _ => ⟨b1, 0, rfl, l1, fun i hi => ?_⟩, Items.nil, fun _ => ⟨b2, 0, rfl, l2, fun i hi => ?_⟩, by show 2 ≤ 2; decide, by show 0 ≤ 0; decide, by show 1 ≤ 1; decide, (fun e => by cases e), fun _ => rfl, (fun e => by cases e)⟩, fun x hx => absurd hx (by simp [rW]), fun x hx => ?_⟩
  · rcases (show i = 0 ∨ i = 1 from by have : i < 2 := hi; omega) with rfl | rfl
    · exact c0
    · exact c1
  · obtain rfl : i = 0 := Nat.lt_one_iff.1 hi
    exact ⟨d0, d1, d2⟩
  · have : x = ⟨⟨#[98]⟩, 7, 2⟩ := by simpa [rW] using hx
    subst this
    decide
set_option maxRecDepth 100000 in
set_option maxHeartbeats 8000000 in
theorem written_any (w : World) : Calls Tryz.prog 13 #[] w fun e w' => Hid (∃ la ba, e = .returned (SV (rW la ba)) ∧ SetIn w' (rW la ba)) ∧ Below w.heap.size w w' := by
  go_enter Tryz.func13, Tryz.ntmps13
  go_wp2_with fail
  have h0 := SetAt.new w (rW (some ⟨w.heap.size + 1, 0, none⟩) (some ⟨w.heap.size + 1 + 1, 0, none⟩)) 26
  have hb : Below (w.alloc (SC (rW (some ⟨w.heap.size + 1, 0, none⟩) (some ⟨w.heap.size + 1 + 1, 0, none⟩)))).heap.size (w.alloc (SC (rW (some ⟨w.heap.size + 1, 0, none⟩) (some ⟨w.heap.size + 1 + 1, 0, none⟩)))) (((w.alloc (SC (rW (some ⟨w.heap.size + 1, 0, none⟩) (some ⟨w.heap.size + 1 + 1, 0, none⟩)))).alloc (.cells #[.int .i64 0, .int .i64 1000] 3)).alloc (.cells #[.string ⟨#[98]⟩, .int .i64 7, .int .i64 2] 61)) := (below_new _ _).alloc (by simp) _
  have h1 := h0.below hb (by simp)
  have hin : SetIn (((w.alloc (SC (rW (some ⟨w.heap.size + 1, 0, none⟩) (some ⟨w.heap.size + 1 + 1, 0, none⟩)))).alloc (.cells #[.int .i64 0, .int .i64 1000] 3)).alloc (.cells #[.string ⟨#[98]⟩, .int .i64 7, .int .i64 2] 61)) (rW (some ⟨w.heap.size + 1, 0, none⟩) (some ⟨w.heap.size + 1 + 1, 0, none⟩)) := rW_in _ _ _ (by simp) (by simp) (by go_simp) (by go_simp) (by go_simp) (by go_simp) (by go_simp)
  have hB : Below w.heap.size w (((w.alloc (SC (rW (some ⟨w.heap.size + 1, 0, none⟩) (some ⟨w.heap.size + 1 + 1, 0, none⟩)))).alloc (.cells #[.int .i64 0, .int .i64 1000] 3)).alloc (.cells #[.string ⟨#[98]⟩, .int .i64 7, .int .i64 2] 61)) := (below_new w _).trans (hb.mono (by simp))
  clear h0 hb
  show bodyPost _ _ _ Exit.ret _ (((w.alloc (SC (rW (some ⟨w.heap.size + 1, 0, none⟩) (some ⟨w.heap.size + 1 + 1, 0, none⟩)))).alloc (.cells #[.int .i64 0, .int .i64 1000] 3)).alloc (.cells #[.string ⟨#[98]⟩, .int .i64 7, .int .i64 2] 61))
  generalize ((w.alloc (SC (rW (some ⟨w.heap.size + 1, 0, none⟩) (some ⟨w.heap.size + 1 + 1, 0, none⟩)))).alloc (.cells #[.int .i64 0, .int .i64 1000] 3)).alloc (.cells #[.string ⟨#[98]⟩, .int .i64 7, .int .i64 2] 61) = W at *
  obtain ⟨f0, f1, f2, f3, f4, f5, f6, f7, f8, f9, f10, f11, f12⟩ := h1
  exact bodyPost_ret (v := SV (rW (some ⟨w.heap.size + 1, 0, none⟩) (some ⟨w.heap.size + 1 + 1, 0, none⟩))) (by simp [results, Tryz.results13, go_sem, f0, f1, f2, f3, f4, f5, f6, f7, f8, f9, f10, f11, f12]) rfl ⟨Lib.hid ⟨_, _, rfl, hin⟩, hB⟩
end Go.Proofs.YtfkmnneieglolaaGreatDoor
namespace Go.Proofs.YtfkmnneieglolaaGreatDoor
open Go.RowKit Go.Shelf
attribute [local go_sem] Oper.semAt_some
theorem bld_size : (Tryz.prog.info? 86).map (·.size) = some 2 := by kernel_rfl
theorem byte_info : (Tryz.prog.info? 5).map (fun i => (i.zero, i.size, i.bytes)) = some (some (.int .u8 0), 1, 1) := by kernel_rfl
set_option maxRecDepth 100000 in
set_option maxHeartbeats 1000000 in
theorem check_used (b : Nat) (w : World) (h0 : w.cell? ⟨b, 0, none⟩ = some (.pointer (some ⟨b, 0, none⟩))) :
    Calls Tryz.prog 97 #[.pointer (some ⟨b, 0, none⟩)] w fun e w' => e = .returned (.tuple #[]) ∧ w' = w := by
  obtain ⟨j, hj, _⟩ := Option.map_eq_some_iff.1 bld_size
  go_enter Tryz.func97, Tryz.ntmps97
  go_wp2
  rw [Lib.run_neq_ptr_same w _ Tryz.underlying83 hj]
  go_wp2
  go_end0
  exact ⟨rfl, rfl⟩
set_option maxRecDepth 100000 in
set_option maxHeartbeats 1000000 in
theorem check_fresh (b : Nat) (w : World) (h0 : w.cell? ⟨b, 0, none⟩ = some (.pointer none)) (hsh : w.shape? b = some (88, 2)) (hfz : w.frozen? ⟨b, 0, none⟩ = false) :
    Calls Tryz.prog 97 #[.pointer (some ⟨b, 0, none⟩)] w fun e w' => e = .returned (.tuple #[]) ∧ w' = w.setCell ⟨b, 0, none⟩ (.pointer (some ⟨b, 0, none⟩)) := by
  obtain ⟨j, hj, hjs⟩ := Option.map_eq_some_iff.1 bld_size
  go_enter Tryz.func97, Tryz.ntmps97
  go_wp2
  rw [Lib.run_to_unsafe w ⟨b, 0, none⟩ Tryz.underlying83 Tryz.underlying156 hj (by rw [hjs]; decide) hsh (Nat.zero_lt_succ 1)]
  simp only [Result.andThen]
  rw [Oper.upon_value]
  go_wp2
  rw [run_callFunc_extern Tryz.func105 (by kernel_rfl) (by kernel_rfl) (by kernel_rfl) (e := Extern.AbiNoEscape.same) (by kernel_rfl)]
  rw [Lib.run_noEscape]
  simp only [Result.andThen]
  rw [Oper.upon_value]
  go_wp2
  rw [Lib.run_from_unsafe w ⟨b, 0, none⟩ Tryz.underlying156 Tryz.underlying83 hj hsh (by kernel_rfl)]
  simp only [Result.andThen]
  rw [Oper.upon_value]
  go_wp2
  go_end0
  exact ⟨rfl, rfl⟩
/-- Blocks that are neither the builder's nor bytes stand as they stood. -/
def Kp (b : Nat) (w w' : World) : Prop := ∀ c cs T m, w.heap[c]? = some (.cells cs T m) → T ≠ 5 → c ≠ b → w'.heap[c]? = w.heap[c]?
theorem Kp.trans {b : Nat} {w w' w'' : World} (h : Kp b w w') (k : Kp b w' w'') : Kp b w w'' := fun c cs T m e hT hc => (k c cs T m ((h c cs T m e hT hc).trans e) hT hc).trans (h c cs T m e hT hc)
theorem Kp.of_below {b : Nat} {w w' : World} (h : Below w.heap.size w w') : Kp b w w' := fun c _ _ _ e _ _ => h.block c (Array.getElem?_eq_some_iff.1 e).1
theorem Kp.set {b j : Nat} {w : World} (v : Value) : Kp b w (w.setCell ⟨b, j, none⟩ v) := fun _ _ _ _ _ _ hc => Below.heap_setCell _ _ _ _ (fun e => hc e)
abbrev IsB (B b : Nat) (bs : List Value) (w : World) : Prop := Lib.IsBuilder 88 5 B b bs w
theorem check_any (B b : Nat) (bs : List Value) (w : World) (h : IsB B b bs w) :
    Calls Tryz.prog 97 #[.pointer (some ⟨b, 0, none⟩)] w fun e w' => e = .returned (.tuple #[]) ∧ (Lib.BuilderAt 88 5 B b (.pointer (some ⟨b, 0, none⟩)) bs w' ∧ Below B w w' ∧ Kp b w w') := by
  rcases h with h | h
  · refine (check_fresh b w h.cell0 h.shape h.frozen0).mono ?_
    rintro e w' ⟨rfl, rfl⟩
    exact ⟨rfl, h.used _, (Below.refl B w).setCell (p := ⟨b, 0, none⟩) h.1 _, Kp.set _⟩
  · refine (check_used b w h.cell0).mono ?_
    rintro e w' ⟨rfl, rfl⟩
    exact ⟨rfl, h, Below.refl B _, fun _ _ _ _ _ _ _ => rfl⟩
set_option maxRecDepth 100000 in
set_option maxHeartbeats 2000000 in
theorem write_any (B b : Nat) (bs : List Value) (s : ByteArray) (w : World) (h : IsB B b bs w) (hlen : bs.length + s.size ≤ 140737488355328) (hBw : B ≤ w.heap.size) :
    Calls Tryz.prog 67 #[.pointer (some ⟨b, 0, none⟩), .string s] w fun e w' => e = .returned (.tuple #[.int .i64 s.size, .nilIface]) ∧ IsB B b (bs ++ Lib.strCells s) w' ∧ Below B w w' ∧ Kp b w w' := by
  obtain ⟨i0, hi, hz0, hz1, hz2⟩ := info_parts byte_info
  go_enter Tryz.func67, Tryz.ntmps67
  go_wp2_with (go_at_call 97; refine (check_any B b bs _ h).mono ?_)
  rintro e w1 ⟨rfl, h1, hb1, hk1⟩
  obtain ⟨hB, v, hbk, hown, hne⟩ := h1
  have c0 : w1.cell? ⟨b, 0, none⟩ = some (.pointer (some ⟨b, 0, none⟩)) := by rw [Lib.cell_of_heap hbk]; rfl
  have c1 : w1.cell? ⟨b, 1, none⟩ = some v := by rw [Lib.cell_of_heap hbk]; rfl
  have hs1 := hb1.size
  go_wp2_with (at_builtin; refine Lib.wpList_append_own_string _ rfl _ _ 84 9 rfl B 5 i0 Tryz.underlying84 Tryz.underlying9 hi hz0 hz1 hz2 _ _ _ rfl hown s rfl ?c3 ?c4 ?c5 ?_)
  case c3 => unfold maxLen; omega
  case c4 => omega
  case c5 => omega
  intro v' w2 hown' hgrow _
  have hlt : b < w1.heap.size := by
    rcases Nat.lt_or_ge b w1.heap.size with h' | h'
    · exact h'
    · simp [Array.getElem?_eq_none h'] at hbk
  have hb2 : w2.heap[b]? = some (.cells #[.pointer (some ⟨b, 0, none⟩), v] 88 (0, 0)) := by
    rw [hgrow.block b hlt (fun e => hne e.symm)]
    exact hbk
  have d0 : w2.cell? ⟨b, 0, none⟩ = some (.pointer (some ⟨b, 0, none⟩)) := by rw [Lib.cell_of_heap hb2]; rfl
  have d1 : w2.cell? ⟨b, 1, none⟩ = some v := by rw [Lib.cell_of_heap hb2]; rfl
  have f1 : w2.frozen? ⟨b, 1, none⟩ = false := Lib.frozen_of_heap hb2 1
  obtain ⟨ao, n', cap, rfl⟩ : ∃ ao n' cap, v' = .slice ao n' cap := by
    rcases hown'.2 with ⟨hv, _⟩ | ⟨g, cap, cur, hv, _⟩
    · exact ⟨_, _, _, hv⟩
    · exact ⟨_, _, _, hv⟩
  go_wp2
  go_ret2
  refine ⟨rfl, Or.inr ?_, ?_, (hk1.trans fun c cs T m e hT hc => hgrow.block c (Array.getElem?_eq_some_iff.1 e).1 (fun q => ?_)).trans (Kp.set _)⟩
  · exact Lib.BuilderAt.put (T := 88) (e := 5) hB hb2 (bs' := bs ++ Lib.strCells s) (by simpa [Lib.strCells_length] using hown') (by decide)
  · exact (hb1.grown hgrow (by omega) (fun k hk => (hown.lt k hk).1)).setCell (p := ⟨b, 1, none⟩) hB _
  · rcases hown.2 with ⟨hv, _⟩ | ⟨g, cap, cur, hv, _, hg, _⟩
    · rw [hv] at q; cases q
    · rw [hv] at q
      cases q
      rw [hg] at e
      simp at e
      exact hT e.2.1.symm
set_option maxRecDepth 100000 in
set_option maxHeartbeats 1000000 in
theorem blen_any (B b : Nat) (bs : List Value) (w : World) (h : IsB B b bs w) :
    Calls Tryz.prog 38 #[.pointer (some ⟨b, 0, none⟩)] w fun e w' => e = .returned (.int .i64 bs.length) ∧ w = w' := by
  obtain ⟨p, hB, v, hbk, hown, hne⟩ : ∃ p, Lib.BuilderAt 88 5 B b p bs w := by
    rcases h with h | h
    · exact ⟨_, h⟩
    · exact ⟨_, h⟩
  obtain ⟨ao, cap, rfl⟩ : ∃ ao cap, v = .slice ao bs.length cap := by
    rcases hown.2 with ⟨hv, h0⟩ | ⟨g, cap, cur, hv, _⟩
    · exact ⟨none, 0, by rw [hv, h0]⟩
    · exact ⟨_, _, hv⟩
  have c1 : w.cell? ⟨b, 1, none⟩ = some (.slice ao bs.length cap) := by rw [Lib.cell_of_heap hbk]; rfl
  go_enter Tryz.func38, Tryz.ntmps38
  go_wp2
  go_ret
  exact ⟨rfl, rfl⟩
set_option maxRecDepth 100000 in
set_option maxHeartbeats 2000000 in
theorem bstr_any (B b : Nat) (l : List UInt8) (w : World) (h : IsB B b (Lib.byteCells l) w) (h0 : l ≠ []) :
    Calls Tryz.prog 39 #[.pointer (some ⟨b, 0, none⟩)] w fun e w' => e = .returned (.string ⟨l.toArray⟩) ∧ Below B w w' := by
  obtain ⟨p, hB, v, hbk, hown, hne⟩ : ∃ p, Lib.BuilderAt 88 5 B b p (Lib.byteCells l) w := by
    rcases h with h | h
    · exact ⟨_, h⟩
    · exact ⟨_, h⟩
  have hl0 : l.length ≠ 0 := by simpa using h0
  rw [Lib.byteCells_length] at hown
  obtain ⟨g, cap, cur, rfl, hbg, hg, hnc, hcm, hcs, htake⟩ : ∃ g cap cur, v = .slice (some ⟨g, 0, none⟩) l.length cap ∧ B ≤ g ∧ w.heap[g]? = some (.cells cur 5 (0, 0)) ∧ l.length ≤ cap ∧ cap ≤ maxLen ∧ cur.size = cap * 1 ∧ cur.toList.take (l.length * 1) = Lib.byteCells l := by
    rcases hown.2 with ⟨_, hz⟩ | ⟨g, cap, cur, hv, r⟩
    · exact absurd hz hl0
    · exact ⟨g, cap, cur, hv, r⟩
  have c1 : w.drew.cell? ⟨b, 1, none⟩ = some (.slice (some ⟨g, 0, none⟩) l.length cap) := by
    have : w.drew.heap[b]? = some (.cells #[p, .slice (some ⟨g, 0, none⟩) l.length cap] 88 (0, 0)) := hbk
    rw [Lib.cell_of_heap this]; rfl
  have hSD : (Builtin.unsafeSliceData_ #[84] 128 #[.slice (some ⟨g, 0, none⟩) l.length cap]).run Tryz.prog w.drew = .ok (.pointer (some ⟨g, 0, none⟩)) w.drew :=
    Lib.run_unsafeSliceData_row _ _ _ _ _ _ (by omega)
  have hUS : (Builtin.unsafeString_ #[128, 3] 9 #[.pointer (some ⟨g, 0, none⟩), .int .i64 l.length]).run Tryz.prog w.drew = .ok (.string ⟨l.toArray⟩) (w.drew.freeze ⟨g, 0, none⟩ l.length) := by
    refine Lib.run_unsafeString_row w.drew 128 3 9 5 Tryz.underlying128 (by kernel_rfl) g cur.size (by have hg' : w.drew.heap[g]? = some (.cells cur 5 (0, 0)) := hg; simp [World.shape?, hg']) l h0 (by omega) (by unfold maxLen at hcm; omega) ?_
    intro j x hx
    have := hown.cells (g := g) rfl j (.int .u8 x.toNat) (by simp [Lib.byteCells, hx])
    exact this
  go_enter Tryz.func39, Tryz.ntmps39
  go_wp2
  go_region
  all_goals (go_wp2; go_ret; exact ⟨rfl, Lib.below_freeze (Below.drew (Below.refl B w)) (p := ⟨g, 0, none⟩) hbg _⟩)
end Go.Proofs.YtfkmnneieglolaaGreatDoor
namespace Go.Proofs
open Go.Shelf
def Tryz.lays170_ren : Go.Shelf.Ren := ⟨fun | 170 => 38 | n => n, fun | 70 => 83 | 3 => 3 | 0 => 0 | 72 => 86 | 37 => 84 | 5 => 5 | n => n, fun | n => n⟩
theorem Tryz.lays170 : Go.Proofs.Lays.n170 Tryz.prog Tryz.lays170_ren := {
  mixed := by kernel_rfl
  f170 := Tryz.func38.trans (congrArg some (by kernel_rfl))
  t0 := Tryz.underlying0
  a0 := Tryz.isAgg0
  z0 := Tryz.sizeOf0
  v0 := Tryz.zeroValue0
  t3 := Tryz.underlying3
  a3 := Tryz.isAgg3
  z3 := Tryz.sizeOf3
  v3 := Tryz.zeroValue3
  t37 := Tryz.underlying84
  a37 := Tryz.isAgg84
  z37 := Tryz.sizeOf84
  v37 := Tryz.zeroValue84
  t70 := Tryz.underlying83
  a70 := Tryz.isAgg83
  z70 := Tryz.sizeOf83
  v70 := Tryz.zeroValue83
  t72 := Tryz.underlying86
  a72 := Tryz.isAgg86
  z72 := Tryz.sizeOf86
  v72 := Tryz.zeroValue86 }
open Go.RowKit in
/-- (*strings.Builder).Len: "Len returns the number of accumulated bytes; b.Len() == len(b.String()).": the world is as it was. (LAID: no walk: one application.) -/
theorem Tryz.Builder_Len (B b : Nat) (bs : List Value) (w : World) (h : Lib.IsBuilder 86 5 B b bs w) :
    Calls Tryz.prog 38 #[.pointer (some ⟨b, 0, none⟩)] w fun e w' => e = .returned (.int .i64 bs.length) ∧ w' = w := Any.Builder_Len Tryz.lays170 B b bs w h
def Tryz.lays169_ren : Go.Shelf.Ren := ⟨fun | 169 => 39 | n => n, fun | 70 => 83 | 9 => 9 | 0 => 0 | 72 => 86 | 37 => 84 | 127 => 128 | 3 => 3 | 5 => 5 | n => n, fun | n => n⟩
theorem Tryz.lays169 : Go.Proofs.Lays.n169 Tryz.prog Tryz.lays169_ren := {
  mixed := by kernel_rfl
  f169 := Tryz.func39.trans (congrArg some (by kernel_rfl))
  t0 := Tryz.underlying0
  a0 := Tryz.isAgg0
  z0 := Tryz.sizeOf0
  v0 := Tryz.zeroValue0
  t3 := Tryz.underlying3
  a3 := Tryz.isAgg3
  z3 := Tryz.sizeOf3
  v3 := Tryz.zeroValue3
  t9 := Tryz.underlying9
  a9 := Tryz.isAgg9
  z9 := Tryz.sizeOf9
  v9 := Tryz.zeroValue9
  t37 := Tryz.underlying84
  a37 := Tryz.isAgg84
  z37 := Tryz.sizeOf84
  v37 := Tryz.zeroValue84
  t70 := Tryz.underlying83
  a70 := Tryz.isAgg83
  z70 := Tryz.sizeOf83
  v70 := Tryz.zeroValue83
  t72 := Tryz.underlying86
  a72 := Tryz.isAgg86
  z72 := Tryz.sizeOf86
  v72 := Tryz.zeroValue86
  t127 := Tryz.underlying128
  a127 := Tryz.isAgg128
  z127 := Tryz.sizeOf128
  v127 := Tryz.zeroValue128 }
theorem Tryz.Builder_Extra_169 : Builder.Extra Tryz.prog Tryz.lays169_ren := {
  sizeBuilder := by kernel_rfl
  liesBuilder := by kernel_rfl
  t5 := Tryz.underlying5
  a5 := Tryz.isAgg5
  z5 := Tryz.sizeOf5
  v5 := Tryz.zeroValue5
  infoByte := by kernel_rfl
  cellsByte := by kernel_rfl
  sizeByte := by kernel_rfl
  neB5 := by decide }
open Go.RowKit in
/-- (*strings.Builder).String: "String returns the accumulated string.": OF A BUILDER THAT HOLDS AT LEAST ONE BYTE. ✋ THE MODEL FREEZES THOSE BYTES IN THE BUFFER (unsafe.String): a later write INTO them ends the model's run without an answer; a later append BEHIND them goes on. The statement's order of evaluation is drawn: one draw. (LAID: no walk: one application.) -/
theorem Tryz.Builder_String (B b : Nat) (l : List UInt8) (w : World) (h : Lib.IsBuilder 86 5 B b (Lib.byteCells l) w) (h0 : l ≠ []) :
    Calls Tryz.prog 39 #[.pointer (some ⟨b, 0, none⟩)] w fun e w' => e = .returned (.string ⟨l.toArray⟩) ∧ Below B w w' := Any.Builder_String Tryz.lays169 Tryz.Builder_Extra_169 B b l w h h0
open Go.RowKit in
/-- (*strings.Builder).String OF A BUILDER THAT HOLDS NO BYTE: the empty string. (Its buffer is nil, or a row of which it has taken nothing yet; where that row has NO capacity the model lays one new block for unsafe.SliceData's 'some address'.) One draw. (LAID: no walk: one application.) -/
theorem Tryz.Builder_String_empty (B b : Nat) (w : World) (h : Lib.IsBuilder 86 5 B b [] w) (hBw : B ≤ w.heap.size) :
    Calls Tryz.prog 39 #[.pointer (some ⟨b, 0, none⟩)] w fun e w' => e = .returned (.string ⟨#[]⟩) ∧ Below B w w' := Any.Builder_String_empty Tryz.lays169 Tryz.Builder_Extra_169 B b w h hBw
open Go.RowKit in
/-- (*strings.Builder).String: "String returns the accumulated string.": WHATEVER THE BUILDER HOLDS. (LAID: no walk: one application.) -/
theorem Tryz.Builder_String_any (B b : Nat) (l : List UInt8) (w : World) (h : Lib.IsBuilder 86 5 B b (Lib.byteCells l) w) (hBw : B ≤ w.heap.size) :
    Calls Tryz.prog 39 #[.pointer (some ⟨b, 0, none⟩)] w fun e w' => e = .returned (.string ⟨l.toArray⟩) ∧ Below B w w' := Any.Builder_String_any Tryz.lays169 Tryz.Builder_Extra_169 B b l w h hBw
def Tryz.lays241_ren : Go.Shelf.Ren := ⟨fun | 241 => 106 | 277 => 111 | n => n, fun | 70 => 83 | 3 => 3 | 0 => 0 | 72 => 86 | 37 => 84 | 5 => 5 | n => n, fun | n => n⟩
theorem Tryz.lays241 : Go.Proofs.Lays.n241 Tryz.prog Tryz.lays241_ren := {
  mixed := by kernel_rfl
  f241 := Tryz.func106.trans (congrArg some (by kernel_rfl))
  f277 := Tryz.func111.trans (congrArg some (by kernel_rfl))
  t0 := Tryz.underlying0
  a0 := Tryz.isAgg0
  z0 := Tryz.sizeOf0
  v0 := Tryz.zeroValue0
  t3 := Tryz.underlying3
  a3 := Tryz.isAgg3
  z3 := Tryz.sizeOf3
  v3 := Tryz.zeroValue3
  t37 := Tryz.underlying84
  a37 := Tryz.isAgg84
  z37 := Tryz.sizeOf84
  v37 := Tryz.zeroValue84
  t70 := Tryz.underlying83
  a70 := Tryz.isAgg83
  z70 := Tryz.sizeOf83
  v70 := Tryz.zeroValue83
  t72 := Tryz.underlying86
  a72 := Tryz.isAgg86
  z72 := Tryz.sizeOf86
  v72 := Tryz.zeroValue86 }
theorem Tryz.Builder_Extra_241 : Builder.Extra Tryz.prog Tryz.lays241_ren := {
  sizeBuilder := by kernel_rfl
  liesBuilder := by kernel_rfl
  t5 := Tryz.underlying5
  a5 := Tryz.isAgg5
  z5 := Tryz.sizeOf5
  v5 := Tryz.zeroValue5
  infoByte := by kernel_rfl
  cellsByte := by kernel_rfl
  sizeByte := by kernel_rfl
  neB5 := by decide }
open Go.RowKit in
/-- (*strings.Builder).grow (no doc but "grow copies the buffer to a new, larger buffer so that there are at least n bytes of capacity beyond len(b.buf)."): AT A BUILDER WITHOUT A BUFFER: a new row of whatever bytes for its buffer, none of them its own yet. Three draws. (LAID: no walk: one application.) -/
theorem Tryz.Builder_grow_fresh (B b n : Nat) (w : World) (hB : B ≤ b) (hbk : w.heap[b]? = some (.cells #[.pointer (some ⟨b, 0, none⟩), .slice none 0 0] 86 (0, 0))) (hBw : B ≤ w.heap.size) (hn : n ≤ 281474976710656) :
    Calls Tryz.prog 106 #[.pointer (some ⟨b, 0, none⟩), .int .i64 n] w fun e w' => e = .returned (.tuple #[]) ∧ (Lib.BuilderAt 86 5 B b (.pointer (some ⟨b, 0, none⟩)) [] w' ∧ Below B w w') := Any.Builder_grow_fresh Tryz.lays241 Tryz.Builder_Extra_241 B b n w hB hbk hBw hn
def Tryz.lays165_ren : Go.Shelf.Ren := ⟨fun | 165 => 98 | 240 => 97 | 241 => 106 | 276 => 105 | 277 => 111 | n => n, fun | 70 => 83 | 3 => 3 | 0 => 0 | 4 => 4 | 9 => 9 | 20 => 20 | 72 => 86 | 37 => 84 | 164 => 156 | 5 => 5 | n => n, fun | n => n⟩
theorem Tryz.lays165 : Go.Proofs.Lays.n165 Tryz.prog Tryz.lays165_ren := {
  mixed := by kernel_rfl
  f165 := Tryz.func98.trans (congrArg some (by kernel_rfl))
  f240 := Tryz.func97.trans (congrArg some (by kernel_rfl))
  f241 := Tryz.func106.trans (congrArg some (by kernel_rfl))
  f276 := Tryz.func105.trans (congrArg some (by kernel_rfl))
  f277 := Tryz.func111.trans (congrArg some (by kernel_rfl))
  t0 := Tryz.underlying0
  a0 := Tryz.isAgg0
  z0 := Tryz.sizeOf0
  v0 := Tryz.zeroValue0
  t3 := Tryz.underlying3
  a3 := Tryz.isAgg3
  z3 := Tryz.sizeOf3
  v3 := Tryz.zeroValue3
  t4 := Tryz.underlying4
  a4 := Tryz.isAgg4
  z4 := Tryz.sizeOf4
  v4 := Tryz.zeroValue4
  t9 := Tryz.underlying9
  a9 := Tryz.isAgg9
  z9 := Tryz.sizeOf9
  v9 := Tryz.zeroValue9
  t20 := Tryz.underlying20
  a20 := Tryz.isAgg20
  z20 := Tryz.sizeOf20
  v20 := Tryz.zeroValue20
  t37 := Tryz.underlying84
  a37 := Tryz.isAgg84
  z37 := Tryz.sizeOf84
  v37 := Tryz.zeroValue84
  t70 := Tryz.underlying83
  a70 := Tryz.isAgg83
  z70 := Tryz.sizeOf83
  v70 := Tryz.zeroValue83
  t72 := Tryz.underlying86
  a72 := Tryz.isAgg86
  z72 := Tryz.sizeOf86
  v72 := Tryz.zeroValue86
  t164 := Tryz.underlying156
  a164 := Tryz.isAgg156
  z164 := Tryz.sizeOf156
  v164 := Tryz.zeroValue156 }
theorem Tryz.Builder_Extra_165 : Builder.Extra Tryz.prog Tryz.lays165_ren := {
  sizeBuilder := by kernel_rfl
  liesBuilder := by kernel_rfl
  t5 := Tryz.underlying5
  a5 := Tryz.isAgg5
  z5 := Tryz.sizeOf5
  v5 := Tryz.zeroValue5
  infoByte := by kernel_rfl
  cellsByte := by kernel_rfl
  sizeByte := by kernel_rfl
  neB5 := by decide }
open Go.RowKit in
/-- (*strings.Builder).Grow AT A BUILDER THAT HAS NOT BEEN WRITTEN ('var b strings.Builder; b.Grow(n)'): "Grow grows b's capacity, if necessary, to guarantee space for another n bytes.": it holds no byte behind it as before it. (LAID: no walk: one application.) -/
theorem Tryz.Builder_Grow_fresh (B b n : Nat) (w : World) (hB : B ≤ b) (hbk : w.heap[b]? = some (.cells #[.pointer none, .slice none 0 0] 86 (0, 0))) (hBw : B ≤ w.heap.size) (hn : n ≤ 281474976710656) :
    Calls Tryz.prog 98 #[.pointer (some ⟨b, 0, none⟩), .int .i64 n] w fun e w' => e = .returned (.tuple #[]) ∧ (Lib.BuilderAt 86 5 B b (.pointer (some ⟨b, 0, none⟩)) [] w' ∧ Below B w w') := Any.Builder_Grow_fresh Tryz.lays165 Tryz.Builder_Extra_165 B b n w hB hbk hBw hn
def Tryz.lays156_ren : Go.Shelf.Ren := ⟨fun | 156 => 68 | 165 => 98 | 166 => 67 | 169 => 39 | 240 => 97 | 241 => 106 | 276 => 105 | 277 => 111 | n => n, fun | 31 => 90 | 9 => 9 | 3 => 3 | 4 => 4 | 0 => 0 | 20 => 20 | 72 => 86 | 76 => 125 | 70 => 83 | 37 => 84 | 75 => 124 | 127 => 128 | 164 => 156 | 5 => 5 | 80 => 99 | n => n, fun | n => n⟩
theorem Tryz.lays156 : Go.Proofs.Lays.n156 Tryz.prog Tryz.lays156_ren := {
  mixed := by kernel_rfl
  f156 := Tryz.func68.trans (congrArg some (by kernel_rfl))
  f165 := Tryz.func98.trans (congrArg some (by kernel_rfl))
  f166 := Tryz.func67.trans (congrArg some (by kernel_rfl))
  f169 := Tryz.func39.trans (congrArg some (by kernel_rfl))
  f240 := Tryz.func97.trans (congrArg some (by kernel_rfl))
  f241 := Tryz.func106.trans (congrArg some (by kernel_rfl))
  f276 := Tryz.func105.trans (congrArg some (by kernel_rfl))
  f277 := Tryz.func111.trans (congrArg some (by kernel_rfl))
  t0 := Tryz.underlying0
  a0 := Tryz.isAgg0
  z0 := Tryz.sizeOf0
  v0 := Tryz.zeroValue0
  t3 := Tryz.underlying3
  a3 := Tryz.isAgg3
  z3 := Tryz.sizeOf3
  v3 := Tryz.zeroValue3
  t4 := Tryz.underlying4
  a4 := Tryz.isAgg4
  z4 := Tryz.sizeOf4
  v4 := Tryz.zeroValue4
  t9 := Tryz.underlying9
  a9 := Tryz.isAgg9
  z9 := Tryz.sizeOf9
  v9 := Tryz.zeroValue9
  t20 := Tryz.underlying20
  a20 := Tryz.isAgg20
  z20 := Tryz.sizeOf20
  v20 := Tryz.zeroValue20
  t31 := Tryz.underlying90
  a31 := Tryz.isAgg90
  z31 := Tryz.sizeOf90
  v31 := Tryz.zeroValue90
  t37 := Tryz.underlying84
  a37 := Tryz.isAgg84
  z37 := Tryz.sizeOf84
  v37 := Tryz.zeroValue84
  t70 := Tryz.underlying83
  a70 := Tryz.isAgg83
  z70 := Tryz.sizeOf83
  v70 := Tryz.zeroValue83
  t72 := Tryz.underlying86
  a72 := Tryz.isAgg86
  z72 := Tryz.sizeOf86
  v72 := Tryz.zeroValue86
  t75 := Tryz.underlying124
  a75 := Tryz.isAgg124
  z75 := Tryz.sizeOf124
  v75 := Tryz.zeroValue124
  t76 := Tryz.underlying125
  a76 := Tryz.isAgg125
  z76 := Tryz.sizeOf125
  v76 := Tryz.zeroValue125
  t127 := Tryz.underlying128
  a127 := Tryz.isAgg128
  z127 := Tryz.sizeOf128
  v127 := Tryz.zeroValue128
  t164 := Tryz.underlying156
  a164 := Tryz.isAgg156
  z164 := Tryz.sizeOf156
  v164 := Tryz.zeroValue156 }
theorem Tryz.Builder_Extra_156 : Builder.Extra Tryz.prog Tryz.lays156_ren := {
  sizeBuilder := by kernel_rfl
  liesBuilder := by kernel_rfl
  t5 := Tryz.underlying5
  a5 := Tryz.isAgg5
  z5 := Tryz.sizeOf5
  v5 := Tryz.zeroValue5
  infoByte := by kernel_rfl
  cellsByte := by kernel_rfl
  sizeByte := by kernel_rfl
  neB5 := by decide }
open Go.RowKit in
/-- No element: the empty string; the world is as it was. (Whatever the slice's address and capacity: a nil slice too.) (LAID: no walk: one application.) -/
theorem Tryz.strings_Join_none (a : Option Addr) (c : Nat) (sep : ByteArray) (w : World) :
    Calls Tryz.prog 68 #[.slice a 0 c, .string sep] w fun e w' => e = .returned (.string ⟨#[]⟩) ∧ w' = w := Any.strings_Join_none Tryz.lays156 Tryz.Builder_Extra_156 a c sep w
open Go.RowKit in
/-- strings.Join: "Join concatenates the elements of its first argument to create a single string. The separator string sep is placed between elements in the resulting string.": HOWEVER MANY ELEMENTS. Below the heap's end the world is as it was. (LAID: no walk: one application.) -/
theorem Tryz.strings_Join (bk o c : Nat) (xs : List ByteArray) (sep : ByteArray) (w : World) (hcells : ∀ (j : Nat) x, xs[j]? = some x → w.cell? ⟨bk, o + j, none⟩ = some (.string x)) (hbk : bk < w.heap.size) (hN : xs.length ≤ 140737488355328) (hcap : xs.length ≤ c) (hlen : (Lib.join (xs.map (·.data.toList)) sep.data.toList).length ≤ 140737488355328) :
    Calls Tryz.prog 68 #[.slice (some ⟨bk, o, none⟩) xs.length c, .string sep] w fun e w' => e = .returned (.string ⟨(Lib.join (xs.map (·.data.toList)) sep.data.toList).toArray⟩) ∧ Below w.heap.size w w' := Any.strings_Join Tryz.lays156 Tryz.Builder_Extra_156 bk o c xs sep w hcells hbk hN hcap hlen
def Tryz.lays129_ren : Go.Shelf.Ren := ⟨fun | 129 => 113 | n => n, fun | 53 => 159 | 3 => 3 | 4 => 4 | 46 => 169 | 5 => 5 | 9 => 9 | n => n, fun | n => n⟩
theorem Tryz.lays129 : Go.Proofs.Lays.n129 Tryz.prog Tryz.lays129_ren := {
  mixed := by kernel_rfl
  f129 := Tryz.func113.trans (congrArg some (by kernel_rfl))
  t3 := Tryz.underlying3
  a3 := Tryz.isAgg3
  z3 := Tryz.sizeOf3
  v3 := Tryz.zeroValue3
  t4 := Tryz.underlying4
  a4 := Tryz.isAgg4
  z4 := Tryz.sizeOf4
  v4 := Tryz.zeroValue4
  t5 := Tryz.underlying5
  a5 := Tryz.isAgg5
  z5 := Tryz.sizeOf5
  v5 := Tryz.zeroValue5
  t9 := Tryz.underlying9
  a9 := Tryz.isAgg9
  z9 := Tryz.sizeOf9
  v9 := Tryz.zeroValue9
  t46 := Tryz.underlying169
  a46 := Tryz.isAgg169
  z46 := Tryz.sizeOf169
  v46 := Tryz.zeroValue169
  t53 := Tryz.underlying159
  a53 := Tryz.isAgg159
  z53 := Tryz.sizeOf159
  v53 := Tryz.zeroValue159 }
/-- bits.Len64: "Len64 returns the minimum number of bits required to represent x; the result is 0 for x == 0.": IT RETURNS 'Lib.bitLen x'; the world is as it was. ('h0', 'h1': x is a uint64.) (LAID: no walk: one application.) -/
theorem Tryz.bits_Len64 (x : Int) (w : World) (h0 : 0 ≤ x) (h1 : x ≤ 18446744073709551615) :
    Calls Tryz.prog 113 #[.int .u64 x] w fun e w' => e = .returned (.int .i64 (Lib.bitLen x.toNat)) ∧ w' = w := Any.bits_Len64 Tryz.lays129 x w h0 h1
def Tryz.lays317_ren : Go.Shelf.Ren := ⟨fun | 317 => 112 | n => n, fun | 3 => 3 | 46 => 169 | n => n, fun | n => n⟩
theorem Tryz.lays317 : Go.Proofs.Lays.n317 Tryz.prog Tryz.lays317_ren := {
  mixed := by kernel_rfl
  f317 := Tryz.func112.trans (congrArg some (by kernel_rfl))
  t3 := Tryz.underlying3
  a3 := Tryz.isAgg3
  z3 := Tryz.sizeOf3
  v3 := Tryz.zeroValue3
  t46 := Tryz.underlying169
  a46 := Tryz.isAgg169
  z46 := Tryz.sizeOf169
  v46 := Tryz.zeroValue169 }
open Go.Lib in
/-- internal/strconv.log10Pow2: "log10Pow2(x) returns ⌊log₁₀ 2**x⌋ = ⌊x * log₁₀ 2⌋.": '(x * 78913) >> 18', at an x up to 64 (a length in bits). The world is as it was. (LAID: no walk: one application.) -/
theorem Tryz.internal_strconv_log10Pow2 (x : Nat) (h : x ≤ 64) (w : World) :
    Calls Tryz.prog 112 #[.int .i64 x] w fun e w' => e = .returned (.int .i64 (Lib.l10 x)) ∧ w' = w := Any.internal_strconv_log10Pow2 Tryz.lays317 x h w
def Tryz.lays318_ren : Go.Shelf.Ren := ⟨fun | 318 => 114 | n => n, fun | 3 => 3 | 4 => 4 | n => n, fun | n => n⟩
theorem Tryz.lays318 : Go.Proofs.Lays.n318 Tryz.prog Tryz.lays318_ren := {
  mixed := by kernel_rfl
  f318 := Tryz.func114.trans (congrArg some (by kernel_rfl))
  t3 := Tryz.underlying3
  a3 := Tryz.isAgg3
  z3 := Tryz.sizeOf3
  v3 := Tryz.zeroValue3
  t4 := Tryz.underlying4
  a4 := Tryz.isAgg4
  z4 := Tryz.sizeOf4
  v4 := Tryz.zeroValue4 }
open Go.Lib in
/-- internal/strconv.bool2: "bool2 converts b to an integer: 1 for true, 0 for false." The world is as it was. (LAID: no walk: one application.) -/
theorem Tryz.internal_strconv_bool2_int (b : Bool) (w : World) :
    Calls Tryz.prog 114 #[.bool b] w fun e w' => e = .returned (.int .i64 (if b then 1 else 0)) ∧ w' = w := Any.internal_strconv_bool2_int Tryz.lays318 b w
def Tryz.lays283_ren : Go.Shelf.Ren := ⟨fun | 283 => 107 | n => n, fun | 3 => 3 | 9 => 9 | 4 => 4 | n => n, fun | n => n⟩
theorem Tryz.lays283 : Go.Proofs.Lays.n283 Tryz.prog Tryz.lays283_ren := {
  mixed := by kernel_rfl
  f283 := Tryz.func107.trans (congrArg some (by kernel_rfl))
  t3 := Tryz.underlying3
  a3 := Tryz.isAgg3
  z3 := Tryz.sizeOf3
  v3 := Tryz.zeroValue3
  t4 := Tryz.underlying4
  a4 := Tryz.isAgg4
  z4 := Tryz.sizeOf4
  v4 := Tryz.zeroValue4
  t9 := Tryz.underlying9
  a9 := Tryz.isAgg9
  z9 := Tryz.sizeOf9
  v9 := Tryz.zeroValue9 }
open Go.Lib in
/-- internal/strconv.small: "small returns the string for an i with 0 <= i < nSmalls.": i's decimal numeral. The world is as it was. (LAID: no walk: one application.) -/
theorem Tryz.internal_strconv_small (i : Nat) (h : i < 100) (w : World) :
    Calls Tryz.prog 107 #[.int .i64 i] w fun e w' => e = .returned (.string ⟨(Lib.decDigits i).toArray⟩) ∧ w' = w := Any.internal_strconv_small Tryz.lays283 i h w
def Tryz.laysM284_ren : Go.Shelf.Ren := ⟨fun | 284 => 108 | 129 => 113 | 317 => 112 | 318 => 114 | n => n, fun | 53 => 159 | 3 => 3 | 212 => 166 | 0 => 0 | 4 => 4 | 46 => 169 | 5 => 5 | 9 => 9 | n => n, fun | 17 => 0 | n => n⟩
theorem Tryz.laysM284 : Go.Proofs.LaysM.n284 Tryz.prog Tryz.laysM284_ren := {
  mixed := by kernel_rfl
  f129 := Tryz.func113.trans (congrArg some (by kernel_rfl))
  f284 := Tryz.func108.trans (congrArg some (by kernel_rfl))
  f317 := Tryz.func112.trans (congrArg some (by kernel_rfl))
  f318 := Tryz.func114.trans (congrArg some (by kernel_rfl))
  t0 := Tryz.underlying0
  a0 := Tryz.isAgg0
  z0 := Tryz.sizeOf0
  v0 := Tryz.zeroValue0
  t3 := Tryz.underlying3
  a3 := Tryz.isAgg3
  z3 := Tryz.sizeOf3
  v3 := Tryz.zeroValue3
  t4 := Tryz.underlying4
  a4 := Tryz.isAgg4
  z4 := Tryz.sizeOf4
  v4 := Tryz.zeroValue4
  t5 := Tryz.underlying5
  a5 := Tryz.isAgg5
  z5 := Tryz.sizeOf5
  v5 := Tryz.zeroValue5
  t9 := Tryz.underlying9
  a9 := Tryz.isAgg9
  z9 := Tryz.sizeOf9
  v9 := Tryz.zeroValue9
  t46 := Tryz.underlying169
  a46 := Tryz.isAgg169
  z46 := Tryz.sizeOf169
  v46 := Tryz.zeroValue169
  t53 := Tryz.underlying159
  a53 := Tryz.isAgg159
  z53 := Tryz.sizeOf159
  v53 := Tryz.zeroValue159
  t212 := Tryz.underlying166
  a212 := Tryz.isAgg166
  z212 := Tryz.sizeOf166
  v212 := Tryz.zeroValue166
  g17 := by kernel_rfl
  i0 := by kernel_rfl
  i3 := by kernel_rfl
  i4 := by kernel_rfl
  i5 := by kernel_rfl
  i9 := by kernel_rfl
  i46 := by kernel_rfl
  i53 := by kernel_rfl
  i212 := by kernel_rfl
  m17 := by kernel_rfl }
open Go.Lib in
/-- internal/strconv.numDigits, at a d that is not 0: THE NUMBER OF d's DECIMAL DIGITS. The world is as it was. (LAID: no walk: one application.) -/
theorem Tryz.internal_strconv_numDigits (u : Nat) (h1 : 1 ≤ u) (h2 : u < 18446744073709551616) (w : World) (htab : Lib.TabIs Tryz.prog w "internal/strconv.uint64pow10" .u64 Lib.pow10Tab) :
    Calls Tryz.prog 108 #[.int .u64 u] w fun e w' => e = .returned (.int .i64 (Lib.nDigits u)) ∧ w' = w := Any.internal_strconv_numDigits Tryz.laysM284 u h1 h2 w htab
def Tryz.lays285_ren : Go.Shelf.Ren := ⟨fun | 285 => 109 | n => n, fun | 37 => 84 | 53 => 159 | 3 => 3 | 4 => 4 | 51 => 167 | 9 => 9 | 5 => 5 | 0 => 0 | n => n, fun | n => n⟩
theorem Tryz.lays285 : Go.Proofs.Lays.n285 Tryz.prog Tryz.lays285_ren := {
  mixed := by kernel_rfl
  f285 := Tryz.func109.trans (congrArg some (by kernel_rfl))
  t0 := Tryz.underlying0
  a0 := Tryz.isAgg0
  z0 := Tryz.sizeOf0
  v0 := Tryz.zeroValue0
  t3 := Tryz.underlying3
  a3 := Tryz.isAgg3
  z3 := Tryz.sizeOf3
  v3 := Tryz.zeroValue3
  t4 := Tryz.underlying4
  a4 := Tryz.isAgg4
  z4 := Tryz.sizeOf4
  v4 := Tryz.zeroValue4
  t5 := Tryz.underlying5
  a5 := Tryz.isAgg5
  z5 := Tryz.sizeOf5
  v5 := Tryz.zeroValue5
  t9 := Tryz.underlying9
  a9 := Tryz.isAgg9
  z9 := Tryz.sizeOf9
  v9 := Tryz.zeroValue9
  t37 := Tryz.underlying84
  a37 := Tryz.isAgg84
  z37 := Tryz.sizeOf84
  v37 := Tryz.zeroValue84
  t51 := Tryz.underlying167
  a51 := Tryz.isAgg167
  z51 := Tryz.sizeOf167
  v51 := Tryz.zeroValue167
  t53 := Tryz.underlying159
  a53 := Tryz.isAgg159
  z53 := Tryz.sizeOf159
  v53 := Tryz.zeroValue159 }
open Go.RowKit Go.Sort Go.Lib in
/-- internal/strconv.formatBase10: "formatBase10 formats the decimal representation of u into a. The caller is responsible for ensuring that a is big enough to hold u. If a is too big, leading zeros will be filled in as needed.": THE ROW HOLDS u's DIGITS ('FmtInv .. 0 ..': every place t holds 'dg u (len - 1 - t)'); all else is as it was but for the count of draws. (LAID: no walk: one application.) -/
theorem Tryz.internal_strconv_formatBase10 (blk off cap : Nat) (u : Nat) (d : Array UInt8) (w : World) (hH : Holds (fun (b : UInt8) => Value.int .u8 (b.toNat : Int)) w blk off d) (hu : u < 10 ^ d.size) (hu64 : u < 18446744073709551616) (hsz : d.size < 4611686018427387904) :
    Calls Tryz.prog 109 #[.slice (some ⟨blk, off, none⟩) d.size cap, .int .u64 u] w fun e w' =>
      e = .returned (.tuple #[]) ∧ ∃ (n v' : Nat) (dk : Array UInt8), w' = (putRow (fun (b : UInt8) => Value.int .u8 (b.toNat : Int)) w blk off dk).drewN n ∧ FmtInv d.size u 0 v' dk := Any.internal_strconv_formatBase10 Tryz.lays285 blk off cap u d w hH hu hu64 hsz
def Tryz.laysM246_ren : Go.Shelf.Ren := ⟨fun | 246 => 104 | 283 => 107 | 284 => 108 | 285 => 109 | 286 => 110 | 129 => 113 | 317 => 112 | 318 => 114 | 319 => 115 | 320 => 116 | 337 => 117 | 338 => 118 | n => n, fun | 2 => 2 | 3 => 3 | 9 => 9 | 4 => 4 | 171 => 158 | 0 => 0 | 53 => 159 | 37 => 84 | 5 => 5 | 173 => 162 | 212 => 166 | 51 => 167 | 20 => 20 | 213 => 168 | 46 => 169 | 232 => 172 | 233 => 173 | n => n, fun | 17 => 0 | 18 => 2 | 19 => 3 | n => n⟩
theorem Tryz.laysM246 : Go.Proofs.LaysM.n246 Tryz.prog Tryz.laysM246_ren := {
  mixed := by kernel_rfl
  f129 := Tryz.func113.trans (congrArg some (by kernel_rfl))
  f246 := Tryz.func104.trans (congrArg some (by kernel_rfl))
  f283 := Tryz.func107.trans (congrArg some (by kernel_rfl))
  f284 := Tryz.func108.trans (congrArg some (by kernel_rfl))
  f285 := Tryz.func109.trans (congrArg some (by kernel_rfl))
  f286 := Tryz.func110.trans (congrArg some (by kernel_rfl))
  f317 := Tryz.func112.trans (congrArg some (by kernel_rfl))
  f318 := Tryz.func114.trans (congrArg some (by kernel_rfl))
  f319 := Tryz.func115.trans (congrArg some (by kernel_rfl))
  f320 := Tryz.func116.trans (congrArg some (by kernel_rfl))
  f337 := Tryz.func117.trans (congrArg some (by kernel_rfl))
  f338 := Tryz.func118.trans (congrArg some (by kernel_rfl))
  t0 := Tryz.underlying0
  a0 := Tryz.isAgg0
  z0 := Tryz.sizeOf0
  v0 := Tryz.zeroValue0
  t2 := Tryz.underlying2
  a2 := Tryz.isAgg2
  z2 := Tryz.sizeOf2
  v2 := Tryz.zeroValue2
  t3 := Tryz.underlying3
  a3 := Tryz.isAgg3
  z3 := Tryz.sizeOf3
  v3 := Tryz.zeroValue3
  t4 := Tryz.underlying4
  a4 := Tryz.isAgg4
  z4 := Tryz.sizeOf4
  v4 := Tryz.zeroValue4
  t5 := Tryz.underlying5
  a5 := Tryz.isAgg5
  z5 := Tryz.sizeOf5
  v5 := Tryz.zeroValue5
  t9 := Tryz.underlying9
  a9 := Tryz.isAgg9
  z9 := Tryz.sizeOf9
  v9 := Tryz.zeroValue9
  t20 := Tryz.underlying20
  a20 := Tryz.isAgg20
  z20 := Tryz.sizeOf20
  v20 := Tryz.zeroValue20
  t37 := Tryz.underlying84
  a37 := Tryz.isAgg84
  z37 := Tryz.sizeOf84
  v37 := Tryz.zeroValue84
  t46 := Tryz.underlying169
  a46 := Tryz.isAgg169
  z46 := Tryz.sizeOf169
  v46 := Tryz.zeroValue169
  t51 := Tryz.underlying167
  a51 := Tryz.isAgg167
  z51 := Tryz.sizeOf167
  v51 := Tryz.zeroValue167
  t53 := Tryz.underlying159
  a53 := Tryz.isAgg159
  z53 := Tryz.sizeOf159
  v53 := Tryz.zeroValue159
  t171 := Tryz.underlying158
  a171 := Tryz.isAgg158
  z171 := Tryz.sizeOf158
  v171 := Tryz.zeroValue158
  t173 := Tryz.underlying162
  a173 := Tryz.isAgg162
  z173 := Tryz.sizeOf162
  v173 := Tryz.zeroValue162
  t212 := Tryz.underlying166
  a212 := Tryz.isAgg166
  z212 := Tryz.sizeOf166
  v212 := Tryz.zeroValue166
  t213 := Tryz.underlying168
  a213 := Tryz.isAgg168
  z213 := Tryz.sizeOf168
  t232 := Tryz.underlying172
  a232 := Tryz.isAgg172
  z232 := Tryz.sizeOf172
  v232 := Tryz.zeroValue172
  t233 := Tryz.underlying173
  a233 := Tryz.isAgg173
  z233 := Tryz.sizeOf173
  v233 := Tryz.zeroValue173
  g17 := by kernel_rfl
  g18 := by kernel_rfl
  g19 := by kernel_rfl
  i0 := by kernel_rfl
  i2 := by kernel_rfl
  i3 := by kernel_rfl
  i4 := by kernel_rfl
  i5 := by kernel_rfl
  i9 := by kernel_rfl
  i20 := by kernel_rfl
  i37 := by kernel_rfl
  i46 := by kernel_rfl
  i51 := by kernel_rfl
  i53 := by kernel_rfl
  i171 := by kernel_rfl
  i173 := by kernel_rfl
  i212 := by kernel_rfl
  i232 := by kernel_rfl
  i233 := by kernel_rfl
  m17 := by kernel_rfl
  m18 := by kernel_rfl
  m19 := by kernel_rfl }
open Go.RowKit Go.Sort Go.Lib in
/-- internal/strconv.FormatInt: "FormatInt returns the string representation of i in the given base": AT BASE 10: i's decimal numeral, for every int64. The world behind the call: the world before it, new blocks behind the heap, draws. (LAID: no walk: one application.) -/
theorem Tryz.internal_strconv_FormatInt_10 (n : Int) (h0 : -9223372036854775808 ≤ n) (h1 : n ≤ 9223372036854775807) (w : World) (htab : Lib.TabIs Tryz.prog w "internal/strconv.uint64pow10" .u64 Lib.pow10Tab) :
    Calls Tryz.prog 104 #[.int .i64 n, .int .i64 10] w fun e w' => e = .returned (.string ⟨(Lib.itoa n).toArray⟩) ∧ ∃ k os, w' = grow (w.drewN k) os := Any.internal_strconv_FormatInt_10 Tryz.laysM246 n h0 h1 w htab
def Tryz.lays246_ren : Go.Shelf.Ren := ⟨fun | 246 => 104 | 283 => 107 | 284 => 108 | 285 => 109 | 286 => 110 | 129 => 113 | 317 => 112 | 318 => 114 | 319 => 115 | 320 => 116 | 337 => 117 | 338 => 118 | n => n, fun | 2 => 2 | 3 => 3 | 9 => 9 | 4 => 4 | 171 => 158 | 0 => 0 | 53 => 159 | 37 => 84 | 5 => 5 | 173 => 162 | 212 => 166 | 51 => 167 | 20 => 20 | 213 => 168 | 46 => 169 | 232 => 172 | 233 => 173 | n => n, fun | 17 => 0 | 18 => 2 | 19 => 3 | n => n⟩
theorem Tryz.lays246 : Go.Proofs.Lays.n246 Tryz.prog Tryz.lays246_ren := {
  mixed := by kernel_rfl
  f129 := Tryz.func113.trans (congrArg some (by kernel_rfl))
  f246 := Tryz.func104.trans (congrArg some (by kernel_rfl))
  f283 := Tryz.func107.trans (congrArg some (by kernel_rfl))
  f284 := Tryz.func108.trans (congrArg some (by kernel_rfl))
  f285 := Tryz.func109.trans (congrArg some (by kernel_rfl))
  f286 := Tryz.func110.trans (congrArg some (by kernel_rfl))
  f317 := Tryz.func112.trans (congrArg some (by kernel_rfl))
  f318 := Tryz.func114.trans (congrArg some (by kernel_rfl))
  f319 := Tryz.func115.trans (congrArg some (by kernel_rfl))
  f320 := Tryz.func116.trans (congrArg some (by kernel_rfl))
  f337 := Tryz.func117.trans (congrArg some (by kernel_rfl))
  f338 := Tryz.func118.trans (congrArg some (by kernel_rfl))
  t0 := Tryz.underlying0
  a0 := Tryz.isAgg0
  z0 := Tryz.sizeOf0
  v0 := Tryz.zeroValue0
  t2 := Tryz.underlying2
  a2 := Tryz.isAgg2
  z2 := Tryz.sizeOf2
  v2 := Tryz.zeroValue2
  t3 := Tryz.underlying3
  a3 := Tryz.isAgg3
  z3 := Tryz.sizeOf3
  v3 := Tryz.zeroValue3
  t4 := Tryz.underlying4
  a4 := Tryz.isAgg4
  z4 := Tryz.sizeOf4
  v4 := Tryz.zeroValue4
  t5 := Tryz.underlying5
  a5 := Tryz.isAgg5
  z5 := Tryz.sizeOf5
  v5 := Tryz.zeroValue5
  t9 := Tryz.underlying9
  a9 := Tryz.isAgg9
  z9 := Tryz.sizeOf9
  v9 := Tryz.zeroValue9
  t20 := Tryz.underlying20
  a20 := Tryz.isAgg20
  z20 := Tryz.sizeOf20
  v20 := Tryz.zeroValue20
  t37 := Tryz.underlying84
  a37 := Tryz.isAgg84
  z37 := Tryz.sizeOf84
  v37 := Tryz.zeroValue84
  t46 := Tryz.underlying169
  a46 := Tryz.isAgg169
  z46 := Tryz.sizeOf169
  v46 := Tryz.zeroValue169
  t51 := Tryz.underlying167
  a51 := Tryz.isAgg167
  z51 := Tryz.sizeOf167
  v51 := Tryz.zeroValue167
  t53 := Tryz.underlying159
  a53 := Tryz.isAgg159
  z53 := Tryz.sizeOf159
  v53 := Tryz.zeroValue159
  t171 := Tryz.underlying158
  a171 := Tryz.isAgg158
  z171 := Tryz.sizeOf158
  v171 := Tryz.zeroValue158
  t173 := Tryz.underlying162
  a173 := Tryz.isAgg162
  z173 := Tryz.sizeOf162
  v173 := Tryz.zeroValue162
  t212 := Tryz.underlying166
  a212 := Tryz.isAgg166
  z212 := Tryz.sizeOf166
  v212 := Tryz.zeroValue166
  t213 := Tryz.underlying168
  a213 := Tryz.isAgg168
  z213 := Tryz.sizeOf168
  t232 := Tryz.underlying172
  a232 := Tryz.isAgg172
  z232 := Tryz.sizeOf172
  v232 := Tryz.zeroValue172
  t233 := Tryz.underlying173
  a233 := Tryz.isAgg173
  z233 := Tryz.sizeOf173
  v233 := Tryz.zeroValue173
  g17 := by kernel_rfl
  g18 := by kernel_rfl
  g19 := by kernel_rfl }
open Go.RowKit Go.Sort Go.Lib in
/-- THE ROAD WITHOUT THE TABLE: 0 <= i < 100: two constants are read, nothing is laid: no premise on the world, and the world is as it was. (LAID: no walk: one application.) -/
theorem Tryz.internal_strconv_FormatInt_10_small (i : Nat) (hi : i < 100) (w : World) :
    Calls Tryz.prog 104 #[.int .i64 i, .int .i64 10] w fun e w' => e = .returned (.string ⟨(Lib.decDigits i).toArray⟩) ∧ w' = w := Any.internal_strconv_FormatInt_10_small Tryz.lays246 i hi w
def Tryz.laysM243_ren : Go.Shelf.Ren := ⟨fun | 243 => 96 | 246 => 104 | 283 => 107 | 284 => 108 | 285 => 109 | 286 => 110 | 129 => 113 | 317 => 112 | 318 => 114 | 319 => 115 | 320 => 116 | 337 => 117 | 338 => 118 | n => n, fun | 3 => 3 | 9 => 9 | 2 => 2 | 4 => 4 | 171 => 158 | 0 => 0 | 53 => 159 | 37 => 84 | 5 => 5 | 173 => 162 | 212 => 166 | 51 => 167 | 20 => 20 | 213 => 168 | 46 => 169 | 232 => 172 | 233 => 173 | n => n, fun | 17 => 0 | 18 => 2 | 19 => 3 | n => n⟩
theorem Tryz.laysM243 : Go.Proofs.LaysM.n243 Tryz.prog Tryz.laysM243_ren := {
  mixed := by kernel_rfl
  f129 := Tryz.func113.trans (congrArg some (by kernel_rfl))
  f243 := Tryz.func96.trans (congrArg some (by kernel_rfl))
  f246 := Tryz.func104.trans (congrArg some (by kernel_rfl))
  f283 := Tryz.func107.trans (congrArg some (by kernel_rfl))
  f284 := Tryz.func108.trans (congrArg some (by kernel_rfl))
  f285 := Tryz.func109.trans (congrArg some (by kernel_rfl))
  f286 := Tryz.func110.trans (congrArg some (by kernel_rfl))
  f317 := Tryz.func112.trans (congrArg some (by kernel_rfl))
  f318 := Tryz.func114.trans (congrArg some (by kernel_rfl))
  f319 := Tryz.func115.trans (congrArg some (by kernel_rfl))
  f320 := Tryz.func116.trans (congrArg some (by kernel_rfl))
  f337 := Tryz.func117.trans (congrArg some (by kernel_rfl))
  f338 := Tryz.func118.trans (congrArg some (by kernel_rfl))
  t0 := Tryz.underlying0
  a0 := Tryz.isAgg0
  z0 := Tryz.sizeOf0
  v0 := Tryz.zeroValue0
  t2 := Tryz.underlying2
  a2 := Tryz.isAgg2
  z2 := Tryz.sizeOf2
  v2 := Tryz.zeroValue2
  t3 := Tryz.underlying3
  a3 := Tryz.isAgg3
  z3 := Tryz.sizeOf3
  v3 := Tryz.zeroValue3
  t4 := Tryz.underlying4
  a4 := Tryz.isAgg4
  z4 := Tryz.sizeOf4
  v4 := Tryz.zeroValue4
  t5 := Tryz.underlying5
  a5 := Tryz.isAgg5
  z5 := Tryz.sizeOf5
  v5 := Tryz.zeroValue5
  t9 := Tryz.underlying9
  a9 := Tryz.isAgg9
  z9 := Tryz.sizeOf9
  v9 := Tryz.zeroValue9
  t20 := Tryz.underlying20
  a20 := Tryz.isAgg20
  z20 := Tryz.sizeOf20
  v20 := Tryz.zeroValue20
  t37 := Tryz.underlying84
  a37 := Tryz.isAgg84
  z37 := Tryz.sizeOf84
  v37 := Tryz.zeroValue84
  t46 := Tryz.underlying169
  a46 := Tryz.isAgg169
  z46 := Tryz.sizeOf169
  v46 := Tryz.zeroValue169
  t51 := Tryz.underlying167
  a51 := Tryz.isAgg167
  z51 := Tryz.sizeOf167
  v51 := Tryz.zeroValue167
  t53 := Tryz.underlying159
  a53 := Tryz.isAgg159
  z53 := Tryz.sizeOf159
  v53 := Tryz.zeroValue159
  t171 := Tryz.underlying158
  a171 := Tryz.isAgg158
  z171 := Tryz.sizeOf158
  v171 := Tryz.zeroValue158
  t173 := Tryz.underlying162
  a173 := Tryz.isAgg162
  z173 := Tryz.sizeOf162
  v173 := Tryz.zeroValue162
  t212 := Tryz.underlying166
  a212 := Tryz.isAgg166
  z212 := Tryz.sizeOf166
  v212 := Tryz.zeroValue166
  t213 := Tryz.underlying168
  a213 := Tryz.isAgg168
  z213 := Tryz.sizeOf168
  t232 := Tryz.underlying172
  a232 := Tryz.isAgg172
  z232 := Tryz.sizeOf172
  v232 := Tryz.zeroValue172
  t233 := Tryz.underlying173
  a233 := Tryz.isAgg173
  z233 := Tryz.sizeOf173
  v233 := Tryz.zeroValue173
  g17 := by kernel_rfl
  g18 := by kernel_rfl
  g19 := by kernel_rfl
  i0 := by kernel_rfl
  i2 := by kernel_rfl
  i3 := by kernel_rfl
  i4 := by kernel_rfl
  i5 := by kernel_rfl
  i9 := by kernel_rfl
  i20 := by kernel_rfl
  i37 := by kernel_rfl
  i46 := by kernel_rfl
  i51 := by kernel_rfl
  i53 := by kernel_rfl
  i171 := by kernel_rfl
  i173 := by kernel_rfl
  i212 := by kernel_rfl
  i232 := by kernel_rfl
  i233 := by kernel_rfl
  m17 := by kernel_rfl
  m18 := by kernel_rfl
  m19 := by kernel_rfl }
open Go.RowKit Go.Sort Go.Lib in
/-- internal/strconv.Itoa: "Itoa is equivalent to FormatInt(int64(i), 10).": i's decimal numeral, for every int. (LAID: no walk: one application.) -/
theorem Tryz.internal_strconv_Itoa (n : Int) (h0 : -9223372036854775808 ≤ n) (h1 : n ≤ 9223372036854775807) (w : World) (htab : Lib.TabIs Tryz.prog w "internal/strconv.uint64pow10" .u64 Lib.pow10Tab) :
    Calls Tryz.prog 96 #[.int .i64 n] w fun e w' => e = .returned (.string ⟨(Lib.itoa n).toArray⟩) ∧ ∃ k os, w' = grow (w.drewN k) os := Any.internal_strconv_Itoa Tryz.laysM243 n h0 h1 w htab
def Tryz.lays243_ren : Go.Shelf.Ren := ⟨fun | 243 => 96 | 246 => 104 | 283 => 107 | 284 => 108 | 285 => 109 | 286 => 110 | 129 => 113 | 317 => 112 | 318 => 114 | 319 => 115 | 320 => 116 | 337 => 117 | 338 => 118 | n => n, fun | 3 => 3 | 9 => 9 | 2 => 2 | 4 => 4 | 171 => 158 | 0 => 0 | 53 => 159 | 37 => 84 | 5 => 5 | 173 => 162 | 212 => 166 | 51 => 167 | 20 => 20 | 213 => 168 | 46 => 169 | 232 => 172 | 233 => 173 | n => n, fun | 17 => 0 | 18 => 2 | 19 => 3 | n => n⟩
theorem Tryz.lays243 : Go.Proofs.Lays.n243 Tryz.prog Tryz.lays243_ren := {
  mixed := by kernel_rfl
  f129 := Tryz.func113.trans (congrArg some (by kernel_rfl))
  f243 := Tryz.func96.trans (congrArg some (by kernel_rfl))
  f246 := Tryz.func104.trans (congrArg some (by kernel_rfl))
  f283 := Tryz.func107.trans (congrArg some (by kernel_rfl))
  f284 := Tryz.func108.trans (congrArg some (by kernel_rfl))
  f285 := Tryz.func109.trans (congrArg some (by kernel_rfl))
  f286 := Tryz.func110.trans (congrArg some (by kernel_rfl))
  f317 := Tryz.func112.trans (congrArg some (by kernel_rfl))
  f318 := Tryz.func114.trans (congrArg some (by kernel_rfl))
  f319 := Tryz.func115.trans (congrArg some (by kernel_rfl))
  f320 := Tryz.func116.trans (congrArg some (by kernel_rfl))
  f337 := Tryz.func117.trans (congrArg some (by kernel_rfl))
  f338 := Tryz.func118.trans (congrArg some (by kernel_rfl))
  t0 := Tryz.underlying0
  a0 := Tryz.isAgg0
  z0 := Tryz.sizeOf0
  v0 := Tryz.zeroValue0
  t2 := Tryz.underlying2
  a2 := Tryz.isAgg2
  z2 := Tryz.sizeOf2
  v2 := Tryz.zeroValue2
  t3 := Tryz.underlying3
  a3 := Tryz.isAgg3
  z3 := Tryz.sizeOf3
  v3 := Tryz.zeroValue3
  t4 := Tryz.underlying4
  a4 := Tryz.isAgg4
  z4 := Tryz.sizeOf4
  v4 := Tryz.zeroValue4
  t5 := Tryz.underlying5
  a5 := Tryz.isAgg5
  z5 := Tryz.sizeOf5
  v5 := Tryz.zeroValue5
  t9 := Tryz.underlying9
  a9 := Tryz.isAgg9
  z9 := Tryz.sizeOf9
  v9 := Tryz.zeroValue9
  t20 := Tryz.underlying20
  a20 := Tryz.isAgg20
  z20 := Tryz.sizeOf20
  v20 := Tryz.zeroValue20
  t37 := Tryz.underlying84
  a37 := Tryz.isAgg84
  z37 := Tryz.sizeOf84
  v37 := Tryz.zeroValue84
  t46 := Tryz.underlying169
  a46 := Tryz.isAgg169
  z46 := Tryz.sizeOf169
  v46 := Tryz.zeroValue169
  t51 := Tryz.underlying167
  a51 := Tryz.isAgg167
  z51 := Tryz.sizeOf167
  v51 := Tryz.zeroValue167
  t53 := Tryz.underlying159
  a53 := Tryz.isAgg159
  z53 := Tryz.sizeOf159
  v53 := Tryz.zeroValue159
  t171 := Tryz.underlying158
  a171 := Tryz.isAgg158
  z171 := Tryz.sizeOf158
  v171 := Tryz.zeroValue158
  t173 := Tryz.underlying162
  a173 := Tryz.isAgg162
  z173 := Tryz.sizeOf162
  v173 := Tryz.zeroValue162
  t212 := Tryz.underlying166
  a212 := Tryz.isAgg166
  z212 := Tryz.sizeOf166
  v212 := Tryz.zeroValue166
  t213 := Tryz.underlying168
  a213 := Tryz.isAgg168
  z213 := Tryz.sizeOf168
  t232 := Tryz.underlying172
  a232 := Tryz.isAgg172
  z232 := Tryz.sizeOf172
  v232 := Tryz.zeroValue172
  t233 := Tryz.underlying173
  a233 := Tryz.isAgg173
  z233 := Tryz.sizeOf173
  v233 := Tryz.zeroValue173
  g17 := by kernel_rfl
  g18 := by kernel_rfl
  g19 := by kernel_rfl }
open Go.RowKit Go.Sort Go.Lib in
/-- THE ROAD WITHOUT THE TABLE: 0 <= i < 100. (LAID: no walk: one application.) -/
theorem Tryz.internal_strconv_Itoa_small (i : Nat) (hi : i < 100) (w : World) :
    Calls Tryz.prog 96 #[.int .i64 i] w fun e w' => e = .returned (.string ⟨(Lib.decDigits i).toArray⟩) ∧ w' = w := Any.internal_strconv_Itoa_small Tryz.lays243 i hi w
def Tryz.laysM171_ren : Go.Shelf.Ren := ⟨fun | 171 => 66 | 243 => 96 | 246 => 104 | 283 => 107 | 284 => 108 | 285 => 109 | 286 => 110 | 129 => 113 | 317 => 112 | 318 => 114 | 319 => 115 | 320 => 116 | 337 => 117 | 338 => 118 | n => n, fun | 3 => 3 | 9 => 9 | 2 => 2 | 4 => 4 | 171 => 158 | 0 => 0 | 53 => 159 | 37 => 84 | 5 => 5 | 173 => 162 | 212 => 166 | 51 => 167 | 20 => 20 | 213 => 168 | 46 => 169 | 232 => 172 | 233 => 173 | n => n, fun | 17 => 0 | 18 => 2 | 19 => 3 | n => n⟩
theorem Tryz.laysM171 : Go.Proofs.LaysM.n171 Tryz.prog Tryz.laysM171_ren := {
  mixed := by kernel_rfl
  f129 := Tryz.func113.trans (congrArg some (by kernel_rfl))
  f171 := Tryz.func66.trans (congrArg some (by kernel_rfl))
  f243 := Tryz.func96.trans (congrArg some (by kernel_rfl))
  f246 := Tryz.func104.trans (congrArg some (by kernel_rfl))
  f283 := Tryz.func107.trans (congrArg some (by kernel_rfl))
  f284 := Tryz.func108.trans (congrArg some (by kernel_rfl))
  f285 := Tryz.func109.trans (congrArg some (by kernel_rfl))
  f286 := Tryz.func110.trans (congrArg some (by kernel_rfl))
  f317 := Tryz.func112.trans (congrArg some (by kernel_rfl))
  f318 := Tryz.func114.trans (congrArg some (by kernel_rfl))
  f319 := Tryz.func115.trans (congrArg some (by kernel_rfl))
  f320 := Tryz.func116.trans (congrArg some (by kernel_rfl))
  f337 := Tryz.func117.trans (congrArg some (by kernel_rfl))
  f338 := Tryz.func118.trans (congrArg some (by kernel_rfl))
  t0 := Tryz.underlying0
  a0 := Tryz.isAgg0
  z0 := Tryz.sizeOf0
  v0 := Tryz.zeroValue0
  t2 := Tryz.underlying2
  a2 := Tryz.isAgg2
  z2 := Tryz.sizeOf2
  v2 := Tryz.zeroValue2
  t3 := Tryz.underlying3
  a3 := Tryz.isAgg3
  z3 := Tryz.sizeOf3
  v3 := Tryz.zeroValue3
  t4 := Tryz.underlying4
  a4 := Tryz.isAgg4
  z4 := Tryz.sizeOf4
  v4 := Tryz.zeroValue4
  t5 := Tryz.underlying5
  a5 := Tryz.isAgg5
  z5 := Tryz.sizeOf5
  v5 := Tryz.zeroValue5
  t9 := Tryz.underlying9
  a9 := Tryz.isAgg9
  z9 := Tryz.sizeOf9
  v9 := Tryz.zeroValue9
  t20 := Tryz.underlying20
  a20 := Tryz.isAgg20
  z20 := Tryz.sizeOf20
  v20 := Tryz.zeroValue20
  t37 := Tryz.underlying84
  a37 := Tryz.isAgg84
  z37 := Tryz.sizeOf84
  v37 := Tryz.zeroValue84
  t46 := Tryz.underlying169
  a46 := Tryz.isAgg169
  z46 := Tryz.sizeOf169
  v46 := Tryz.zeroValue169
  t51 := Tryz.underlying167
  a51 := Tryz.isAgg167
  z51 := Tryz.sizeOf167
  v51 := Tryz.zeroValue167
  t53 := Tryz.underlying159
  a53 := Tryz.isAgg159
  z53 := Tryz.sizeOf159
  v53 := Tryz.zeroValue159
  t171 := Tryz.underlying158
  a171 := Tryz.isAgg158
  z171 := Tryz.sizeOf158
  v171 := Tryz.zeroValue158
  t173 := Tryz.underlying162
  a173 := Tryz.isAgg162
  z173 := Tryz.sizeOf162
  v173 := Tryz.zeroValue162
  t212 := Tryz.underlying166
  a212 := Tryz.isAgg166
  z212 := Tryz.sizeOf166
  v212 := Tryz.zeroValue166
  t213 := Tryz.underlying168
  a213 := Tryz.isAgg168
  z213 := Tryz.sizeOf168
  t232 := Tryz.underlying172
  a232 := Tryz.isAgg172
  z232 := Tryz.sizeOf172
  v232 := Tryz.zeroValue172
  t233 := Tryz.underlying173
  a233 := Tryz.isAgg173
  z233 := Tryz.sizeOf173
  v233 := Tryz.zeroValue173
  g17 := by kernel_rfl
  g18 := by kernel_rfl
  g19 := by kernel_rfl
  i0 := by kernel_rfl
  i2 := by kernel_rfl
  i3 := by kernel_rfl
  i4 := by kernel_rfl
  i5 := by kernel_rfl
  i9 := by kernel_rfl
  i20 := by kernel_rfl
  i37 := by kernel_rfl
  i46 := by kernel_rfl
  i51 := by kernel_rfl
  i53 := by kernel_rfl
  i171 := by kernel_rfl
  i173 := by kernel_rfl
  i212 := by kernel_rfl
  i232 := by kernel_rfl
  i233 := by kernel_rfl
  m17 := by kernel_rfl
  m18 := by kernel_rfl
  m19 := by kernel_rfl }
open Go.RowKit Go.Sort Go.Lib in
/-- strconv.Itoa: "Itoa is equivalent to FormatInt(int64(i), 10).": i's DECIMAL NUMERAL ('Lib.itoa': a '-' where i is negative, then the digits), FOR EVERY int. The world behind the call: the world before it, new blocks behind the heap (the library's 'var a [24]byte'), draws. (LAID: no walk: one application.) -/
theorem Tryz.strconv_Itoa (n : Int) (h0 : -9223372036854775808 ≤ n) (h1 : n ≤ 9223372036854775807) (w : World) (htab : Lib.TabIs Tryz.prog w "internal/strconv.uint64pow10" .u64 Lib.pow10Tab) :
    Calls Tryz.prog 66 #[.int .i64 n] w fun e w' => e = .returned (.string ⟨(Lib.itoa n).toArray⟩) ∧ ∃ k os, w' = grow (w.drewN k) os := Any.strconv_Itoa Tryz.laysM171 n h0 h1 w htab
def Tryz.lays171_ren : Go.Shelf.Ren := ⟨fun | 171 => 66 | 243 => 96 | 246 => 104 | 283 => 107 | 284 => 108 | 285 => 109 | 286 => 110 | 129 => 113 | 317 => 112 | 318 => 114 | 319 => 115 | 320 => 116 | 337 => 117 | 338 => 118 | n => n, fun | 3 => 3 | 9 => 9 | 2 => 2 | 4 => 4 | 171 => 158 | 0 => 0 | 53 => 159 | 37 => 84 | 5 => 5 | 173 => 162 | 212 => 166 | 51 => 167 | 20 => 20 | 213 => 168 | 46 => 169 | 232 => 172 | 233 => 173 | n => n, fun | 17 => 0 | 18 => 2 | 19 => 3 | n => n⟩
theorem Tryz.lays171 : Go.Proofs.Lays.n171 Tryz.prog Tryz.lays171_ren := {
  mixed := by kernel_rfl
  f129 := Tryz.func113.trans (congrArg some (by kernel_rfl))
  f171 := Tryz.func66.trans (congrArg some (by kernel_rfl))
  f243 := Tryz.func96.trans (congrArg some (by kernel_rfl))
  f246 := Tryz.func104.trans (congrArg some (by kernel_rfl))
  f283 := Tryz.func107.trans (congrArg some (by kernel_rfl))
  f284 := Tryz.func108.trans (congrArg some (by kernel_rfl))
  f285 := Tryz.func109.trans (congrArg some (by kernel_rfl))
  f286 := Tryz.func110.trans (congrArg some (by kernel_rfl))
  f317 := Tryz.func112.trans (congrArg some (by kernel_rfl))
  f318 := Tryz.func114.trans (congrArg some (by kernel_rfl))
  f319 := Tryz.func115.trans (congrArg some (by kernel_rfl))
  f320 := Tryz.func116.trans (congrArg some (by kernel_rfl))
  f337 := Tryz.func117.trans (congrArg some (by kernel_rfl))
  f338 := Tryz.func118.trans (congrArg some (by kernel_rfl))
  t0 := Tryz.underlying0
  a0 := Tryz.isAgg0
  z0 := Tryz.sizeOf0
  v0 := Tryz.zeroValue0
  t2 := Tryz.underlying2
  a2 := Tryz.isAgg2
  z2 := Tryz.sizeOf2
  v2 := Tryz.zeroValue2
  t3 := Tryz.underlying3
  a3 := Tryz.isAgg3
  z3 := Tryz.sizeOf3
  v3 := Tryz.zeroValue3
  t4 := Tryz.underlying4
  a4 := Tryz.isAgg4
  z4 := Tryz.sizeOf4
  v4 := Tryz.zeroValue4
  t5 := Tryz.underlying5
  a5 := Tryz.isAgg5
  z5 := Tryz.sizeOf5
  v5 := Tryz.zeroValue5
  t9 := Tryz.underlying9
  a9 := Tryz.isAgg9
  z9 := Tryz.sizeOf9
  v9 := Tryz.zeroValue9
  t20 := Tryz.underlying20
  a20 := Tryz.isAgg20
  z20 := Tryz.sizeOf20
  v20 := Tryz.zeroValue20
  t37 := Tryz.underlying84
  a37 := Tryz.isAgg84
  z37 := Tryz.sizeOf84
  v37 := Tryz.zeroValue84
  t46 := Tryz.underlying169
  a46 := Tryz.isAgg169
  z46 := Tryz.sizeOf169
  v46 := Tryz.zeroValue169
  t51 := Tryz.underlying167
  a51 := Tryz.isAgg167
  z51 := Tryz.sizeOf167
  v51 := Tryz.zeroValue167
  t53 := Tryz.underlying159
  a53 := Tryz.isAgg159
  z53 := Tryz.sizeOf159
  v53 := Tryz.zeroValue159
  t171 := Tryz.underlying158
  a171 := Tryz.isAgg158
  z171 := Tryz.sizeOf158
  v171 := Tryz.zeroValue158
  t173 := Tryz.underlying162
  a173 := Tryz.isAgg162
  z173 := Tryz.sizeOf162
  v173 := Tryz.zeroValue162
  t212 := Tryz.underlying166
  a212 := Tryz.isAgg166
  z212 := Tryz.sizeOf166
  v212 := Tryz.zeroValue166
  t213 := Tryz.underlying168
  a213 := Tryz.isAgg168
  z213 := Tryz.sizeOf168
  t232 := Tryz.underlying172
  a232 := Tryz.isAgg172
  z232 := Tryz.sizeOf172
  v232 := Tryz.zeroValue172
  t233 := Tryz.underlying173
  a233 := Tryz.isAgg173
  z233 := Tryz.sizeOf173
  v233 := Tryz.zeroValue173
  g17 := by kernel_rfl
  g18 := by kernel_rfl
  g19 := by kernel_rfl }
open Go.RowKit Go.Sort Go.Lib in
/-- THE ROAD WITHOUT THE TABLE: 0 <= i < 100: NO PREMISE ON THE WORLD, AND THE WORLD IS AS IT WAS: a row that keeps its argument in that range need list no table ('laid = []'). (LAID: no walk: one application.) -/
theorem Tryz.strconv_Itoa_small (i : Nat) (hi : i < 100) (w : World) :
    Calls Tryz.prog 66 #[.int .i64 i] w fun e w' => e = .returned (.string ⟨(Lib.decDigits i).toArray⟩) ∧ w' = w := Any.strconv_Itoa_small Tryz.lays171 i hi w
end Go.Proofs
namespace Go.Proofs.YtfkmnneieglolaaGreatDoor
open Go.RowKit Go.Shelf
attribute [local go_sem] Oper.semAt_some
def sflat (L : List ByteArray) : List Value := L.map .string
theorem s_len (L : List ByteArray) : (sflat L).length = L.length := by simp [sflat]
theorem str_info : (Tryz.prog.info? 9).map (fun i => (i.zero, i.size, i.bytes)) = some (some (.string ⟨#[]⟩), 1, 16) := by kernel_rfl
theorem str_append {ops : Array Oper} {rest : List Oper} {o : Oper} {a : Act} {w : World} {Q : Exit → Act → World → Prop} (hgd : o.guard = none) (s x : Operand)
    (ho : o.op = .call { callee := .builtin .append, args := #[s, x], argTypes := #[90, 90] })
    (base : Nat) (v : Value) (L : List ByteArray) (hs : a.eval s = v) (hown : w.ownsRow base 9 1 v L.length (sflat L))
    (bl : Nat) (y : ByteArray) (hx : a.eval x = .slice (some ⟨bl, 0, none⟩) 1 1) (hc : w.cell? ⟨bl, 0, none⟩ = some (.string y)) (hl : L.length ≤ 1000000) (hbase : base ≤ w.heap.size)
    (h : ∀ v' w', w'.ownsRow base 9 1 v' (L ++ [y]).length (sflat (L ++ [y])) → w.grownBy w' v.ownBlock → wpList Tryz.prog ops Q rest (a.put o.dst v') w') : wpList Tryz.prog ops Q (o :: rest) a w := by
  obtain ⟨i0, hi, hz0, hz1, hz2⟩ := info_parts str_info
  refine wpList_append_own _ hgd s x 90 ho base 9 i0 _ 1 16 Tryz.underlying90 hi hz0 hz1 hz2 rfl (by decide) v L.length (sflat L) hs hown ⟨bl, 0, none⟩ 1 1 [.string y] hx rfl ?_ (by simp [Value.oneCell']) (by unfold maxLen; omega) (by omega) hbase ?_
  · have c0 := hc
    intro j u hj
    rw [Go.WideShapes.add_plain, Nat.zero_add]
    match j, hj with
    | 0, hj => simp at hj; subst hj; exact c0
  · intro v' w' h1 h2 _
    refine h v' w' ?_ h2
    rw [List.length_append]
    simpa [sflat] using h1
abbrev TabP (w : World) : Prop := Lib.TabIs Tryz.prog w "internal/strconv.uint64pow10" .u64 Lib.pow10Tab
theorem tab_below {w w' : World} (h : TabP w) (hb : Below w.heap.size w w') : TabP w' := by
  have hg : Tryz.prog.globalNamed "internal/strconv.uint64pow10" = some 0 := by kernel_rfl
  unfold TabP Lib.TabIs World.var? at h ⊢
  rw [hg] at h ⊢
  simp only [Option.bind_some] at h ⊢
  have hlt : 0 < w.heap.size := by
    rcases Nat.lt_or_ge 0 w.heap.size with q | q
    · exact q
    · rw [Array.getElem?_eq_none q] at h; cases h
  rw [hb.block _ hlt]
  exact h
theorem below_itoa (w : World) (k : Nat) (os : Array Obj) : Below w.heap.size w (Go.Sort.grow (w.drewN k) os) :=
  ⟨rfl, rfl, rfl, by simp [Go.Sort.grow], fun i hi => by
    show ((w.drewN k).heap ++ os)[i]? = _
    rw [Array.getElem?_append_left (by show i < w.heap.size; omega)]
    rfl⟩
def itS (n : Int) : ByteArray := ⟨(Lib.itoa n).toArray⟩
theorem itoa_any (n : Int) (h0 : -1000000000000 ≤ n) (h1 : n ≤ 1000000000000) (w : World) (ht : TabP w) :
    Calls Tryz.prog 66 #[.int .i64 n] w fun e w' => e = .returned (.string (itS n)) ∧ Below w.heap.size w w' :=
  (Tryz.strconv_Itoa n (by omega) (by omega) w ht).mono fun e w' ⟨he, k, os, hw⟩ => ⟨he, by rw [hw]; exact below_itoa _ _ _⟩
/-- What a line holds: words, then numbers, a blank between two of them. -/
def lineW (W : List ByteArray) (N : List Int) (k : Nat) : List ByteArray := W ++ (N.take k).map itS
theorem lineW_succ (W : List ByteArray) (N : List Int) (k : Nat) (h : k < N.length) : lineW W N k ++ [itS (ig N k)] = lineW W N (k + 1) := by
  unfold lineW
  rw [List.take_succ_eq_append_getElem h, List.map_append, ← List.append_assoc, ig_eq N k h]
  rfl
def joinS (L : List ByteArray) : ByteArray := ⟨(Lib.join (L.map (·.data.toList)) [32]).toArray⟩
theorem own_ne {w : World} {base n nb : Nat} {v : Value} {xs : List Value} {cs : Array Value} {mk : Nat × Nat} (h : w.ownsRow base 9 1 v n xs) (hn : w.heap[nb]? = some (.cells cs 3 mk)) : v.ownBlock ≠ some nb := by
  rcases h.2 with ⟨rfl, _⟩ | ⟨g, cap, cur, rfl, _, hg, _⟩
  · simp [Value.ownBlock]
  · intro e
    cases e
    rw [hg] at hn
    simp at hn
theorem strs_of_row {w : World} {base : Nat} {v : Value} {L : List ByteArray} (h : w.ownsRow base 9 1 v L.length (sflat L)) (hl : 0 < L.length) : ∃ g cap, v = .slice (some ⟨g, 0, none⟩) L.length cap ∧ L.length ≤ cap ∧ g < w.heap.size ∧ ∀ (j : Nat) x, L[j]? = some x → w.cell? ⟨g, 0 + j, none⟩ = some (.string x) := by
  rcases h.2 with ⟨_, h0⟩ | ⟨g, cap, cur, rfl, hb, hg, h1, h2, _⟩
  · omega
  · refine ⟨g, cap, rfl, h1, (Array.getElem?_eq_some_iff.1 hg).1, fun j x hx => ?_⟩
    have hj : j < L.length := (List.getElem?_eq_some_iff.1 hx).1
    have c := h.cellAt j (by simpa using hj)
    rw [Nat.zero_add, c]
    simp [sflat, hx]
structure LineH (wb : Nat) (w0 w : World) : Prop where
  below : Below wb w0 w
  lo : wb ≤ w.heap.size
set_option maxRecDepth 100000 in
set_option maxHeartbeats 16000000 in
theorem line_any (B b wb nb : Nat) (l : List UInt8) (W : List ByteArray) (vw : Value) (N : List Int) (nc : Nat) (cs : Array Value) (mk : Nat × Nat) (w : World)
    (hBB : B ≤ wb) (hBw : wb ≤ w.heap.size) (hK : ∀ w', Below wb w w' → IsB B b (Lib.byteCells l) w') (hT : ∀ w', Below wb w w' → TabP w') (hw : w.ownsRow wb 9 1 vw W.length (sflat W)) (hnb : w.heap[nb]? = some (.cells cs 3 mk))
    (hcs : ∀ k, k < N.length → cs[k]? = some (.int .i64 (ig N k))) (hl : W.length ≤ 10) (hl1 : 0 < W.length) (hn : N.length ≤ 20) (hnr : ∀ k, k < N.length → -1000000000000 ≤ ig N k ∧ ig N k ≤ 1000000000000) (hbs : l.length ≤ 900000) (hj : (joinS (lineW W N N.length)).size ≤ 900) :
    Calls Tryz.prog 37 #[.pointer (some ⟨b, 0, none⟩), vw, .slice (some ⟨nb, 0, none⟩) N.length nc] w fun e w' => e = .returned (.tuple #[]) ∧ IsB B b (Lib.byteCells (l ++ (joinS (lineW W N N.length)).data.toList ++ [10])) w' ∧ Below B w w' ∧ ∀ c cs T m, c < wb → w.heap[c]? = some (.cells cs T m) → T ≠ 5 → c ≠ b → w'.heap[c]? = w.heap[c]? := by
  have HK := Lib.hid hK
  have HT := Lib.hid hT
  have HCS := Lib.hid hcs
  have HNR := Lib.hid hnr
  have HW := Lib.hid hw
  have HJ := Lib.hid hj
  have HNB := Lib.hid hnb
  have HBB := Lib.hid hBB
  have HL1 := Lib.hid hl1
  have HL : Hid (∀ k, k ≤ N.length → (lineW W N k).length = W.length + k) := Lib.hid fun k hk => by unfold lineW; simp; omega
  have HW0 : Hid (lineW W N 0 = W) := Lib.hid (by unfold lineW; simp)
  clear hK hT hcs hnr hw hj hnb hBB hl1
  go_enter Tryz.func37, Tryz.ntmps37
  go_wp2_with fail
  go_loopw [10, 1] (fun i v wr => ∃ k : Nat, k ≤ N.length ∧ i = .int .i64 k ∧ Hid (wr.ownsRow wb 9 1 v (lineW W N k).length (sflat (lineW W N k))) ∧ Below wb w wr ∧ wb ≤ wr.heap.size ∧ Hid (wr.heap[nb]? = some (.cells cs 3 mk))) (fun i _ _ => N.length - (intOf i).toNat)
  case atStart => exact ⟨0, Nat.zero_le _, rfl, Lib.hid (by rw [HW0.out]; exact HW.out), Below.refl _ _, hBw, HNB⟩
  case round =>
    obtain ⟨k, hk, rfl, HR, hB, hlo, HN⟩ := hrel
    by_cases hlt : k < N.length
    · have c0 : wr.cell? ⟨nb, k, none⟩ = some (.int .i64 (ig N k)) := by rw [Lib.cell_of_heap HN.out]; exact HCS.out k hlt
      have hNl : nb < wr.heap.size := (Array.getElem?_eq_some_iff.1 HN.out).1
      have HNL := Lib.hid hNl
      have HLK : Hid ((lineW W N k).length ≤ 1000000) := Lib.hid (by rw [HL.out k hk]; omega)
      have HSU := Lib.hid (lineW_succ W N k hlt)
      have hkl : (k : Int) < N.length := by omega
      have HI := Lib.hid (itoa_any (ig N k) (HNR.out k hlt).1 (HNR.out k hlt).2 wr (HT.out _ hB))
      obtain ⟨x, hx⟩ : ∃ x, ig N k = x := ⟨_, rfl⟩
      rw [hx] at c0 HI HSU
      clear hx hNl
      go_wp2_with (first
        | (go_at_call 66; (with_reducible refine HI.out.mono ?_); rintro e w1 ⟨rfl, hb1⟩; have HR1 := Lib.hid (ownsRow_below HR.out hb1); have hB1 := hB.trans (hb1.mono hlo); have hlo1 := Nat.le_trans hlo hb1.size; have HN1 := Lib.hid ((hb1.block nb HNL.out).trans HN.out))
        | (at_builtin; refine str_append rfl _ _ rfl wb _ (lineW W N k) rfl (HR1.out.alloc _) _ (itS x) rfl (by simp) HLK.out (by simp; omega) ?_; intro v6 w6 hown6 hg6; rw [HSU.out] at hown6; have HR6 := Lib.hid hown6; have HN6 : Hid (w6.heap[nb]? = some (.cells cs 3 mk)) := Lib.hid ((hg6.block nb (by have := HNL.out; have := hb1.size; simp; omega) (fun e => own_ne HR1.out HN1.out e.symm)).trans (((below_new w1 _).block nb (by have := HNL.out; have := hb1.size; omega)).trans HN1.out)); have hB6 : Below wb w w6 := (hB1.alloc hlo1 (.cells #[.string (itS x)] 9)).grown hg6 (by simp; omega) (fun g e => (HR1.out.lt g e).1); have hlo6 : wb ≤ w6.heap.size := by (have := hg6.size; simp at this; omega)))
      go_roundw
      case rel => exact ⟨k + 1, by omega, by go_num, HR6, hB6, hlo6, HN6⟩
      case measure => simp [intOf]; omega
    · obtain rfl : k = N.length := by omega
      have HLN : Hid ((lineW W N N.length).length ≤ 30 ∧ 0 < (lineW W N N.length).length) := Lib.hid (by rw [HL.out _ (Nat.le_refl _)]; have := HL1.out; omega)
      obtain ⟨LW, hLW⟩ : ∃ LW, lineW W N N.length = LW := ⟨_, rfl⟩
      rw [hLW] at HR HLN HJ
      have HLWE := Lib.hid hLW
      obtain ⟨g, cap, rfl, hcap, hg, hc⟩ := strs_of_row HR.out HLN.out.2
      obtain ⟨J, hJ⟩ : ∃ J, joinS LW = J := ⟨_, rfl⟩
      have HJN : Hid (∀ w', Below wr.heap.size wr w' ∧ wr.heap.size ≤ w'.heap.size → Calls Tryz.prog 68 #[.slice (some ⟨g, 0, none⟩) LW.length cap, .string ⟨#[32]⟩] w' fun e w2 => e = .returned (.string J) ∧ Below w'.heap.size w' w2) := Lib.hid fun w' hw' => by
        have := Tryz.strings_Join g 0 cap LW ⟨#[32]⟩ w' (fun j x hx => (hw'.1.cell (p := ⟨g, 0 + j, none⟩) hg).trans (hc j x hx)) (by omega) (by have := HLN.out; omega) hcap (by
          have := HJ.out
          rw [hJ] at this
          have e : J.size = (Lib.join (LW.map (·.data.toList)) [32]).length := by rw [← hJ]; simp [joinS, ByteArray.size]
          show (Lib.join (LW.map (·.data.toList)) [32]).length ≤ _
          omega)
        rw [← hJ]
        exact this
      have HWR : Hid (∀ w', Below wr.heap.size wr w' ∧ wr.heap.size ≤ w'.heap.size → Calls Tryz.prog 67 #[.pointer (some ⟨b, 0, none⟩), .string (J ++ ⟨#[10]⟩)] w' fun e w3 => e = .returned (.tuple #[.int .i64 ((J ++ ⟨#[10]⟩).size), .nilIface]) ∧ IsB B b (Lib.byteCells l ++ Lib.strCells (J ++ ⟨#[10]⟩)) w3 ∧ Below B w' w3 ∧ Kp b w' w3) := Lib.hid fun w' hw' => write_any B b _ _ w' (HK.out _ (hB.trans (hw'.1.mono hlo))) (by
          have := HJ.out
          rw [hJ] at this
          have e : (J ++ ⟨#[10]⟩).size = J.size + 1 := by simp; rfl
          rw [Lib.byteCells_length, e]
          omega) (by have := HBB.out; omega)
      have hJ9 : ¬ 9223372036854775807 < J.size + 1 := by have := HJ.out; rw [hJ] at this; omega
      have HB := Lib.hid hB
      have HLO := Lib.hid hlo
      clear hcap hg hc hLW hB hlo hk hlt
      have HLWJ : Hid (joinS (lineW W N N.length) = J) := Lib.hid (by rw [← hJ, HLWE.out])
      have HST : Hid (Below wr.heap.size wr wr.drew ∧ wr.heap.size ≤ wr.drew.heap.size) := Lib.hid ⟨(Below.refl _ _).drew, Nat.le_refl _⟩
      have hstB : Below B wr wr.drew := (Below.refl _ _).drew
      have HBR : Hid (B ≤ wr.heap.size) := Lib.hid (Nat.le_trans HBB.out HLO.out)
      have HSZ : Hid ((J ++ ⟨#[10]⟩).data.toList = J.data.toList ++ [10]) := Lib.hid (by simp)
      go_wp2_with fail
      refine wp_region_held_drew (S := (fun w' => Below B wr w')) (by kernel_rfl) (hstB) (fun hHeld => ?_)
      refine tk 0 ?_; refine tk 1 ?_; refine tk 2 ?_; refine tk 3 ?_
      refine wpAnyH_ready (rs := [4]) (by kernel_rfl) (by simp) ?_
      refine AllReadyH.cons (o := _) rfl (fun K hK => ?_) AllReadyH.nil
      try simp only [List.getElem_toArray, List.getElem_cons_succ, List.getElem_cons_zero]
      go_simp
      (go_at_call 68; go_split_ands; (with_reducible refine (HJN.out _ HST.out).mono ?_); rintro e w2 ⟨rfl, hb2⟩)
      go_wp2_with fail
      refine hK.out _ _ (hstB.trans (hb2.mono (Nat.le_trans HBR.out HST.out.2))) (fun hHeld => ?_)
      clear hK K
      try simp only [Act.put, List.setIfInBounds_toArray, List.set_cons_zero, List.set_cons_succ, List.getElem_toArray, List.getElem_cons_succ, List.getElem_cons_zero]
      refine tk 5 ?_
      refine wpAnyH_ready (rs := [6]) (by kernel_rfl) (by simp) ?_
      refine AllReadyH.cons (o := _) rfl (fun K hK => ?_) AllReadyH.nil
      try simp only [List.getElem_toArray, List.getElem_cons_succ, List.getElem_cons_zero]
      go_simp
      (go_at_call 67; (with_reducible refine (HWR.out w2 ⟨HST.out.1.trans (hb2.mono HST.out.2), Nat.le_trans HST.out.2 hb2.size⟩).mono ?_); rintro e w3 ⟨rfl, hI3, hb3, hk3⟩; have HK3 := Lib.hid hk3; clear hk3)
      go_wp2_with fail
      refine hK.out _ _ (hHeld.trans hb3) (fun hHeld => ?_)
      clear hK K
      try simp only [Act.put, List.setIfInBounds_toArray, List.set_cons_zero, List.set_cons_succ, List.getElem_toArray, List.getElem_cons_succ, List.getElem_cons_zero]
      refine wpAnyH_done (by kernel_rfl) ?_ _
      go_wp2_with fail
      go_end0
      have hB2 := HST.out.1.trans (hb2.mono HST.out.2)
      refine ⟨rfl, ?_, (HB.out.mono HBB.out).trans hHeld, fun c cs T m hc e hT hcb => ?_⟩
      rotate_left
      · have e1 := HB.out.block c hc
        have e2 := hB2.block c (by have := HLO.out; omega)
        exact (HK3.out c cs T m (e2.trans (e1.trans e)) hT hcb).trans (e2.trans e1)
      rw [HLWJ.out]
      have e : Lib.byteCells l ++ Lib.strCells (J ++ ⟨#[10]⟩) = Lib.byteCells (l ++ J.data.toList ++ [10]) := by
        unfold Lib.byteCells Lib.strCells
        rw [HSZ.out]
        simp
      rw [← e]
      exact hI3
end Go.Proofs.YtfkmnneieglolaaGreatDoor
namespace Go.Proofs.YtfkmnneieglolaaGreatDoor
open Go.RowKit Go.Shelf
attribute [local go_sem] Oper.semAt_some
structure RoofR where
  name : ByteArray
  lo : Int
  hi : Int
  most : Int

/-! ### Slices of api.Roof -/

def rg (L : List (RoofR)) (i : Nat) : RoofR := (L[i]?).getD ⟨⟨#[]⟩, 0, 0, 0⟩
theorem rg_eq (L : List (RoofR)) (i : Nat) (h : i < L.length) : rg L i = L[i] := by unfold rg; rw [List.getElem?_eq_getElem h]; rfl
theorem rg_get {L : List (RoofR)} {i : Nat} (h : i < L.length) : L[i]? = some (rg L i) := by rw [rg_eq L i h, List.getElem?_eq_getElem h]
theorem rg_ext (F1 F2 : List (RoofR)) (hl : F1.length = F2.length) (h : ∀ j, j < F1.length → rg F1 j = rg F2 j) : F1 = F2 := by
  refine List.ext_getElem hl fun i h1 h2 => ?_
  have := h i h1
  rwa [rg_eq F1 i h1, rg_eq F2 i h2] at this
theorem rg_old (L : List (RoofR)) (x : RoofR) (i : Nat) (h : i < L.length) : rg (L ++ [x]) i = rg L i := by unfold rg; rw [List.getElem?_append_left h]
theorem rg_new (L : List (RoofR)) (x : RoofR) : rg (L ++ [x]) L.length = x := by unfold rg; simp
def roofV (r : RoofR) : Value := .agg #[.string r.name, .int .i64 r.lo, .int .i64 r.hi, .int .i64 r.most]
def rflat (L : List (RoofR)) : List Value := L.flatMap fun r => [.string r.name, .int .i64 r.lo, .int .i64 r.hi, .int .i64 r.most]
theorem rflat_at (L : List (RoofR)) (i : Nat) (hi : i < L.length) : (rflat L)[i * 4]? = some (.string (rg L i).name) ∧ (rflat L)[i * 4 + 1]? = some (.int .i64 (rg L i).lo) ∧ (rflat L)[i * 4 + 2]? = some (.int .i64 (rg L i).hi) ∧ (rflat L)[i * 4 + 3]? = some (.int .i64 (rg L i).most) := by
  induction L generalizing i with
  | nil => simp at hi
  | cons x r ih =>
    match i with
    | 0 => exact ⟨rfl, rfl, rfl, rfl⟩
    | i + 1 =>
      have := ih i (by simpa using hi)
      have e : rflat (x :: r) = .string x.name :: .int .i64 x.lo :: .int .i64 x.hi :: .int .i64 x.most :: rflat r := rfl
      rw [e, show (i + 1) * 4 = i * 4 + 1 + 1 + 1 + 1 by omega]
      simpa [rg] using this
theorem rflat_snoc (L : List (RoofR)) (r : RoofR) : rflat (L ++ [r]) = rflat L ++ [.string r.name, .int .i64 r.lo, .int .i64 r.hi, .int .i64 r.most] := by simp [rflat]
/-- The elements of a slice at address a are L; they lie in a block below n₀. -/
def Roofs (n₀ : Nat) (w : World) (a : Option Addr) (L : List (RoofR)) : Prop :=
  0 < L.length → ∃ b off, a = some ⟨b, off, none⟩ ∧ b < n₀ ∧ ∀ i, i < L.length → w.cell? ⟨b, off + i * 4, none⟩ = some (.string (rg L i).name) ∧ w.cell? ⟨b, off + i * 4 + 1, none⟩ = some (.int .i64 (rg L i).lo) ∧ w.cell? ⟨b, off + i * 4 + 2, none⟩ = some (.int .i64 (rg L i).hi) ∧ w.cell? ⟨b, off + i * 4 + 3, none⟩ = some (.int .i64 (rg L i).most)
theorem Roofs.below {n₀ : Nat} {w w' : World} {a : Option Addr} {L : List (RoofR)} (h : Roofs n₀ w a L) (hb : Below n₀ w w') : Roofs n₀ w' a L := fun hl => by
  obtain ⟨b, off, rfl, hlt, hc⟩ := h hl
  refine ⟨b, off, rfl, hlt, fun i hi => ?_⟩
  obtain ⟨c0, c1, c2, c3⟩ := hc i hi
  exact ⟨(hb.cell (p := ⟨b, _, none⟩) hlt).trans c0, (hb.cell (p := ⟨b, _, none⟩) hlt).trans c1, (hb.cell (p := ⟨b, _, none⟩) hlt).trans c2, (hb.cell (p := ⟨b, _, none⟩) hlt).trans c3⟩
theorem Roofs.mono {n₀ n₁ : Nat} {w : World} {a : Option Addr} {L : List (RoofR)} (h : Roofs n₀ w a L) (hn : n₀ ≤ n₁) : Roofs n₁ w a L := fun hl => by
  obtain ⟨b, off, rfl, hlt, hc⟩ := h hl
  exact ⟨b, off, rfl, by omega, hc⟩
theorem Roofs.grow {w w' : World} {a : Option Addr} {L : List (RoofR)} (h : Roofs w.heap.size w a L) (hb : Below w.heap.size w w') : Roofs w'.heap.size w' a L := (h.below hb).mono hb.size
theorem Roofs.nil {n₀ : Nat} {w : World} {a : Option Addr} : Roofs n₀ w a [] := fun h => absurd h (Nat.not_lt_zero _)
/-- The first n of them. -/
theorem Roofs.take {n₀ : Nat} {w : World} {a : Option Addr} {L : List (RoofR)} (h : Roofs n₀ w a L) (n : Nat) : Roofs n₀ w a (L.take n) := fun hl => by
  have hl' : 0 < L.length := by rw [List.length_take] at hl; omega
  obtain ⟨b, off, rfl, hlt, hc⟩ := h hl'
  refine ⟨b, off, rfl, hlt, fun i hi => ?_⟩
  rw [List.length_take] at hi
  have e : rg (L.take n) i = rg L i := by unfold rg; rw [List.getElem?_take, if_pos (by omega)]
  rw [e]
  exact hc i (by omega)
theorem roof_len (L : List (RoofR)) : (rflat L).length = L.length * 4 := by
  induction L with
  | nil => rfl
  | cons x r ih =>
    have e : rflat (x :: r) = .string x.name :: .int .i64 x.lo :: .int .i64 x.hi :: .int .i64 x.most :: rflat r := rfl
    rw [e]
    simp only [List.length_cons, ih]
    try omega
theorem roof_one (L : List (RoofR)) : ∀ u ∈ rflat L, u.oneCell' = true := by
  induction L with
  | nil => intro u hu; cases hu
  | cons x r ih =>
    have e : rflat (x :: r) = .string x.name :: .int .i64 x.lo :: .int .i64 x.hi :: .int .i64 x.most :: rflat r := rfl
    rw [e]
    intro u hu
    simp only [List.mem_cons] at hu
    rcases hu with rfl | rfl | rfl | rfl | hu
    · rfl
    · rfl
    · rfl
    · rfl
    · exact ih u hu
/-- A slice of records: its cells, one behind the other. -/
theorem roof_cells {n₀ : Nat} {w : World} {b off : Nat} {L : List (RoofR)} (h : Roofs n₀ w (some ⟨b, off, none⟩) L) : ∀ j u, (rflat L)[j]? = some u → w.cell? ((⟨b, off, none⟩ : Addr).add j) = some u := by
  intro j u hj
  have hlt : j < L.length * 4 := by
    rw [← roof_len]
    exact (List.getElem?_eq_some_iff.1 hj).1
  obtain ⟨b', off', e, _, hc⟩ := h (by omega)
  simp only [Option.some.injEq, Addr.mk.injEq, and_true] at e
  obtain ⟨rfl, rfl⟩ := e
  rw [Go.WideShapes.add_plain]
  obtain ⟨f0, f1, f2, f3⟩ := rflat_at L (j / 4) (by omega)
  obtain ⟨c0, c1, c2, c3⟩ := hc (j / 4) (by omega)
  rcases (show j = j / 4 * 4 ∨ j = j / 4 * 4 + 1 ∨ j = j / 4 * 4 + 2 ∨ j = j / 4 * 4 + 3 by omega) with e | e | e | e
  · first | (rw [e, f0] at hj; rw [e, c0]; exact hj) | (rw [e, f0] at hj; rw [e, ← Nat.add_assoc, c0]; exact hj)
  · first | (rw [e, f1] at hj; rw [e, c1]; exact hj) | (rw [e, f1] at hj; rw [e, ← Nat.add_assoc, c1]; exact hj)
  · first | (rw [e, f2] at hj; rw [e, c2]; exact hj) | (rw [e, f2] at hj; rw [e, ← Nat.add_assoc, c2]; exact hj)
  · first | (rw [e, f3] at hj; rw [e, c3]; exact hj) | (rw [e, f3] at hj; rw [e, ← Nat.add_assoc, c3]; exact hj)
/-- A row of the call's own reads so. -/
theorem roof_of_row {w : World} {base : Nat} {v : Value} {L : List (RoofR)} (h : w.ownsRow base 92 4 v L.length (rflat L)) : ∃ a cap, v = .slice a L.length cap ∧ L.length ≤ cap ∧ cap ≤ maxLen ∧ (a = none → cap = 0) ∧ Roofs w.heap.size w a L := by
  rcases h.2 with ⟨rfl, h0⟩ | ⟨g, cap, cur, rfl, hb, hg, h1, h2, _⟩
  · exact ⟨none, 0, by rw [h0], by omega, by unfold maxLen; omega, fun _ => rfl, fun hl => by omega⟩
  · refine ⟨_, cap, rfl, h1, h2, (fun e => by cases e), fun _ => ⟨g, 0, rfl, (Array.getElem?_eq_some_iff.1 hg).1, fun i hi => ?_⟩⟩
    obtain ⟨f0, f1, f2, f3⟩ := rflat_at L i hi
    have c0 := h.cellAt (i * 4) (by omega)
    have c1 := h.cellAt (i * 4 + 1) (by omega)
    have c2 := h.cellAt (i * 4 + 2) (by omega)
    have c3 := h.cellAt (i * 4 + 3) (by omega)
    rw [f0] at c0
    rw [f1] at c1
    rw [f2] at c2
    rw [f3] at c3
    rw [Nat.zero_add]
    exact ⟨c0, c1, c2, c3⟩
/-- A closure that asks p of an element, wherever it is called later. -/
def AsksRoof (g : Nat) (cb : Array Value) (n₀ : Nat) (w : World) (p : RoofR → Bool) : Prop :=
  ∀ (W : World) (r : RoofR), Below n₀ w W → Calls Tryz.prog g (#[roofV r] ++ cb) W fun e w' => e = .returned (.bool (p r)) ∧ Below W.heap.size W w'
theorem roof_asks_mono {g : Nat} {cb : Array Value} {n₀ n₁ : Nat} {w : World} {p : RoofR → Bool} (h : AsksRoof g cb n₀ w p) (hn : n₀ ≤ n₁) : AsksRoof g cb n₁ w p := fun W r hb => h W r (hb.mono hn)
theorem roof_asks_below {g : Nat} {cb : Array Value} {n₀ : Nat} {w w' : World} {p : RoofR → Bool} (h : AsksRoof g cb n₀ w p) (hb : Below n₀ w w') : AsksRoof g cb n₀ w' p := fun W r hb' => h W r (hb.trans hb')
/-- The first index at which p holds; -1 if there is none. -/
def roof_first (L : List (RoofR)) (p : RoofR → Bool) : Int := match (List.range L.length).find? (fun i => p (rg L i)) with
  | some i => i
  | none => -1
theorem roof_first_hit (L : List (RoofR)) (p : RoofR → Bool) (k : Nat) (hk : k < L.length) (h : p (rg L k) = true) (hn : ∀ j, j < k → p (rg L j) = false) : roof_first L p = k := by
  unfold roof_first
  have : (List.range L.length).find? (fun i => p (rg L i)) = some k := by
    rw [List.find?_eq_some_iff_getElem]
    refine ⟨by simpa using h, k, by simpa using hk, by simp, fun j hj => ?_⟩
    simpa using hn j hj
  rw [this]
theorem roof_first_miss (L : List (RoofR)) (p : RoofR → Bool) (hn : ∀ j, j < L.length → p (rg L j) = false) : roof_first L p = -1 := by
  unfold roof_first
  have : (List.range L.length).find? (fun i => p (rg L i)) = none := by
    rw [List.find?_eq_none]
    intro x hx
    simpa using hn x (by simpa using hx)
  rw [this]
theorem roof_first_cases (L : List (RoofR)) (p : RoofR → Bool) : (roof_first L p = -1 ∧ ∀ j, j < L.length → p (rg L j) = false) ∨ ∃ k : Nat, k < L.length ∧ roof_first L p = k ∧ p (rg L k) = true ∧ ∀ j, j < k → p (rg L j) = false := by
  have main : ∀ n, n ≤ L.length → (∀ j, j < n → p (rg L j) = false) ∨ ∃ k, k < n ∧ p (rg L k) = true ∧ ∀ j, j < k → p (rg L j) = false := by
    intro n
    induction n with
    | zero => exact fun _ => .inl fun j hj => absurd hj (Nat.not_lt_zero _)
    | succ n ih =>
      intro hn
      rcases ih (by omega) with h | ⟨k, hk, h1, h2⟩
      · cases e : p (rg L n)
        · refine .inl fun j hj => ?_
          rcases Nat.lt_or_ge j n with l | l
          · exact h j l
          · obtain rfl : j = n := by omega
            exact e
        · exact .inr ⟨n, by omega, e, h⟩
      · exact .inr ⟨k, by omega, h1, h2⟩
  rcases main L.length (Nat.le_refl _) with h | ⟨k, hk, h1, h2⟩
  · exact .inl ⟨roof_first_miss L p h, h⟩
  · exact .inr ⟨k, hk, roof_first_hit L p k hk h1 h2, h1, h2⟩
def roof_any (L : List (RoofR)) (p : RoofR → Bool) : Bool := decide (0 ≤ roof_first L p)
theorem roof_any_eq (L : List (RoofR)) (p : RoofR → Bool) : roof_any L p = L.any p := by
  unfold roof_any
  rw [Bool.eq_iff_iff, List.any_eq_true, decide_eq_true_eq]
  rcases roof_first_cases L p with ⟨h, h2⟩ | ⟨k, hk, h, h1, _⟩
  · rw [h]
    refine ⟨fun h => by omega, fun ⟨x, hx, hp⟩ => ?_⟩
    obtain ⟨j, hj, e⟩ := List.getElem_of_mem hx
    have := h2 j hj
    rw [rg_eq L j hj, e, hp] at this
    cases this
  · rw [h]
    exact ⟨fun _ => ⟨_, by rw [rg_eq L k hk]; exact List.getElem_mem hk, h1⟩, fun _ => by omega⟩

set_option maxHeartbeats 2000000 in
theorem roof_indexFunc (a : Option Addr) (L : List (RoofR)) (cap n₀ g : Nat) (cb : Array Value) (p : RoofR → Bool) (w : World) (eg : ∀ args w, (callFunc g args).run Tryz.prog w = .ok (.enter g args) w)
    (hl : L.length ≤ 1100) (hn₀ : n₀ ≤ w.heap.size) (hI : Roofs n₀ w a L) (hp : AsksRoof g cb n₀ w p) :
    Calls Tryz.prog 103 #[.slice a L.length cap, .func (.func g) #[] cb] w fun e w' => e = .returned (.int .i64 (roof_first L p)) ∧ Below w.heap.size w w' := by
  have HI := Lib.hid hI; clear hI
  have HP := Lib.hid hp; clear hp
  go_enter Tryz.func103, Tryz.ntmps103
  go_wp2
  go_loopw [8] (fun i wr => ∃ k : Nat, k ≤ L.length ∧ i = .int .i64 k ∧ Below w.heap.size w wr ∧ Hid (∀ j, j < k → p (rg L j) = false)) (fun i _ => L.length - (intOf i).toNat)
  case atStart => exact ⟨0, Nat.zero_le _, rfl, Below.refl _ _, Lib.hid (fun _ h => absurd h (Nat.not_lt_zero _))⟩
  case round =>
    obtain ⟨k, hk, rfl, hB, HA⟩ := hrel
    by_cases hlt : k < L.length
    · obtain ⟨b, off, rfl, hb, hc⟩ := HI.out (by omega)
      obtain ⟨c0, c1, c2, c3⟩ := hc k hlt
      have d0 := (hB.cell (p := ⟨b, off + k * 4, none⟩) (show b < w.heap.size by omega)).trans c0
      have d1 := (hB.cell (p := ⟨b, off + k * 4 + 1, none⟩) (show b < w.heap.size by omega)).trans c1
      have d2 := (hB.cell (p := ⟨b, off + k * 4 + 2, none⟩) (show b < w.heap.size by omega)).trans c2
      have d3 := (hB.cell (p := ⟨b, off + k * 4 + 3, none⟩) (show b < w.heap.size by omega)).trans c3
      clear c0 c1 c2 c3 hc
      have HC := Lib.hid (show Calls Tryz.prog g (#[.agg #[.string (rg L k).name, .int .i64 (rg L k).lo, .int .i64 (rg L k).hi, .int .i64 (rg L k).most]] ++ cb) wr _ from HP.out wr (rg L k) (hB.mono hn₀))
      obtain ⟨bv, hbv⟩ : ∃ bv, p (rg L k) = bv := ⟨_, rfl⟩
      rw [hbv] at HC
      cases bv
      · have HB : Hid (∀ j, j < k + 1 → p (rg L j) = false) := Lib.hid fun j hj => by
          rcases Nat.lt_or_ge j k with l | l
          · exact HA.out j l
          · obtain rfl : j = k := by omega
            exact hbv
        clear hbv
        go_wp2_with ((with_reducible refine HC.out.mono ?_); rintro e w1 ⟨rfl, hb1⟩)
        go_roundw
        case rel => exact ⟨k + 1, by omega, by go_num, hB.trans (hb1.mono hB.size), HB⟩
        case measure => simp [intOf]; omega
      · have H := Lib.hid (roof_first_hit L p k hlt hbv HA.out)
        clear hbv
        go_wp2_with ((with_reducible refine HC.out.mono ?_); rintro e w1 ⟨rfl, hb1⟩)
        go_ret
        exact ⟨ret_int H.out.symm, hB.trans (hb1.mono hB.size)⟩
    · obtain rfl : k = L.length := by omega
      have H := Lib.hid (roof_first_miss L p HA.out)
      go_wp2
      go_ret
      exact ⟨ret_int H.out.symm, hB⟩

set_option maxHeartbeats 1000000 in
theorem roof_containsFunc (a : Option Addr) (L : List (RoofR)) (cap n₀ g : Nat) (cb : Array Value) (p : RoofR → Bool) (w : World) (eg : ∀ args w, (callFunc g args).run Tryz.prog w = .ok (.enter g args) w)
    (hl : L.length ≤ 1100) (hn₀ : n₀ ≤ w.heap.size) (hI : Roofs n₀ w a L) (hp : AsksRoof g cb n₀ w p) :
    Calls Tryz.prog 90 #[.slice a L.length cap, .func (.func g) #[] cb] w fun e w' => e = .returned (.bool (roof_any L p)) ∧ Below w.heap.size w w' := by
  have HC := Lib.hid (roof_indexFunc a L cap n₀ g cb p w eg hl hn₀ hI hp)
  clear hI hp eg
  go_enter Tryz.func90, Tryz.ntmps90
  go_wp2_with (go_at_call 103; (with_reducible refine HC.out.mono ?_); rintro e w1 ⟨rfl, hb1⟩)
  go_ret
  exact ⟨rfl, hb1⟩

/-! ### Slices of api.Set -/

def hg (L : List (SetR)) (i : Nat) : SetR := (L[i]?).getD ⟨⟨#[]⟩, 0, 0, 0, 0, none, [], 0, 0, 0, 0, 0, 0, none, [], 0, none, [], 0⟩
theorem hg_eq (L : List (SetR)) (i : Nat) (h : i < L.length) : hg L i = L[i] := by unfold hg; rw [List.getElem?_eq_getElem h]; rfl
theorem hg_get {L : List (SetR)} {i : Nat} (h : i < L.length) : L[i]? = some (hg L i) := by rw [hg_eq L i h, List.getElem?_eq_getElem h]
theorem hg_ext (F1 F2 : List (SetR)) (hl : F1.length = F2.length) (h : ∀ j, j < F1.length → hg F1 j = hg F2 j) : F1 = F2 := by
  refine List.ext_getElem hl fun i h1 h2 => ?_
  have := h i h1
  rwa [hg_eq F1 i h1, hg_eq F2 i h2] at this
theorem hg_old (L : List (SetR)) (x : SetR) (i : Nat) (h : i < L.length) : hg (L ++ [x]) i = hg L i := by unfold hg; rw [List.getElem?_append_left h]
theorem hg_new (L : List (SetR)) (x : SetR) : hg (L ++ [x]) L.length = x := by unfold hg; simp
def setV (r : SetR) : Value := .agg #[.string r.name, .int .i64 r.depth, .int .i64 r.low, .int .i64 r.high, .int .i64 r.length, .slice r.la r.lines.length r.lc, .int .i64 r.pipe, .int .i64 r.arbor, .int .i64 r.purchase, .int .i64 r.most, .int .i64 r.brake, .slice r.ia r.items.length r.ic, .slice r.ba r.bricks.length r.bc]
def hflat (L : List (SetR)) : List Value := L.flatMap fun r => [.string r.name, .int .i64 r.depth, .int .i64 r.low, .int .i64 r.high, .int .i64 r.length, .slice r.la r.lines.length r.lc, .int .i64 r.pipe, .int .i64 r.arbor, .int .i64 r.purchase, .int .i64 r.most, .int .i64 r.brake, .slice r.ia r.items.length r.ic, .slice r.ba r.bricks.length r.bc]
theorem hflat_at (L : List (SetR)) (i : Nat) (hi : i < L.length) : (hflat L)[i * 13]? = some (.string (hg L i).name) ∧ (hflat L)[i * 13 + 1]? = some (.int .i64 (hg L i).depth) ∧ (hflat L)[i * 13 + 2]? = some (.int .i64 (hg L i).low) ∧ (hflat L)[i * 13 + 3]? = some (.int .i64 (hg L i).high) ∧ (hflat L)[i * 13 + 4]? = some (.int .i64 (hg L i).length) ∧ (hflat L)[i * 13 + 5]? = some (.slice (hg L i).la (hg L i).lines.length (hg L i).lc) ∧ (hflat L)[i * 13 + 6]? = some (.int .i64 (hg L i).pipe) ∧ (hflat L)[i * 13 + 7]? = some (.int .i64 (hg L i).arbor) ∧ (hflat L)[i * 13 + 8]? = some (.int .i64 (hg L i).purchase) ∧ (hflat L)[i * 13 + 9]? = some (.int .i64 (hg L i).most) ∧ (hflat L)[i * 13 + 10]? = some (.int .i64 (hg L i).brake) ∧ (hflat L)[i * 13 + 11]? = some (.slice (hg L i).ia (hg L i).items.length (hg L i).ic) ∧ (hflat L)[i * 13 + 12]? = some (.slice (hg L i).ba (hg L i).bricks.length (hg L i).bc) := by
  induction L generalizing i with
  | nil => simp at hi
  | cons x r ih =>
    match i with
    | 0 => exact ⟨rfl, rfl, rfl, rfl, rfl, rfl, rfl, rfl, rfl, rfl, rfl, rfl, rfl⟩
    | i + 1 =>
      have := ih i (by simpa using hi)
      have e : hflat (x :: r) = .string x.name :: .int .i64 x.depth :: .int .i64 x.low :: .int .i64 x.high :: .int .i64 x.length :: .slice x.la x.lines.length x.lc :: .int .i64 x.pipe :: .int .i64 x.arbor :: .int .i64 x.purchase :: .int .i64 x.most :: .int .i64 x.brake :: .slice x.ia x.items.length x.ic :: .slice x.ba x.bricks.length x.bc :: hflat r := rfl
      rw [e, show (i + 1) * 13 = i * 13 + 1 + 1 + 1 + 1 + 1 + 1 + 1 + 1 + 1 + 1 + 1 + 1 + 1 by omega]
      simpa [hg] using this
theorem hflat_snoc (L : List (SetR)) (r : SetR) : hflat (L ++ [r]) = hflat L ++ [.string r.name, .int .i64 r.depth, .int .i64 r.low, .int .i64 r.high, .int .i64 r.length, .slice r.la r.lines.length r.lc, .int .i64 r.pipe, .int .i64 r.arbor, .int .i64 r.purchase, .int .i64 r.most, .int .i64 r.brake, .slice r.ia r.items.length r.ic, .slice r.ba r.bricks.length r.bc] := by simp [hflat]
/-- The elements of a slice at address a are L; they lie in a block below n₀. -/
def SetRows (n₀ : Nat) (w : World) (a : Option Addr) (L : List (SetR)) : Prop :=
  0 < L.length → ∃ b off, a = some ⟨b, off, none⟩ ∧ b < n₀ ∧ ∀ i, i < L.length → w.cell? ⟨b, off + i * 13, none⟩ = some (.string (hg L i).name) ∧ w.cell? ⟨b, off + i * 13 + 1, none⟩ = some (.int .i64 (hg L i).depth) ∧ w.cell? ⟨b, off + i * 13 + 2, none⟩ = some (.int .i64 (hg L i).low) ∧ w.cell? ⟨b, off + i * 13 + 3, none⟩ = some (.int .i64 (hg L i).high) ∧ w.cell? ⟨b, off + i * 13 + 4, none⟩ = some (.int .i64 (hg L i).length) ∧ w.cell? ⟨b, off + i * 13 + 5, none⟩ = some (.slice (hg L i).la (hg L i).lines.length (hg L i).lc) ∧ w.cell? ⟨b, off + i * 13 + 6, none⟩ = some (.int .i64 (hg L i).pipe) ∧ w.cell? ⟨b, off + i * 13 + 7, none⟩ = some (.int .i64 (hg L i).arbor) ∧ w.cell? ⟨b, off + i * 13 + 8, none⟩ = some (.int .i64 (hg L i).purchase) ∧ w.cell? ⟨b, off + i * 13 + 9, none⟩ = some (.int .i64 (hg L i).most) ∧ w.cell? ⟨b, off + i * 13 + 10, none⟩ = some (.int .i64 (hg L i).brake) ∧ w.cell? ⟨b, off + i * 13 + 11, none⟩ = some (.slice (hg L i).ia (hg L i).items.length (hg L i).ic) ∧ w.cell? ⟨b, off + i * 13 + 12, none⟩ = some (.slice (hg L i).ba (hg L i).bricks.length (hg L i).bc)
theorem SetRows.below {n₀ : Nat} {w w' : World} {a : Option Addr} {L : List (SetR)} (h : SetRows n₀ w a L) (hb : Below n₀ w w') : SetRows n₀ w' a L := fun hl => by
  obtain ⟨b, off, rfl, hlt, hc⟩ := h hl
  refine ⟨b, off, rfl, hlt, fun i hi => ?_⟩
  obtain ⟨c0, c1, c2, c3, c4, c5, c6, c7, c8, c9, c10, c11, c12⟩ := hc i hi
  exact ⟨(hb.cell (p := ⟨b, _, none⟩) hlt).trans c0, (hb.cell (p := ⟨b, _, none⟩) hlt).trans c1, (hb.cell (p := ⟨b, _, none⟩) hlt).trans c2, (hb.cell (p := ⟨b, _, none⟩) hlt).trans c3, (hb.cell (p := ⟨b, _, none⟩) hlt).trans c4, (hb.cell (p := ⟨b, _, none⟩) hlt).trans c5, (hb.cell (p := ⟨b, _, none⟩) hlt).trans c6, (hb.cell (p := ⟨b, _, none⟩) hlt).trans c7, (hb.cell (p := ⟨b, _, none⟩) hlt).trans c8, (hb.cell (p := ⟨b, _, none⟩) hlt).trans c9, (hb.cell (p := ⟨b, _, none⟩) hlt).trans c10, (hb.cell (p := ⟨b, _, none⟩) hlt).trans c11, (hb.cell (p := ⟨b, _, none⟩) hlt).trans c12⟩
theorem SetRows.mono {n₀ n₁ : Nat} {w : World} {a : Option Addr} {L : List (SetR)} (h : SetRows n₀ w a L) (hn : n₀ ≤ n₁) : SetRows n₁ w a L := fun hl => by
  obtain ⟨b, off, rfl, hlt, hc⟩ := h hl
  exact ⟨b, off, rfl, by omega, hc⟩
theorem SetRows.grow {w w' : World} {a : Option Addr} {L : List (SetR)} (h : SetRows w.heap.size w a L) (hb : Below w.heap.size w w') : SetRows w'.heap.size w' a L := (h.below hb).mono hb.size
theorem SetRows.nil {n₀ : Nat} {w : World} {a : Option Addr} : SetRows n₀ w a [] := fun h => absurd h (Nat.not_lt_zero _)
/-- The first n of them. -/
theorem SetRows.take {n₀ : Nat} {w : World} {a : Option Addr} {L : List (SetR)} (h : SetRows n₀ w a L) (n : Nat) : SetRows n₀ w a (L.take n) := fun hl => by
  have hl' : 0 < L.length := by rw [List.length_take] at hl; omega
  obtain ⟨b, off, rfl, hlt, hc⟩ := h hl'
  refine ⟨b, off, rfl, hlt, fun i hi => ?_⟩
  rw [List.length_take] at hi
  have e : hg (L.take n) i = hg L i := by unfold hg; rw [List.getElem?_take, if_pos (by omega)]
  rw [e]
  exact hc i (by omega)
theorem set_len (L : List (SetR)) : (hflat L).length = L.length * 13 := by
  induction L with
  | nil => rfl
  | cons x r ih =>
    have e : hflat (x :: r) = .string x.name :: .int .i64 x.depth :: .int .i64 x.low :: .int .i64 x.high :: .int .i64 x.length :: .slice x.la x.lines.length x.lc :: .int .i64 x.pipe :: .int .i64 x.arbor :: .int .i64 x.purchase :: .int .i64 x.most :: .int .i64 x.brake :: .slice x.ia x.items.length x.ic :: .slice x.ba x.bricks.length x.bc :: hflat r := rfl
    rw [e]
    simp only [List.length_cons, ih]
    try omega
theorem set_one (L : List (SetR)) : ∀ u ∈ hflat L, u.oneCell' = true := by
  induction L with
  | nil => intro u hu; cases hu
  | cons x r ih =>
    have e : hflat (x :: r) = .string x.name :: .int .i64 x.depth :: .int .i64 x.low :: .int .i64 x.high :: .int .i64 x.length :: .slice x.la x.lines.length x.lc :: .int .i64 x.pipe :: .int .i64 x.arbor :: .int .i64 x.purchase :: .int .i64 x.most :: .int .i64 x.brake :: .slice x.ia x.items.length x.ic :: .slice x.ba x.bricks.length x.bc :: hflat r := rfl
    rw [e]
    intro u hu
    simp only [List.mem_cons] at hu
    rcases hu with rfl | rfl | rfl | rfl | rfl | rfl | rfl | rfl | rfl | rfl | rfl | rfl | rfl | hu
    · rfl
    · rfl
    · rfl
    · rfl
    · rfl
    · rfl
    · rfl
    · rfl
    · rfl
    · rfl
    · rfl
    · rfl
    · rfl
    · exact ih u hu
/-- A slice of records: its cells, one behind the other. -/
theorem set_cells {n₀ : Nat} {w : World} {b off : Nat} {L : List (SetR)} (h : SetRows n₀ w (some ⟨b, off, none⟩) L) : ∀ j u, (hflat L)[j]? = some u → w.cell? ((⟨b, off, none⟩ : Addr).add j) = some u := by
  intro j u hj
  have hlt : j < L.length * 13 := by
    rw [← set_len]
    exact (List.getElem?_eq_some_iff.1 hj).1
  obtain ⟨b', off', e, _, hc⟩ := h (by omega)
  simp only [Option.some.injEq, Addr.mk.injEq, and_true] at e
  obtain ⟨rfl, rfl⟩ := e
  rw [Go.WideShapes.add_plain]
  obtain ⟨f0, f1, f2, f3, f4, f5, f6, f7, f8, f9, f10, f11, f12⟩ := hflat_at L (j / 13) (by omega)
  obtain ⟨c0, c1, c2, c3, c4, c5, c6, c7, c8, c9, c10, c11, c12⟩ := hc (j / 13) (by omega)
  rcases (show j = j / 13 * 13 ∨ j = j / 13 * 13 + 1 ∨ j = j / 13 * 13 + 2 ∨ j = j / 13 * 13 + 3 ∨ j = j / 13 * 13 + 4 ∨ j = j / 13 * 13 + 5 ∨ j = j / 13 * 13 + 6 ∨ j = j / 13 * 13 + 7 ∨ j = j / 13 * 13 + 8 ∨ j = j / 13 * 13 + 9 ∨ j = j / 13 * 13 + 10 ∨ j = j / 13 * 13 + 11 ∨ j = j / 13 * 13 + 12 by omega) with e | e | e | e | e | e | e | e | e | e | e | e | e
  · first | (rw [e, f0] at hj; rw [e, c0]; exact hj) | (rw [e, f0] at hj; rw [e, ← Nat.add_assoc, c0]; exact hj)
  · first | (rw [e, f1] at hj; rw [e, c1]; exact hj) | (rw [e, f1] at hj; rw [e, ← Nat.add_assoc, c1]; exact hj)
  · first | (rw [e, f2] at hj; rw [e, c2]; exact hj) | (rw [e, f2] at hj; rw [e, ← Nat.add_assoc, c2]; exact hj)
  · first | (rw [e, f3] at hj; rw [e, c3]; exact hj) | (rw [e, f3] at hj; rw [e, ← Nat.add_assoc, c3]; exact hj)
  · first | (rw [e, f4] at hj; rw [e, c4]; exact hj) | (rw [e, f4] at hj; rw [e, ← Nat.add_assoc, c4]; exact hj)
  · first | (rw [e, f5] at hj; rw [e, c5]; exact hj) | (rw [e, f5] at hj; rw [e, ← Nat.add_assoc, c5]; exact hj)
  · first | (rw [e, f6] at hj; rw [e, c6]; exact hj) | (rw [e, f6] at hj; rw [e, ← Nat.add_assoc, c6]; exact hj)
  · first | (rw [e, f7] at hj; rw [e, c7]; exact hj) | (rw [e, f7] at hj; rw [e, ← Nat.add_assoc, c7]; exact hj)
  · first | (rw [e, f8] at hj; rw [e, c8]; exact hj) | (rw [e, f8] at hj; rw [e, ← Nat.add_assoc, c8]; exact hj)
  · first | (rw [e, f9] at hj; rw [e, c9]; exact hj) | (rw [e, f9] at hj; rw [e, ← Nat.add_assoc, c9]; exact hj)
  · first | (rw [e, f10] at hj; rw [e, c10]; exact hj) | (rw [e, f10] at hj; rw [e, ← Nat.add_assoc, c10]; exact hj)
  · first | (rw [e, f11] at hj; rw [e, c11]; exact hj) | (rw [e, f11] at hj; rw [e, ← Nat.add_assoc, c11]; exact hj)
  · first | (rw [e, f12] at hj; rw [e, c12]; exact hj) | (rw [e, f12] at hj; rw [e, ← Nat.add_assoc, c12]; exact hj)
/-- A row of the call's own reads so. -/
theorem set_of_row {w : World} {base : Nat} {v : Value} {L : List (SetR)} (h : w.ownsRow base 26 13 v L.length (hflat L)) : ∃ a cap, v = .slice a L.length cap ∧ L.length ≤ cap ∧ cap ≤ maxLen ∧ (a = none → cap = 0) ∧ SetRows w.heap.size w a L := by
  rcases h.2 with ⟨rfl, h0⟩ | ⟨g, cap, cur, rfl, hb, hg, h1, h2, _⟩
  · exact ⟨none, 0, by rw [h0], by omega, by unfold maxLen; omega, fun _ => rfl, fun hl => by omega⟩
  · refine ⟨_, cap, rfl, h1, h2, (fun e => by cases e), fun _ => ⟨g, 0, rfl, (Array.getElem?_eq_some_iff.1 hg).1, fun i hi => ?_⟩⟩
    obtain ⟨f0, f1, f2, f3, f4, f5, f6, f7, f8, f9, f10, f11, f12⟩ := hflat_at L i hi
    have c0 := h.cellAt (i * 13) (by omega)
    have c1 := h.cellAt (i * 13 + 1) (by omega)
    have c2 := h.cellAt (i * 13 + 2) (by omega)
    have c3 := h.cellAt (i * 13 + 3) (by omega)
    have c4 := h.cellAt (i * 13 + 4) (by omega)
    have c5 := h.cellAt (i * 13 + 5) (by omega)
    have c6 := h.cellAt (i * 13 + 6) (by omega)
    have c7 := h.cellAt (i * 13 + 7) (by omega)
    have c8 := h.cellAt (i * 13 + 8) (by omega)
    have c9 := h.cellAt (i * 13 + 9) (by omega)
    have c10 := h.cellAt (i * 13 + 10) (by omega)
    have c11 := h.cellAt (i * 13 + 11) (by omega)
    have c12 := h.cellAt (i * 13 + 12) (by omega)
    rw [f0] at c0
    rw [f1] at c1
    rw [f2] at c2
    rw [f3] at c3
    rw [f4] at c4
    rw [f5] at c5
    rw [f6] at c6
    rw [f7] at c7
    rw [f8] at c8
    rw [f9] at c9
    rw [f10] at c10
    rw [f11] at c11
    rw [f12] at c12
    rw [Nat.zero_add]
    exact ⟨c0, c1, c2, c3, c4, c5, c6, c7, c8, c9, c10, c11, c12⟩
/-- A closure that asks p of an element, wherever it is called later. -/
def AsksSet (g : Nat) (cb : Array Value) (n₀ : Nat) (w : World) (p : SetR → Bool) : Prop :=
  ∀ (W : World) (r : SetR), Below n₀ w W → Calls Tryz.prog g (#[setV r] ++ cb) W fun e w' => e = .returned (.bool (p r)) ∧ Below W.heap.size W w'
theorem set_asks_mono {g : Nat} {cb : Array Value} {n₀ n₁ : Nat} {w : World} {p : SetR → Bool} (h : AsksSet g cb n₀ w p) (hn : n₀ ≤ n₁) : AsksSet g cb n₁ w p := fun W r hb => h W r (hb.mono hn)
theorem set_asks_below {g : Nat} {cb : Array Value} {n₀ : Nat} {w w' : World} {p : SetR → Bool} (h : AsksSet g cb n₀ w p) (hb : Below n₀ w w') : AsksSet g cb n₀ w' p := fun W r hb' => h W r (hb.trans hb')
/-- The first index at which p holds; -1 if there is none. -/
def set_first (L : List (SetR)) (p : SetR → Bool) : Int := match (List.range L.length).find? (fun i => p (hg L i)) with
  | some i => i
  | none => -1
theorem set_first_hit (L : List (SetR)) (p : SetR → Bool) (k : Nat) (hk : k < L.length) (h : p (hg L k) = true) (hn : ∀ j, j < k → p (hg L j) = false) : set_first L p = k := by
  unfold set_first
  have : (List.range L.length).find? (fun i => p (hg L i)) = some k := by
    rw [List.find?_eq_some_iff_getElem]
    refine ⟨by simpa using h, k, by simpa using hk, by simp, fun j hj => ?_⟩
    simpa using hn j hj
  rw [this]
theorem set_first_miss (L : List (SetR)) (p : SetR → Bool) (hn : ∀ j, j < L.length → p (hg L j) = false) : set_first L p = -1 := by
  unfold set_first
  have : (List.range L.length).find? (fun i => p (hg L i)) = none := by
    rw [List.find?_eq_none]
    intro x hx
    simpa using hn x (by simpa using hx)
  rw [this]
theorem set_first_cases (L : List (SetR)) (p : SetR → Bool) : (set_first L p = -1 ∧ ∀ j, j < L.length → p (hg L j) = false) ∨ ∃ k : Nat, k < L.length ∧ set_first L p = k ∧ p (hg L k) = true ∧ ∀ j, j < k → p (hg L j) = false := by
  have main : ∀ n, n ≤ L.length → (∀ j, j < n → p (hg L j) = false) ∨ ∃ k, k < n ∧ p (hg L k) = true ∧ ∀ j, j < k → p (hg L j) = false := by
    intro n
    induction n with
    | zero => exact fun _ => .inl fun j hj => absurd hj (Nat.not_lt_zero _)
    | succ n ih =>
      intro hn
      rcases ih (by omega) with h | ⟨k, hk, h1, h2⟩
      · cases e : p (hg L n)
        · refine .inl fun j hj => ?_
          rcases Nat.lt_or_ge j n with l | l
          · exact h j l
          · obtain rfl : j = n := by omega
            exact e
        · exact .inr ⟨n, by omega, e, h⟩
      · exact .inr ⟨k, by omega, h1, h2⟩
  rcases main L.length (Nat.le_refl _) with h | ⟨k, hk, h1, h2⟩
  · exact .inl ⟨set_first_miss L p h, h⟩
  · exact .inr ⟨k, hk, set_first_hit L p k hk h1 h2, h1, h2⟩
def set_any (L : List (SetR)) (p : SetR → Bool) : Bool := decide (0 ≤ set_first L p)
theorem set_any_eq (L : List (SetR)) (p : SetR → Bool) : set_any L p = L.any p := by
  unfold set_any
  rw [Bool.eq_iff_iff, List.any_eq_true, decide_eq_true_eq]
  rcases set_first_cases L p with ⟨h, h2⟩ | ⟨k, hk, h, h1, _⟩
  · rw [h]
    refine ⟨fun h => by omega, fun ⟨x, hx, hp⟩ => ?_⟩
    obtain ⟨j, hj, e⟩ := List.getElem_of_mem hx
    have := h2 j hj
    rw [hg_eq L j hj, e, hp] at this
    cases this
  · rw [h]
    exact ⟨fun _ => ⟨_, by rw [hg_eq L k hk]; exact List.getElem_mem hk, h1⟩, fun _ => by omega⟩

set_option maxHeartbeats 2000000 in
theorem set_indexFunc (a : Option Addr) (L : List (SetR)) (cap n₀ g : Nat) (cb : Array Value) (p : SetR → Bool) (w : World) (eg : ∀ args w, (callFunc g args).run Tryz.prog w = .ok (.enter g args) w)
    (hl : L.length ≤ 1100) (hn₀ : n₀ ≤ w.heap.size) (hI : SetRows n₀ w a L) (hp : AsksSet g cb n₀ w p) :
    Calls Tryz.prog 92 #[.slice a L.length cap, .func (.func g) #[] cb] w fun e w' => e = .returned (.int .i64 (set_first L p)) ∧ Below w.heap.size w w' := by
  have HI := Lib.hid hI; clear hI
  have HP := Lib.hid hp; clear hp
  go_enter Tryz.func92, Tryz.ntmps92
  go_wp2
  go_loopw [8] (fun i wr => ∃ k : Nat, k ≤ L.length ∧ i = .int .i64 k ∧ Below w.heap.size w wr ∧ Hid (∀ j, j < k → p (hg L j) = false)) (fun i _ => L.length - (intOf i).toNat)
  case atStart => exact ⟨0, Nat.zero_le _, rfl, Below.refl _ _, Lib.hid (fun _ h => absurd h (Nat.not_lt_zero _))⟩
  case round =>
    obtain ⟨k, hk, rfl, hB, HA⟩ := hrel
    by_cases hlt : k < L.length
    · obtain ⟨b, off, rfl, hb, hc⟩ := HI.out (by omega)
      obtain ⟨c0, c1, c2, c3, c4, c5, c6, c7, c8, c9, c10, c11, c12⟩ := hc k hlt
      have d0 := (hB.cell (p := ⟨b, off + k * 13, none⟩) (show b < w.heap.size by omega)).trans c0
      have d1 := (hB.cell (p := ⟨b, off + k * 13 + 1, none⟩) (show b < w.heap.size by omega)).trans c1
      have d2 := (hB.cell (p := ⟨b, off + k * 13 + 2, none⟩) (show b < w.heap.size by omega)).trans c2
      have d3 := (hB.cell (p := ⟨b, off + k * 13 + 3, none⟩) (show b < w.heap.size by omega)).trans c3
      have d4 := (hB.cell (p := ⟨b, off + k * 13 + 4, none⟩) (show b < w.heap.size by omega)).trans c4
      have d5 := (hB.cell (p := ⟨b, off + k * 13 + 5, none⟩) (show b < w.heap.size by omega)).trans c5
      have d6 := (hB.cell (p := ⟨b, off + k * 13 + 6, none⟩) (show b < w.heap.size by omega)).trans c6
      have d7 := (hB.cell (p := ⟨b, off + k * 13 + 7, none⟩) (show b < w.heap.size by omega)).trans c7
      have d8 := (hB.cell (p := ⟨b, off + k * 13 + 8, none⟩) (show b < w.heap.size by omega)).trans c8
      have d9 := (hB.cell (p := ⟨b, off + k * 13 + 9, none⟩) (show b < w.heap.size by omega)).trans c9
      have d10 := (hB.cell (p := ⟨b, off + k * 13 + 10, none⟩) (show b < w.heap.size by omega)).trans c10
      have d11 := (hB.cell (p := ⟨b, off + k * 13 + 11, none⟩) (show b < w.heap.size by omega)).trans c11
      have d12 := (hB.cell (p := ⟨b, off + k * 13 + 12, none⟩) (show b < w.heap.size by omega)).trans c12
      clear c0 c1 c2 c3 c4 c5 c6 c7 c8 c9 c10 c11 c12 hc
      have HC := Lib.hid (show Calls Tryz.prog g (#[.agg #[.string (hg L k).name, .int .i64 (hg L k).depth, .int .i64 (hg L k).low, .int .i64 (hg L k).high, .int .i64 (hg L k).length, .slice (hg L k).la (hg L k).lines.length (hg L k).lc, .int .i64 (hg L k).pipe, .int .i64 (hg L k).arbor, .int .i64 (hg L k).purchase, .int .i64 (hg L k).most, .int .i64 (hg L k).brake, .slice (hg L k).ia (hg L k).items.length (hg L k).ic, .slice (hg L k).ba (hg L k).bricks.length (hg L k).bc]] ++ cb) wr _ from HP.out wr (hg L k) (hB.mono hn₀))
      obtain ⟨bv, hbv⟩ : ∃ bv, p (hg L k) = bv := ⟨_, rfl⟩
      rw [hbv] at HC
      cases bv
      · have HB : Hid (∀ j, j < k + 1 → p (hg L j) = false) := Lib.hid fun j hj => by
          rcases Nat.lt_or_ge j k with l | l
          · exact HA.out j l
          · obtain rfl : j = k := by omega
            exact hbv
        clear hbv
        go_wp2_with ((with_reducible refine HC.out.mono ?_); rintro e w1 ⟨rfl, hb1⟩)
        go_roundw
        case rel => exact ⟨k + 1, by omega, by go_num, hB.trans (hb1.mono hB.size), HB⟩
        case measure => simp [intOf]; omega
      · have H := Lib.hid (set_first_hit L p k hlt hbv HA.out)
        clear hbv
        go_wp2_with ((with_reducible refine HC.out.mono ?_); rintro e w1 ⟨rfl, hb1⟩)
        go_ret
        exact ⟨ret_int H.out.symm, hB.trans (hb1.mono hB.size)⟩
    · obtain rfl : k = L.length := by omega
      have H := Lib.hid (set_first_miss L p HA.out)
      go_wp2
      go_ret
      exact ⟨ret_int H.out.symm, hB⟩
end Go.Proofs.YtfkmnneieglolaaGreatDoor
namespace Go.Proofs.YtfkmnneieglolaaGreatDoor
open Go.RowKit Go.Shelf
structure HouseR where
  name : ByteArray
  height : Int
  sa : Option Addr
  sets : List SetR
  sc : Nat
  ra : Option Addr
  roofs : List RoofR
  rc : Nat
def RoofOK (x : RoofR) : Prop := isNameB x.name = true ∧ 0 ≤ x.lo ∧ x.lo ≤ x.hi ∧ x.hi ≤ 1048576 ∧ 0 ≤ x.most ∧ x.most ≤ 67108864
instance (x : RoofR) : Decidable (RoofOK x) := by unfold RoofOK; infer_instance
/-- The beam with a number, and those ahead of it. -/
def RoofAt (L : List RoofR) (k : Nat) : Prop := RoofOK (rg L k) ∧ ∀ j, j < k → (rg L j).name ≠ (rg L k).name
def RoofsOK (L : List RoofR) : Prop := L.length ≤ 20 ∧ ∀ k, k < L.length → RoofAt L k
def SetAtOK (h : HouseR) (k : Nat) : Prop := setB (hg h.sets k) = true ∧ (hg h.sets k).high ≤ h.height ∧ ∀ j, j < k → (hg h.sets j).name ≠ (hg h.sets k).name
def HouseOK (h : HouseR) : Prop := isNameB h.name = true ∧ 1 ≤ h.height ∧ h.height ≤ 1048576 ∧ h.sets.length ≤ 60 ∧ RoofsOK h.roofs ∧ ∀ k, k < h.sets.length → SetAtOK h k
noncomputable def roofsB (L : List RoofR) : Bool := @decide (RoofsOK L) (Classical.propDecidable _)
noncomputable def houseB (h : HouseR) : Bool := @decide (HouseOK h) (Classical.propDecidable _)
theorem roofsB_iff {L : List RoofR} : roofsB L = true ↔ RoofsOK L := by exact @decide_eq_true_iff (RoofsOK L) (Classical.propDecidable _)
theorem houseB_iff {h : HouseR} : houseB h = true ↔ HouseOK h := by exact @decide_eq_true_iff (HouseOK h) (Classical.propDecidable _)
theorem roofs_no {L : List RoofR} {k : Nat} (hk : k < L.length) (h : ¬ RoofAt L k) : roofsB L = false := by
  cases e : roofsB L
  · rfl
  · exact absurd ((roofsB_iff.1 e).2 k hk) h
theorem house_no {h : HouseR} {k : Nat} (hk : k < h.sets.length) (n : ¬ SetAtOK h k) : houseB h = false := by
  cases e : houseB h
  · rfl
  · exact absurd ((houseB_iff.1 e).2.2.2.2.2 k hk) n
/-- The index of the first set with a name; -1 if there is none. -/
def findS (L : List SetR) (s : ByteArray) : Int := set_first L (fun y => decide (y.name = s))
theorem find_at {L : List SetR} {k : Nat} (hk : k < L.length) : findS L (hg L k).name = (k : Int) ↔ ∀ j, j < k → (hg L j).name ≠ (hg L k).name := by
  unfold findS
  rcases set_first_cases L (fun y => decide (y.name = (hg L k).name)) with ⟨e, n⟩ | ⟨i, hi, e, hn, ha⟩
  · exact absurd (n k hk) (by simp)
  · have hn' : (hg L i).name = (hg L k).name := by simpa using hn
    have ha' : ∀ j, j < i → (hg L j).name ≠ (hg L k).name := fun j hj => by simpa using ha j hj
    constructor
    · intro h
      obtain rfl : i = k := by omega
      exact ha'
    · intro h
      rw [e]
      rcases Nat.lt_trichotomy i k with l | l | l
      · exact absurd hn' (h i l)
      · rw [l]
      · exact absurd rfl (ha' k l)
end Go.Proofs.YtfkmnneieglolaaGreatDoor
namespace Go.Proofs.YtfkmnneieglolaaGreatDoor
open Go.RowKit Go.Shelf
attribute [local go_sem] Oper.semAt_some
/-- The cells of a beam that lies in a block. -/
def RoofIn (w : World) (b : Nat) (x : RoofR) : Prop := w.cell? ⟨b, 0, none⟩ = some (.string x.name) ∧ w.cell? ⟨b, 1, none⟩ = some (.int .i64 x.lo) ∧ w.cell? ⟨b, 2, none⟩ = some (.int .i64 x.hi) ∧ w.cell? ⟨b, 3, none⟩ = some (.int .i64 x.most)
theorem RoofIn.carry {w w' : World} {b : Nat} {x : RoofR} (h : RoofIn w b x) (hb : Below w.heap.size w w') : RoofIn w' b x := by
  have hlt : b < w.heap.size := World.block_lt_of_cell? _ _ h.1
  obtain ⟨a0, a1, a2, a3⟩ := h
  exact ⟨(hb.cell (p := ⟨b, 0, none⟩) hlt).trans a0, (hb.cell (p := ⟨b, 1, none⟩) hlt).trans a1, (hb.cell (p := ⟨b, 2, none⟩) hlt).trans a2, (hb.cell (p := ⟨b, 3, none⟩) hlt).trans a3⟩
theorem RoofIn.new (w : World) (x : RoofR) (t : TypeId) : RoofIn (w.alloc (.cells #[.string x.name, .int .i64 x.lo, .int .i64 x.hi, .int .i64 x.most] t)) w.heap.size x := by
  unfold RoofIn
  simp
set_option maxHeartbeats 1000000 in
theorem gname_any (s : ByteArray) (w : World) : Calls Tryz.prog 88 #[.string s] w fun e w' => e = .returned (.bool (isNameB s)) ∧ w = w' := by
  go_enter Tryz.func88, Tryz.ntmps88
  go_wp2_with (go_at_call 48; (with_reducible refine (isName_any s _).mono ?_); rintro e w1 ⟨rfl, rfl⟩)
  go_ret
  exact ⟨rfl, rfl⟩
set_option maxHeartbeats 1000000 in
theorem gwithin_any (n : Int) (w : World) : Calls Tryz.prog 89 #[.int .i64 n] w fun e w' => e = .returned (.bool (betB n 0 1048576)) ∧ w = w' := by
  by_cases h : 0 ≤ n
  · have g := decide_eq_true h
    have HR : Hid (betB n 0 1048576 = decide (n ≤ 1048576)) := Lib.hid (by unfold betB; rw [g]; rfl)
    rw [HR.out]
    clear h
    go_enter Tryz.func89, Tryz.ntmps89
    go_wp2_with fail
    go_ret
    exact ⟨rfl, rfl⟩
  · have g := decide_eq_false h
    have HR : Hid (betB n 0 1048576 = false) := Lib.hid (by unfold betB; rw [g]; rfl)
    rw [HR.out]
    clear h
    go_enter Tryz.func89, Tryz.ntmps89
    go_wp2_with fail
    go_ret
    exact ⟨rfl, rfl⟩
theorem ent_gvalid (args : Array Value) (w : World) : (callFunc 91 args).run Tryz.prog w = .ok (.enter 91 args) w := enters_of Tryz.func91 (by kernel_rfl) rfl args w
set_option maxHeartbeats 2000000 in
theorem gsame_any (b : Nat) (x y : RoofR) (w : World) (h : RoofIn w b x) (hlt : b < w.heap.size) :
    Calls Tryz.prog 91 #[.agg #[.string y.name, .int .i64 y.lo, .int .i64 y.hi, .int .i64 y.most], .pointer (some ⟨b, 0, none⟩)] w fun e w' => e = .returned (.bool (decide (y.name = x.name))) ∧ Below w.heap.size w w' := by
  obtain ⟨a0, a1, a2, a3⟩ := h
  go_enter Tryz.func91, Tryz.ntmps91
  go_wp2_with fail
  go_ret
  exact ⟨ret_bool (str_eq _ _), below_new _ _⟩
theorem asks_roof {w : World} {b : Nat} {x : RoofR} (h : RoofIn w b x) (hlt : b < w.heap.size) : AsksRoof 91 #[.pointer (some ⟨b, 0, none⟩)] w.heap.size w (fun y => decide (y.name = x.name)) := by
  intro W r hb
  exact gsame_any b x r W (h.carry hb) (Nat.lt_of_lt_of_le hlt hb.size)
theorem roof_contains_n (a : Option Addr) (M : List RoofR) (n cap n₀ g : Nat) (cb : Array Value) (p : RoofR → Bool) (w : World) (hn : n = M.length) (eg : ∀ args w, (callFunc g args).run Tryz.prog w = .ok (.enter g args) w)
    (hl : n ≤ 1100) (hn₀ : n₀ ≤ w.heap.size) (hI : Roofs n₀ w a M) (hp : AsksRoof g cb n₀ w p) :
    Calls Tryz.prog 90 #[.slice a n cap, .func (.func g) #[] cb] w fun e w' => e = .returned (.bool (roof_any M p)) ∧ Below w.heap.size w w' := by
  subst hn
  exact roof_containsFunc a M cap n₀ g cb p w eg hl hn₀ hI hp
theorem rg_take {L : List RoofR} {k j : Nat} (h : j < k) : rg (L.take k) j = rg L j := by
  unfold rg
  rw [List.getElem?_take, if_pos h]
theorem roof_twice {L : List RoofR} {k : Nat} (hk : k ≤ L.length) (s : ByteArray) : roof_any (L.take k) (fun y => decide (y.name = s)) = false ↔ ∀ j, j < k → (rg L j).name ≠ s := by
  unfold roof_any
  rw [decide_eq_false_iff_not]
  have hl : (L.take k).length = k := by rw [List.length_take]; omega
  rcases roof_first_cases (L.take k) (fun y => decide (y.name = s)) with ⟨e, n⟩ | ⟨i, hi, e, hn, _⟩
  · rw [hl] at n
    refine ⟨fun _ j hj => ?_, fun _ => by omega⟩
    have := n j hj
    rw [rg_take hj] at this
    simpa using this
  · rw [hl] at hi
    refine ⟨fun h => absurd (by omega) h, fun h => absurd ?_ (h i hi)⟩
    rw [rg_take hi] at hn
    simpa using hn
set_option maxRecDepth 100000 in
set_option maxHeartbeats 16000000 in
theorem gridvalid_any (a : Option Addr) (L : List RoofR) (c : Nat) (w : World) (hl : L.length ≤ 1000) (hcap : L.length ≤ c) (h : Roofs w.heap.size w a L) :
    Calls Tryz.prog 61 #[.slice a L.length c] w fun e w' => e = .returned (.bool (roofsB L)) ∧ Below w.heap.size w w' := by
  have HU := Lib.hid h
  clear h
  by_cases q : 20 < L.length
  · have HR : Hid (roofsB L = false) := Lib.hid (by
      cases e : roofsB L
      · rfl
      · have := (roofsB_iff.1 e).1; omega)
    rw [HR.out]
    have g : decide ((20 : Int) < L.length) = true := decide_eq_true (by omega)
    clear q
    go_enter Tryz.func61, Tryz.ntmps61
    go_wp2_with fail
    go_ret
    exact ⟨rfl, Below.refl _ _⟩
  have g : decide ((20 : Int) < L.length) = false := decide_eq_false (by omega)
  have hq : L.length ≤ 20 := by omega
  clear q
  go_enter Tryz.func61, Tryz.ntmps61
  go_wp2_with fail
  clear g
  go_loopw [10] (fun i wr => ∃ k : Nat, k ≤ L.length ∧ i = .int .i64 k ∧ Hid (∀ j, j < k → RoofAt L j) ∧ Below w.heap.size w wr) (fun i _ => L.length - (intOf i).toNat)
  case atStart => exact ⟨0, Nat.zero_le _, rfl, Lib.hid (fun _ h => absurd h (Nat.not_lt_zero _)), Below.refl _ _⟩
  case round =>
    obtain ⟨k, hk, rfl, HO, hB⟩ := hrel
    by_cases hlt : k < L.length
    · obtain ⟨b, off, rfl, hb, hc⟩ := HU.out (by omega)
      obtain ⟨e0, e1, e2, e3⟩ := hc k hlt
      have c0 := (hB.cell (p := ⟨b, _, none⟩) hb).trans e0
      have c1 := (hB.cell (p := ⟨b, _, none⟩) hb).trans e1
      have c2 := (hB.cell (p := ⟨b, _, none⟩) hb).trans e2
      have c3 := (hB.cell (p := ⟨b, _, none⟩) hb).trans e3
      have i0 : 0 ≤ (k : Int) := by omega
      have i1 : (k : Int) < (L.length : Int) := by omega
      have s1 : IntKind.i64.wrap ((k : Int) + 1) = (k : Int) + 1 := IntWalk.i64_in _ (by omega)
      have hTl : k = (L.take k).length := by rw [List.length_take]; omega
      have HTL := Lib.hid hTl
      have k1 : k ≤ c := by omega
      have k2 : (k : Int) ≤ (c : Int) := by omega
      have HN : Hid (¬ RoofAt L k → roofsB L = false) := Lib.hid (roofs_no hlt)
      have HAT : Hid (RoofAt L k ↔ RoofOK (rg L k) ∧ ∀ j, j < k → (rg L j).name ≠ (rg L k).name) := Lib.hid Iff.rfl
      have HTW := Lib.hid (roof_twice (L := L) (k := k) hk (rg L k).name)
      have HTK : Hid (Roofs w.heap.size w (some ⟨b, off, none⟩) (L.take k)) := Lib.hid (HU.out.take k)
      have HB := Lib.hid hB
      have HO2 : Hid (RoofAt L k → ∀ j, j < k + 1 → RoofAt L j) := Lib.hid fun h j hj => by
        rcases Nat.lt_or_eq_of_le (Nat.le_of_lt_succ hj) with l | l
        · exact HO.out j l
        · subst l; exact h
      generalize rg L k = x at *
      have HNEW := Lib.hid (RoofIn.new wr x 92)
      have hB1 := hB.alloc hB.size (.cells #[.string x.name, .int .i64 x.lo, .int .i64 x.hi, .int .i64 x.most] 92)
      clear hc e0 e1 e2 e3 HO hTl hB
      go_upto_region 6 with (fail)
      have HS1 : Hid (Below wr.heap.size wr (wr.alloc (.cells #[.string x.name, .int .i64 x.lo, .int .i64 x.hi, .int .i64 x.most] 92))) := Lib.hid (below_new _ _)
      have hz : wr.heap.size < (wr.alloc (.cells #[.string x.name, .int .i64 x.lo, .int .i64 x.hi, .int .i64 x.most] 92)).heap.size := by simp
      clear c0 c1 c2 c3
      obtain ⟨B, hBe⟩ : ∃ b, wr.heap.size = b := ⟨_, rfl⟩
      simp only [hBe] at HNEW hz ⊢
      generalize wr.alloc (.cells #[.string x.name, .int .i64 x.lo, .int .i64 x.hi, .int .i64 x.most] 92) = W1 at *
      obtain ⟨d0, d1, d2, d3⟩ := HNEW.out
      cases h1 : isNameB x.name
      · have H1 := Lib.hid h1
        have HZ := Lib.hid (HN.out (fun hh => absurd (HAT.out.1 hh) (fun h => by have := h.1.1; rw [H1.out] at this; cases this)))
        clear h1
        go_wp2_with (first
          | (go_at_call 88; (with_reducible refine (gname_any x.name _).mono ?_); rintro e w2 ⟨rfl, rfl⟩; rw [H1.out])
          | (go_at_call 89; (with_reducible refine (gwithin_any x.lo _).mono ?_); rintro e w3 ⟨rfl, rfl⟩; rw [H2.out])
          | (go_at_call 89; (with_reducible refine (gwithin_any x.hi _).mono ?_); rintro e w4 ⟨rfl, rfl⟩; rw [H3.out]))
        go_ret
        exact ⟨ret_bool HZ.out.symm, hB1⟩
      have H1 := Lib.hid h1
      clear h1
      cases h2 : betB x.lo 0 1048576
      · have H2 := Lib.hid h2
        have HZ := Lib.hid (HN.out (fun hh => absurd (HAT.out.1 hh) (fun h => by have := h.1; unfold RoofOK at this; have e : betB x.lo 0 1048576 = true := betB_iff.2 (by omega); rw [H2.out] at e; cases e)))
        clear h2
        go_wp2_with (first
          | (go_at_call 88; (with_reducible refine (gname_any x.name _).mono ?_); rintro e w2 ⟨rfl, rfl⟩; rw [H1.out])
          | (go_at_call 89; (with_reducible refine (gwithin_any x.lo _).mono ?_); rintro e w3 ⟨rfl, rfl⟩; rw [H2.out])
          | (go_at_call 89; (with_reducible refine (gwithin_any x.hi _).mono ?_); rintro e w4 ⟨rfl, rfl⟩; rw [H3.out]))
        go_ret
        exact ⟨ret_bool HZ.out.symm, hB1⟩
      have H2 := Lib.hid h2
      clear h2
      cases h3 : betB x.hi 0 1048576
      · have H3 := Lib.hid h3
        have HZ := Lib.hid (HN.out (fun hh => absurd (HAT.out.1 hh) (fun h => by have := h.1; unfold RoofOK at this; have e : betB x.hi 0 1048576 = true := betB_iff.2 (by omega); rw [H3.out] at e; cases e)))
        clear h3
        go_wp2_with (first
          | (go_at_call 88; (with_reducible refine (gname_any x.name _).mono ?_); rintro e w2 ⟨rfl, rfl⟩; rw [H1.out])
          | (go_at_call 89; (with_reducible refine (gwithin_any x.lo _).mono ?_); rintro e w3 ⟨rfl, rfl⟩; rw [H2.out])
          | (go_at_call 89; (with_reducible refine (gwithin_any x.hi _).mono ?_); rintro e w4 ⟨rfl, rfl⟩; rw [H3.out]))
        go_ret
        exact ⟨ret_bool HZ.out.symm, hB1⟩
      have H3 := Lib.hid h3
      clear h3
      cases h4 : decide (x.hi < x.lo)
      case true =>
        have H4 := Lib.hid h4
        have HZ := Lib.hid (HN.out (fun hh => absurd (HAT.out.1 hh) (fun h => by have := h.1; unfold RoofOK at this; have e := of_decide_eq_true H4.out; omega)))
        go_wp2_with (first
          | (go_at_call 88; (with_reducible refine (gname_any x.name _).mono ?_); rintro e w2 ⟨rfl, rfl⟩; rw [H1.out])
          | (go_at_call 89; (with_reducible refine (gwithin_any x.lo _).mono ?_); rintro e w3 ⟨rfl, rfl⟩; rw [H2.out])
          | (go_at_call 89; (with_reducible refine (gwithin_any x.hi _).mono ?_); rintro e w4 ⟨rfl, rfl⟩; rw [H3.out]))
        go_ret
        exact ⟨ret_bool HZ.out.symm, hB1⟩
      have H4 := Lib.hid h4
      cases h5 : decide (x.most < 0)
      case true =>
        have H5 := Lib.hid h5
        have HZ := Lib.hid (HN.out (fun hh => absurd (HAT.out.1 hh) (fun h => by have := h.1; unfold RoofOK at this; have e := of_decide_eq_true H5.out; omega)))
        go_wp2_with (first
          | (go_at_call 88; (with_reducible refine (gname_any x.name _).mono ?_); rintro e w2 ⟨rfl, rfl⟩; rw [H1.out])
          | (go_at_call 89; (with_reducible refine (gwithin_any x.lo _).mono ?_); rintro e w3 ⟨rfl, rfl⟩; rw [H2.out])
          | (go_at_call 89; (with_reducible refine (gwithin_any x.hi _).mono ?_); rintro e w4 ⟨rfl, rfl⟩; rw [H3.out]))
        go_ret
        exact ⟨ret_bool HZ.out.symm, hB1⟩
      have H5 := Lib.hid h5
      cases h6 : decide (67108864 < x.most)
      case true =>
        have H6 := Lib.hid h6
        have HZ := Lib.hid (HN.out (fun hh => absurd (HAT.out.1 hh) (fun h => by have := h.1; unfold RoofOK at this; have e := of_decide_eq_true H6.out; omega)))
        go_wp2_with (first
          | (go_at_call 88; (with_reducible refine (gname_any x.name _).mono ?_); rintro e w2 ⟨rfl, rfl⟩; rw [H1.out])
          | (go_at_call 89; (with_reducible refine (gwithin_any x.lo _).mono ?_); rintro e w3 ⟨rfl, rfl⟩; rw [H2.out])
          | (go_at_call 89; (with_reducible refine (gwithin_any x.hi _).mono ?_); rintro e w4 ⟨rfl, rfl⟩; rw [H3.out]))
        go_ret
        exact ⟨ret_bool HZ.out.symm, hB1⟩
      have H6 := Lib.hid h6
      have HOK : Hid (RoofOK x) := Lib.hid (by
        have a2 := betB_iff.1 H2.out
        have a3 := betB_iff.1 H3.out
        have a4 := of_decide_eq_false H4.out
        have a5 := of_decide_eq_false H5.out
        have a6 := of_decide_eq_false H6.out
        exact ⟨H1.out, by omega, by omega, by omega, by omega, by omega⟩)
      have HCON : Hid (Calls Tryz.prog 90 #[.slice (some ⟨b, off, none⟩) k c, .func (.func 91) #[] #[.pointer (some ⟨B, 0, none⟩)]] W1 fun e w' => e = .returned (.bool (roof_any (L.take k) (fun y => decide (y.name = x.name)))) ∧ Below W1.heap.size W1 w') := Lib.hid
        (roof_contains_n (some ⟨b, off, none⟩) (L.take k) k c _ _ _ (fun y => decide (y.name = x.name)) _ HTL.out ent_gvalid (by omega) (Nat.le_refl _) ((HTK.out.below hB1).mono hB1.size) (asks_roof HNEW.out hz))
      cases h7 : roof_any (L.take k) (fun y => decide (y.name = x.name))
      · have H7 := Lib.hid h7
        have HY := Lib.hid (HO2.out (HAT.out.2 ⟨HOK.out, HTW.out.1 h7⟩))
        rw [h7] at HCON
        clear h7
        go_wp2_with (first
          | (go_at_call 88; (with_reducible refine (gname_any x.name _).mono ?_); rintro e w2 ⟨rfl, rfl⟩; rw [H1.out])
          | (go_at_call 89; (with_reducible refine (gwithin_any x.lo _).mono ?_); rintro e w3 ⟨rfl, rfl⟩; rw [H2.out])
          | (go_at_call 89; (with_reducible refine (gwithin_any x.hi _).mono ?_); rintro e w4 ⟨rfl, rfl⟩; rw [H3.out])
          | (go_at_call 90; (with_reducible refine HCON.out.mono ?_); rintro e w5 ⟨rfl, hb5⟩))
        go_roundw
        case rel => exact ⟨k + 1, by omega, by go_num, HY, hB1.trans (hb5.mono hB1.size)⟩
        case measure => simp [intOf]; omega
      · have H7 := Lib.hid h7
        have HZ := Lib.hid (HN.out (fun hh => by
          have := HTW.out.2 (HAT.out.1 hh).2
          rw [H7.out] at this
          cases this))
        rw [h7] at HCON
        clear h7
        go_wp2_with (first
          | (go_at_call 88; (with_reducible refine (gname_any x.name _).mono ?_); rintro e w2 ⟨rfl, rfl⟩; rw [H1.out])
          | (go_at_call 89; (with_reducible refine (gwithin_any x.lo _).mono ?_); rintro e w3 ⟨rfl, rfl⟩; rw [H2.out])
          | (go_at_call 89; (with_reducible refine (gwithin_any x.hi _).mono ?_); rintro e w4 ⟨rfl, rfl⟩; rw [H3.out])
          | (go_at_call 90; (with_reducible refine HCON.out.mono ?_); rintro e w5 ⟨rfl, hb5⟩))
        go_ret
        exact ⟨ret_bool HZ.out.symm, hB1.trans (hb5.mono hB1.size)⟩
    · obtain rfl : k = L.length := by omega
      have HR := Lib.hid (roofsB_iff.2 ⟨hq, HO.out⟩)
      go_wp2_with fail
      go_ret
      exact ⟨ret_bool HR.out.symm, hB⟩
end Go.Proofs.YtfkmnneieglolaaGreatDoor
namespace Go.Proofs.YtfkmnneieglolaaGreatDoor
open Go.RowKit Go.Shelf
structure HouseIn0 (w : World) (h : HouseR) : Prop where
  sets : SetRows w.heap.size w h.sa h.sets
  roofs : Roofs w.heap.size w h.ra h.roofs
  each : ∀ i, i < h.sets.length → SetIn0 w (hg h.sets i)
  scap : h.sets.length ≤ h.sc
  rcap : h.roofs.length ≤ h.rc
  snil : h.sa = none → h.sc = 0
  rnil : h.ra = none → h.rc = 0
theorem HouseIn0.grow {w w' : World} {h : HouseR} (x : HouseIn0 w h) (hb : Below w.heap.size w w') : HouseIn0 w' h :=
  ⟨x.sets.grow hb, x.roofs.grow hb, fun i hi => (x.each i hi).grow hb, x.scap, x.rcap, x.snil, x.rnil⟩
structure HouseIn (w : World) (h : HouseR) : Prop extends HouseIn0 w h where
  all : ∀ i, i < h.sets.length → SetIn w (hg h.sets i)
  slen : h.sets.length ≤ 1000
  rlen : h.roofs.length ≤ 1000
theorem HouseIn.grow {w w' : World} {h : HouseR} (x : HouseIn w h) (hb : Below w.heap.size w w') : HouseIn w' h :=
  ⟨x.toHouseIn0.grow hb, fun i hi => (x.all i hi).grow hb, x.slen, x.rlen⟩
/-- The cells of a house that lies in a block. -/
def HouseAt (w : World) (b : Nat) (h : HouseR) : Prop := w.cell? ⟨b, 0, none⟩ = some (.string h.name) ∧ w.cell? ⟨b, 1, none⟩ = some (.int .i64 h.height) ∧ w.cell? ⟨b, 2, none⟩ = some (.slice h.sa h.sets.length h.sc) ∧ w.cell? ⟨b, 3, none⟩ = some (.slice h.ra h.roofs.length h.rc)
theorem HouseAt.carry {w w' : World} {b : Nat} {h : HouseR} (x : HouseAt w b h) (hb : Below w.heap.size w w') : HouseAt w' b h := by
  have hlt : b < w.heap.size := World.block_lt_of_cell? _ _ x.1
  obtain ⟨a0, a1, a2, a3⟩ := x
  exact ⟨(hb.cell (p := ⟨b, 0, none⟩) hlt).trans a0, (hb.cell (p := ⟨b, 1, none⟩) hlt).trans a1, (hb.cell (p := ⟨b, 2, none⟩) hlt).trans a2, (hb.cell (p := ⟨b, 3, none⟩) hlt).trans a3⟩
theorem HouseAt.new (w : World) (h : HouseR) (t : TypeId) : HouseAt (w.alloc (.cells #[.string h.name, .int .i64 h.height, .slice h.sa h.sets.length h.sc, .slice h.ra h.roofs.length h.rc] t)) w.heap.size h := by
  unfold HouseAt
  simp
end Go.Proofs.YtfkmnneieglolaaGreatDoor
namespace Go.Proofs.YtfkmnneieglolaaGreatDoor
open Go.RowKit Go.Shelf
attribute [local go_sem] Oper.semAt_some
theorem ent_find (args : Array Value) (w : World) : (callFunc 93 args).run Tryz.prog w = .ok (.enter 93 args) w := enters_of Tryz.func93 (by kernel_rfl) rfl args w
set_option maxHeartbeats 2000000 in
theorem hsame_any (b : Nat) (s : ByteArray) (y : SetR) (w : World) (h : w.cell? ⟨b, 0, none⟩ = some (.string s)) :
    Calls Tryz.prog 93 #[.agg #[.string y.name, .int .i64 y.depth, .int .i64 y.low, .int .i64 y.high, .int .i64 y.length, .slice y.la y.lines.length y.lc, .int .i64 y.pipe, .int .i64 y.arbor, .int .i64 y.purchase, .int .i64 y.most, .int .i64 y.brake, .slice y.ia y.items.length y.ic, .slice y.ba y.bricks.length y.bc], .pointer (some ⟨b, 0, none⟩)] w fun e w' => e = .returned (.bool (decide (y.name = s))) ∧ Below w.heap.size w w' := by
  have hlt : b < w.heap.size := World.block_lt_of_cell? _ _ h
  go_enter Tryz.func93, Tryz.ntmps93
  go_wp2_with fail
  go_ret
  exact ⟨ret_bool (str_eq _ _), below_new _ _⟩
theorem asks_find {w : World} {b : Nat} {s : ByteArray} (h : w.cell? ⟨b, 0, none⟩ = some (.string s)) : AsksSet 93 #[.pointer (some ⟨b, 0, none⟩)] w.heap.size w (fun y => decide (y.name = s)) := by
  intro W r hb
  exact hsame_any b s r W ((hb.cell (p := ⟨b, 0, none⟩) (World.block_lt_of_cell? _ _ h)).trans h)
set_option maxRecDepth 100000 in
set_option maxHeartbeats 4000000 in
theorem hfind_any (h : HouseR) (s : ByteArray) (w : World) (hh : HouseIn w h) :
    Calls Tryz.prog 62 #[.agg #[.string h.name, .int .i64 h.height, .slice h.sa h.sets.length h.sc, .slice h.ra h.roofs.length h.rc], .string s] w fun e w' => e = .returned (.int .i64 (findS h.sets s)) ∧ Below w.heap.size w w' := by
  have hB := (below_new w (.cells #[.string h.name, .int .i64 h.height, .slice h.sa h.sets.length h.sc, .slice h.ra h.roofs.length h.rc] 50)).alloc (by simp) (.cells #[.string s] 9)
  have hs0 : ((w.alloc (.cells #[.string h.name, .int .i64 h.height, .slice h.sa h.sets.length h.sc, .slice h.ra h.roofs.length h.rc] 50)).alloc (.cells #[.string s] 9)).cell? ⟨w.heap.size + 1, 0, none⟩ = some (.string s) := by simp
  have HA := Lib.hid (asks_find hs0)
  have HI : Hid (Calls Tryz.prog 92 #[.slice h.sa h.sets.length h.sc, .func (.func 93) #[] #[.pointer (some ⟨w.heap.size + 1, 0, none⟩)]] ((w.alloc (.cells #[.string h.name, .int .i64 h.height, .slice h.sa h.sets.length h.sc, .slice h.ra h.roofs.length h.rc] 50)).alloc (.cells #[.string s] 9)) fun e w' => e = .returned (.int .i64 (set_first h.sets (fun y => decide (y.name = s)))) ∧ Below ((w.alloc (.cells #[.string h.name, .int .i64 h.height, .slice h.sa h.sets.length h.sc, .slice h.ra h.roofs.length h.rc] 50)).alloc (.cells #[.string s] 9)).heap.size ((w.alloc (.cells #[.string h.name, .int .i64 h.height, .slice h.sa h.sets.length h.sc, .slice h.ra h.roofs.length h.rc] 50)).alloc (.cells #[.string s] 9)) w') := Lib.hid
    (set_indexFunc h.sa h.sets h.sc _ _ _ (fun y => decide (y.name = s)) _ ent_find (by have := hh.slen; omega) (Nat.le_refl _) (hh.sets.grow hB) HA.out)
  have HBB := Lib.hid hB
  clear hs0 HA hB hh
  go_enter Tryz.func62, Tryz.ntmps62
  go_wp2_with (go_at_call 92; (with_reducible refine HI.out.mono ?_); rintro e w1 ⟨rfl, hb1⟩)
  go_ret
  exact ⟨rfl, HBB.out.trans (hb1.mono HBB.out.size)⟩
set_option maxRecDepth 100000 in
set_option maxHeartbeats 32000000 in
theorem housevalid_any (h : HouseR) (w : World) (hh : HouseIn w h) :
    Calls Tryz.prog 35 #[.agg #[.string h.name, .int .i64 h.height, .slice h.sa h.sets.length h.sc, .slice h.ra h.roofs.length h.rc]] w fun e w' => e = .returned (.bool (houseB h)) ∧ Below w.heap.size w w' := by
  have HH := Lib.hid hh
  have hsl := hh.slen
  have hcap := hh.scap
  have HGV : Hid (∀ w' : World, Below w.heap.size w w' → Calls Tryz.prog 61 #[.slice h.ra h.roofs.length h.rc] w' fun e w2 => e = .returned (.bool (roofsB h.roofs)) ∧ Below w'.heap.size w' w2) := Lib.hid fun w' hb => gridvalid_any h.ra h.roofs h.rc w' hh.rlen hh.rcap (hh.roofs.grow hb)
  have HNO : Hid ((¬ (isNameB h.name = true ∧ 1 ≤ h.height ∧ h.height ≤ 1048576 ∧ h.sets.length ≤ 60 ∧ RoofsOK h.roofs)) → houseB h = false) := Lib.hid fun n => by
    cases e : houseB h
    · rfl
    · obtain ⟨a, b, c, d, e, _⟩ := houseB_iff.1 e
      exact absurd ⟨a, b, c, d, e⟩ n
  have hat := HouseAt.new w h 50
  obtain ⟨sa, hsa⟩ : ∃ a, h.sa = a := ⟨_, rfl⟩
  have HSA := Lib.hid hsa
  rw [hsa] at hat ⊢
  have HAT := Lib.hid hat
  have hW0 := below_new w (.cells #[.string h.name, .int .i64 h.height, .slice sa h.sets.length h.sc, .slice h.ra h.roofs.length h.rc] 50)
  clear hh hat hsa
  cases h1 : isNameB h.name
  case false =>
    have H1 := Lib.hid h1
    have HZ := Lib.hid (HNO.out (fun q => by rw [H1.out] at q; exact absurd q.1 (by decide)))
    clear h1
    go_enter Tryz.func35, Tryz.ntmps35
    go_upto_region 1 with (fail)
    generalize w.alloc (.cells #[.string h.name, .int .i64 h.height, .slice sa h.sets.length h.sc, .slice h.ra h.roofs.length h.rc] 50) = W0 at *
    obtain ⟨k0, k1, k2, k3⟩ := HAT.out
    rw [HSA.out] at k2
    go_wp2_with (first
      | (go_at_call 48; (with_reducible refine (isName_any h.name _).mono ?_); rintro e w1 ⟨rfl, rfl⟩; rw [H1.out])
      | (go_at_call 61; (with_reducible refine (HGV.out _ hW0).mono ?_); rintro e w2 ⟨rfl, hb2⟩; rw [H5.out]; clear k0 k1 k2 k3; obtain ⟨k0, k1, k2, k3⟩ := HAT.out.carry hb2; rw [HSA.out] at k2))
    go_ret
    exact ⟨ret_bool HZ.out.symm, hW0⟩
  have H1 := Lib.hid h1
  clear h1
  cases h2 : decide (h.height < 1)
  case true =>
    have H2 := Lib.hid h2
    have HZ := Lib.hid (HNO.out (fun q => by have := of_decide_eq_true H2.out; omega))
    go_enter Tryz.func35, Tryz.ntmps35
    go_upto_region 1 with (fail)
    generalize w.alloc (.cells #[.string h.name, .int .i64 h.height, .slice sa h.sets.length h.sc, .slice h.ra h.roofs.length h.rc] 50) = W0 at *
    obtain ⟨k0, k1, k2, k3⟩ := HAT.out
    rw [HSA.out] at k2
    go_wp2_with (first
      | (go_at_call 48; (with_reducible refine (isName_any h.name _).mono ?_); rintro e w1 ⟨rfl, rfl⟩; rw [H1.out])
      | (go_at_call 61; (with_reducible refine (HGV.out _ hW0).mono ?_); rintro e w2 ⟨rfl, hb2⟩; rw [H5.out]; clear k0 k1 k2 k3; obtain ⟨k0, k1, k2, k3⟩ := HAT.out.carry hb2; rw [HSA.out] at k2))
    go_ret
    exact ⟨ret_bool HZ.out.symm, hW0⟩
  have H2 := Lib.hid h2
  cases h3 : decide (1048576 < h.height)
  case true =>
    have H3 := Lib.hid h3
    have HZ := Lib.hid (HNO.out (fun q => by have := of_decide_eq_true H3.out; omega))
    go_enter Tryz.func35, Tryz.ntmps35
    go_upto_region 1 with (fail)
    generalize w.alloc (.cells #[.string h.name, .int .i64 h.height, .slice sa h.sets.length h.sc, .slice h.ra h.roofs.length h.rc] 50) = W0 at *
    obtain ⟨k0, k1, k2, k3⟩ := HAT.out
    rw [HSA.out] at k2
    go_wp2_with (first
      | (go_at_call 48; (with_reducible refine (isName_any h.name _).mono ?_); rintro e w1 ⟨rfl, rfl⟩; rw [H1.out])
      | (go_at_call 61; (with_reducible refine (HGV.out _ hW0).mono ?_); rintro e w2 ⟨rfl, hb2⟩; rw [H5.out]; clear k0 k1 k2 k3; obtain ⟨k0, k1, k2, k3⟩ := HAT.out.carry hb2; rw [HSA.out] at k2))
    go_ret
    exact ⟨ret_bool HZ.out.symm, hW0⟩
  have H3 := Lib.hid h3
  cases h4 : decide ((60 : Int) < (h.sets.length : Int))
  case true =>
    have H4 := Lib.hid h4
    have HZ := Lib.hid (HNO.out (fun q => by have := of_decide_eq_true H4.out; omega))
    go_enter Tryz.func35, Tryz.ntmps35
    go_upto_region 1 with (fail)
    generalize w.alloc (.cells #[.string h.name, .int .i64 h.height, .slice sa h.sets.length h.sc, .slice h.ra h.roofs.length h.rc] 50) = W0 at *
    obtain ⟨k0, k1, k2, k3⟩ := HAT.out
    rw [HSA.out] at k2
    go_wp2_with (first
      | (go_at_call 48; (with_reducible refine (isName_any h.name _).mono ?_); rintro e w1 ⟨rfl, rfl⟩; rw [H1.out])
      | (go_at_call 61; (with_reducible refine (HGV.out _ hW0).mono ?_); rintro e w2 ⟨rfl, hb2⟩; rw [H5.out]; clear k0 k1 k2 k3; obtain ⟨k0, k1, k2, k3⟩ := HAT.out.carry hb2; rw [HSA.out] at k2))
    go_ret
    exact ⟨ret_bool HZ.out.symm, hW0⟩
  have H4 := Lib.hid h4
  cases h5 : roofsB h.roofs
  case false =>
    have H5 := Lib.hid h5
    have HZ := Lib.hid (HNO.out (fun q => by rw [roofsB_iff.2 q.2.2.2.2] at H5; exact absurd H5.out (by decide)))
    clear h5
    go_enter Tryz.func35, Tryz.ntmps35
    go_upto_region 1 with (fail)
    generalize w.alloc (.cells #[.string h.name, .int .i64 h.height, .slice sa h.sets.length h.sc, .slice h.ra h.roofs.length h.rc] 50) = W0 at *
    obtain ⟨k0, k1, k2, k3⟩ := HAT.out
    rw [HSA.out] at k2
    go_wp2_with (first
      | (go_at_call 48; (with_reducible refine (isName_any h.name _).mono ?_); rintro e w1 ⟨rfl, rfl⟩; rw [H1.out])
      | (go_at_call 61; (with_reducible refine (HGV.out _ hW0).mono ?_); rintro e w2 ⟨rfl, hb2⟩; rw [H5.out]; clear k0 k1 k2 k3; obtain ⟨k0, k1, k2, k3⟩ := HAT.out.carry hb2; rw [HSA.out] at k2))
    go_ret
    exact ⟨ret_bool HZ.out.symm, hW0.trans (hb2.mono hW0.size)⟩
  have H5 := Lib.hid h5
  clear h5
  have HOK : Hid ((∀ k, k < h.sets.length → SetAtOK h k) → houseB h = true) := Lib.hid fun q => houseB_iff.2 ⟨H1.out, by have := of_decide_eq_false H2.out; omega, by have := of_decide_eq_false H3.out; omega, by have := of_decide_eq_false H4.out; omega, roofsB_iff.1 H5.out, q⟩
  go_enter Tryz.func35, Tryz.ntmps35
  go_upto_region 1 with (fail)
  generalize w.alloc (.cells #[.string h.name, .int .i64 h.height, .slice sa h.sets.length h.sc, .slice h.ra h.roofs.length h.rc] 50) = W0 at *
  obtain ⟨k0, k1, k2, k3⟩ := HAT.out
  rw [HSA.out] at k2
  go_wp2_with (first
      | (go_at_call 48; (with_reducible refine (isName_any h.name _).mono ?_); rintro e w1 ⟨rfl, rfl⟩; rw [H1.out])
      | (go_at_call 61; (with_reducible refine (HGV.out _ hW0).mono ?_); rintro e w2 ⟨rfl, hb2⟩; rw [H5.out]; clear k0 k1 k2 k3; obtain ⟨k0, k1, k2, k3⟩ := HAT.out.carry hb2; rw [HSA.out] at k2))
  have hB1 := hW0.trans (hb2.mono hW0.size)
  have HAT1 := Lib.hid (HAT.out.carry hb2)
  have hz : w.heap.size < w2.heap.size := World.block_lt_of_cell? _ _ HAT1.out.1
  clear k0 k1 k2 k3 hb2 hW0 h2 h3 h4 HNO HGV HAT
  go_loopw [34] (fun i wr => ∃ k : Nat, k ≤ h.sets.length ∧ i = .int .i64 k ∧ Hid (∀ j, j < k → SetAtOK h j) ∧ Below w2.heap.size w2 wr) (fun i _ => h.sets.length - (intOf i).toNat)
  case atStart => exact ⟨0, Nat.zero_le _, rfl, Lib.hid (fun _ h => absurd h (Nat.not_lt_zero _)), Below.refl _ _⟩
  case round =>
    obtain ⟨k, hk, rfl, HO, hB⟩ := hrel
    have HB := Lib.hid hB
    by_cases hlt : k < h.sets.length
    · have HIN : Hid (∀ w' : World, Below w2.heap.size w2 w' → HouseIn w' h) := Lib.hid fun w' q => HH.out.grow (hB1.trans (q.mono hB1.size))
      obtain ⟨b, off, esa, hb, hc⟩ := (HIN.out wr hB).sets (by omega)
      obtain rfl : sa = some ⟨b, off, none⟩ := HSA.out.symm.trans esa
      have HSET := Lib.hid ((HIN.out wr hB).all k hlt)
      obtain ⟨c0, c1, c2, c3, c4, c5, c6, c7, c8, c9, c10, c11, c12⟩ := hc k hlt
      have i0 : 0 ≤ (k : Int) := by omega
      have i1 : (k : Int) < (h.sets.length : Int) := by omega
      have s1 : IntKind.i64.wrap ((k : Int) + 1) = (k : Int) + 1 := IntWalk.i64_in _ (by omega)
      have HN : Hid (¬ SetAtOK h k → houseB h = false) := Lib.hid (house_no hlt)
      have HDEF : Hid (SetAtOK h k ↔ setB (hg h.sets k) = true ∧ (hg h.sets k).high ≤ h.height ∧ ∀ j, j < k → (hg h.sets j).name ≠ (hg h.sets k).name) := Lib.hid Iff.rfl
      have HFX := Lib.hid (find_at hlt)
      have HO2 : Hid (SetAtOK h k → ∀ j, j < k + 1 → SetAtOK h j) := Lib.hid fun q j hj => by
        rcases Nat.lt_or_eq_of_le (Nat.le_of_lt_succ hj) with l | l
        · exact HO.out j l
        · subst l; exact q
      generalize hg h.sets k = x at *
      have HNEW := Lib.hid (SetAt.new wr x 26)
      have hBW := below_new wr (.cells #[.string x.name, .int .i64 x.depth, .int .i64 x.low, .int .i64 x.high, .int .i64 x.length, .slice x.la x.lines.length x.lc, .int .i64 x.pipe, .int .i64 x.arbor, .int .i64 x.purchase, .int .i64 x.most, .int .i64 x.brake, .slice x.ia x.items.length x.ic, .slice x.ba x.bricks.length x.bc] 26)
      have hz2 : wr.heap.size < (wr.alloc (.cells #[.string x.name, .int .i64 x.depth, .int .i64 x.low, .int .i64 x.high, .int .i64 x.length, .slice x.la x.lines.length x.lc, .int .i64 x.pipe, .int .i64 x.arbor, .int .i64 x.purchase, .int .i64 x.most, .int .i64 x.brake, .slice x.ia x.items.length x.ic, .slice x.ba x.bricks.length x.bc] 26)).heap.size := by simp
      clear hc HO esa
      go_upto_region 6 with (fail)
      clear c0 c1 c2 c3 c4 c5 c6 c7 c8 c9 c10 c11 c12
      obtain ⟨B, hBe⟩ : ∃ b, wr.heap.size = b := ⟨_, rfl⟩
      simp only [hBe] at HNEW hz2 ⊢
      generalize wr.alloc (.cells #[.string x.name, .int .i64 x.depth, .int .i64 x.low, .int .i64 x.high, .int .i64 x.length, .slice x.la x.lines.length x.lc, .int .i64 x.pipe, .int .i64 x.arbor, .int .i64 x.purchase, .int .i64 x.most, .int .i64 x.brake, .slice x.ia x.items.length x.ic, .slice x.ba x.bricks.length x.bc] 26) = W1 at *
      have hBX : Below w2.heap.size w2 W1 := HB.out.trans (hBW.mono HB.out.size)
      have HHW := Lib.hid (HIN.out W1 hBX)
      have HBV := Lib.hid (batvalid_any x W1 (HSET.out.grow hBW))
      have x0 : ∀ wx, Below W1.heap.size W1 wx → wx.cell? ⟨B, 0, none⟩ = some (.string x.name) := fun wx q => (HNEW.out.below q hz2).1
      have x3 : ∀ wx, Below W1.heap.size W1 wx → wx.cell? ⟨B, 3, none⟩ = some (.int .i64 x.high) := fun wx q => (HNEW.out.below q hz2).2.2.2.1
      obtain ⟨d0, d1, d2, d3, d4, d5, d6, d7, d8, d9, d10, d11, d12⟩ := HNEW.out
      have HY : Hid (∀ wx, Below W1.heap.size W1 wx → HouseAt wx w.heap.size h) := Lib.hid fun wx q => HAT1.out.carry (hBX.trans (q.mono hBX.size))
      have y0 : ∀ wx, Below W1.heap.size W1 wx → wx.cell? ⟨w.heap.size, 0, none⟩ = some (.string h.name) := fun wx q => (HY.out wx q).1
      have y1 : ∀ wx, Below W1.heap.size W1 wx → wx.cell? ⟨w.heap.size, 1, none⟩ = some (.int .i64 h.height) := fun wx q => (HY.out wx q).2.1
      have y2 : ∀ wx, Below W1.heap.size W1 wx → wx.cell? ⟨w.heap.size, 2, none⟩ = some (.slice (some ⟨b, off, none⟩) h.sets.length h.sc) := fun wx q => by have := (HY.out wx q).2.2.1; rwa [HSA.out] at this
      have y3 : ∀ wx, Below W1.heap.size W1 wx → wx.cell? ⟨w.heap.size, 3, none⟩ = some (.slice h.ra h.roofs.length h.rc) := fun wx q => (HY.out wx q).2.2.2
      clear hB hBW
      cases h6 : setB x
      · have H6 := Lib.hid h6
        have HZ := Lib.hid (HN.out (fun q => by have := (HDEF.out.1 q).1; rw [H6.out] at this; cases this))
        rw [h6] at HBV
        clear h6
        go_wp2_with (first
          | (go_at_call 23; (with_reducible refine HBV.out.mono ?_); rintro e w3 ⟨rfl, hb3⟩))
        go_ret
        exact ⟨ret_bool HZ.out.symm, hB1.trans ((hBX.trans (hb3.mono hBX.size)).mono hB1.size)⟩
      have H6 := Lib.hid h6
      rw [h6] at HBV
      clear h6
      cases h7 : decide (h.height < x.high)
      case true =>
        have H7 := Lib.hid h7
        have HZ := Lib.hid (HN.out (fun q => by have := (HDEF.out.1 q).2.1; have e := of_decide_eq_true H7.out; omega))
        go_wp2_with (first
          | (go_at_call 23; (with_reducible refine HBV.out.mono ?_); rintro e w3 ⟨rfl, hb3⟩))
        go_ret
        exact ⟨ret_bool HZ.out.symm, hB1.trans ((hBX.trans (hb3.mono hBX.size)).mono hB1.size)⟩
      have H7 := Lib.hid h7
      have HFI : Hid (∀ wx, Below W1.heap.size W1 wx → Calls Tryz.prog 62 #[.agg #[.string h.name, .int .i64 h.height, .slice (some ⟨b, off, none⟩) h.sets.length h.sc, .slice h.ra h.roofs.length h.rc], .string x.name] wx fun e w' => e = .returned (.int .i64 (findS h.sets x.name)) ∧ Below wx.heap.size wx w') := Lib.hid fun wx q => by
        have := hfind_any h x.name wx (HIN.out wx (hBX.trans (q.mono hBX.size)))
        rwa [HSA.out] at this
      obtain ⟨F, hF⟩ : ∃ F, findS h.sets x.name = F := ⟨_, rfl⟩
      rw [hF] at HFI HFX
      by_cases h8 : F = (k : Int)
      · have g8 : (F != (k : Int)) = false := by simpa using h8
        have HT := Lib.hid (HO2.out (HDEF.out.2 ⟨H6.out, by have := of_decide_eq_false H7.out; omega, HFX.out.1 h8⟩))
        clear h8 hF
        go_wp2_with (first
          | (go_at_call 23; (with_reducible refine HBV.out.mono ?_); rintro e w3 ⟨rfl, hb3⟩)
          | (go_at_call 62; (with_reducible refine (HFI.out _ hb3).mono ?_); rintro e w4 ⟨rfl, hb4⟩))
        go_roundw
        case rel => exact ⟨k + 1, by omega, by go_num, HT, hBX.trans ((hb3.trans (hb4.mono hb3.size)).mono hBX.size)⟩
        case measure => simp [intOf]; omega
      · have g8 : (F != (k : Int)) = true := by simpa using h8
        have HZ := Lib.hid (HN.out (fun q => h8 (HFX.out.2 (HDEF.out.1 q).2.2)))
        clear h8 hF
        go_wp2_with (first
          | (go_at_call 23; (with_reducible refine HBV.out.mono ?_); rintro e w3 ⟨rfl, hb3⟩)
          | (go_at_call 62; (with_reducible refine (HFI.out _ hb3).mono ?_); rintro e w4 ⟨rfl, hb4⟩))
        go_ret
        exact ⟨ret_bool HZ.out.symm, hB1.trans ((hBX.trans ((hb3.trans (hb4.mono hb3.size)).mono hBX.size)).mono hB1.size)⟩
    · obtain rfl : k = h.sets.length := by omega
      have HR := Lib.hid (HOK.out HO.out)
      go_wp2_with fail
      go_ret
      exact ⟨ret_bool HR.out.symm, hB1.trans (hB.mono hB1.size)⟩
end Go.Proofs.YtfkmnneieglolaaGreatDoor
