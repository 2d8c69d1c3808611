/-
  THE WALK of the law MoveGoes.
-/
import Derived.Test.YtbgkgahmicepdaaZ1
import Derived.Test.YtbgkgahmicepdaaZ32
import Derived.Test.YtbgkgahmicepdaaZ33
import Derived.Test.YtbgkgahmicepdaaZ15
namespace Go.Proofs.Ytbgkgahmicepdaa
section
variable {P : Program} {ops : Array Oper} {Q : Exit → Act → World → Prop} {md : Region.Mode} {S : World → Prop}
theorem tkD (i : Nat) {oi : Oper} {v : Value} {fuel : Nat} {listed : Array Bool} {a : Act} {w : World} (h : wpAnyH P md ops Q S fuel (listed.setIfInBounds i true) (a.put oi.dst v) w)
    (hi : ops[i]? = some oi := by simp only [List.getElem?_toArray, List.getElem?_cons_succ, List.getElem?_cons_zero]; rfl)
    (hs : Region.noSelect ops = true := by kernel_rfl) (hf : Region.free md ops listed i = true := by kernel_rfl) (hr : (Region.ready md ops listed).contains i = true := by kernel_rfl)
    (hQ : ∀ c a w, Q (.panic c) (a.put oi.dst v) w → Q (.panic c) a w := by exact fun _ _ _ h => h)
    (hy : YieldsIf P ops S oi v a := by refine Or.inl ⟨by rfl, ?_⟩; (intro w hSw; (try dsimp only at hSw); go_split_ands; go_simp; try with_reducible rfl))
    (hS : S w := by assumption) : wpAnyH P md ops Q S (fuel + 1) listed a w := wpAnyH_take hi hs hf hr hQ hy hS h
theorem tkE (i : Nat) {oi : Oper} {fuel : Nat} {listed : Array Bool} {a : Act} {w : World} (h : wpAnyH P md ops Q S fuel (listed.setIfInBounds i true) (a.put oi.dst undef) w)
    (hi : ops[i]? = some oi := by simp only [List.getElem?_toArray, List.getElem?_cons_succ, List.getElem?_cons_zero]; rfl)
    (hs : Region.noSelect ops = true := by kernel_rfl) (hf : Region.free md ops listed i = true := by kernel_rfl) (hr : (Region.ready md ops listed).contains i = true := by kernel_rfl)
    (hQ : ∀ c a w, Q (.panic c) (a.put oi.dst undef) w → Q (.panic c) a w := by exact fun _ _ _ h => h)
    (hy : YieldsIf P ops S oi undef a := by exact Or.inr ⟨by rfl, rfl⟩)
    (hS : S w := by assumption) : wpAnyH P md ops Q S (fuel + 1) listed a w := wpAnyH_take hi hs hf hr hQ hy hS h
end
open Go.RowKit Go.Shelf
attribute [local go_sem] Oper.semAt_some
noncomputable def goCode (n : Nat) : Code := ((Try.f3.body.bind (regionIn n)).getD .skip)
set_option maxRecDepth 100000 in
set_option maxHeartbeats 8000000 in
theorem goR8 {h : HouseR} {m : Mv} {f : Int} {A : Int × Int × Int} {Bh Bm : Nat} {W0 : World} {u0 u2 u3 u4 u6 u8 u9 u10 u11 u12 u13 u14 u15 u16 u17 u18 u19 u20 u21 u22 u23 u24 u25 u26 u27 u28 u29 u30 u31 u32 u33 u34 u35 u36 u37 u38 u39 u40 u41 u42 u43 u44 u45 u46 u47 u48 u49 u50 u51 u52 u53 u54 u55 u56 u57 u58 u59 u60 u61 u62 u63 u64 u65 u66 u67 u68 u69 u70 u71 u72 u73 u74 u75 u76 u77 u78 u79 u80 u81 u82 u83 u84 u85 u86 u87 u88 u89 u90 u91 u92 u93 u94 u95 u96 u97 u98 u99 u100 u101 u102 u103 u104 u105 u106 u107 u108 u109 u110 u111 u112 u113 u114 u115 u116 u117 u118 u119 u120 u121 u122 u123 u124 u125 u126 u127 u128 u129 u130 u131 u132 u133 u134 u135 u136 u137 u138 u139 u140 u141 u142 u143 u144 u145 u146 u147 u148 u149 u150 u151 u152 u153 u154 u155 u156 u157 u158 u159 u160 u161 u162 u163 u164 u165 u166 u167 u168 u169 u170 u171 u172 u173 u174 u175 u176 u177 u178 u179 u180 u181 u182 u183 u184 u185 u186 u187 u188 u189 u190 u191 u192 u193 u194 u195 u196 u197 u198 u199 u200 u201 u202 u203 u204 u205 u206 u207 u208 u209 u210 u211 u212 u213 u214 u215 u216 u217 u218 : Value} {R : List Value} {K : Act → World → Prop} {Q0 : Exit → Act → World → Prop}
  (HC : Hid (∀ w : World, HouseIn w h → Calls Try.prog 10 #[.agg #[.string h.name, .int .i64 h.height, .slice h.sa h.sets.length h.sc, .slice h.ra h.roofs.length h.rc], .int .i64 f, .agg #[.string m.name, .int .i64 m.to, .int .i64 m.spd, .int .i64 m.rise, .int .i64 m.fall], .agg #[.int .i64 0, .int .i64 1]] w fun e w' => e = .returned (.tuple #[.agg #[.int .i64 A.1, .int .i64 A.2.1], .int .i64 A.2.2]) ∧ Below w.heap.size w w')) (HH : Hid (HouseIn W0 h)) (HX : Hid (∀ w', Below W0.heap.size W0 w' → (fun w' => w'.cell? ⟨Bh, 0, none⟩ = some (.string h.name) ∧ w'.cell? ⟨Bh, 1, none⟩ = some (.int .i64 h.height) ∧ w'.cell? ⟨Bh, 2, none⟩ = some (.slice h.sa h.sets.length h.sc) ∧ w'.cell? ⟨Bh, 3, none⟩ = some (.slice h.ra h.roofs.length h.rc) ∧ w'.cell? ⟨Bm, 0, none⟩ = some (.string m.name) ∧ w'.cell? ⟨Bm, 1, none⟩ = some (.int .i64 m.to) ∧ w'.cell? ⟨Bm, 2, none⟩ = some (.int .i64 m.spd) ∧ w'.cell? ⟨Bm, 3, none⟩ = some (.int .i64 m.rise) ∧ w'.cell? ⟨Bm, 4, none⟩ = some (.int .i64 m.fall)) w'))
  (hK : ∀ (v13 v14 v49 v50 v51 v52 v53 v54 v55 v56 : Value) (wx : World), (∃ Bx : Nat, v13 = .pointer (some ⟨Bx, 0, none⟩) ∧ v14 = .int .i64 A.2.2 ∧ W0.heap.size ≤ Bx ∧ Below W0.heap.size W0 wx ∧ FI wx Bx A.1 A.2.1) → K ⟨List.toArray (u0 :: .int .i64 f :: u2 :: u3 :: u4 :: .pointer (some ⟨Bh, 0, none⟩) :: u6 :: .pointer (some ⟨Bm, 0, none⟩) :: u8 :: u9 :: u10 :: u11 :: u12 :: v13 :: v14 :: u15 :: u16 :: u17 :: u18 :: u19 :: u20 :: u21 :: u22 :: u23 :: u24 :: u25 :: u26 :: u27 :: u28 :: u29 :: u30 :: u31 :: u32 :: u33 :: u34 :: u35 :: u36 :: u37 :: u38 :: u39 :: u40 :: u41 :: u42 :: u43 :: u44 :: u45 :: u46 :: u47 :: u48 :: v49 :: v50 :: v51 :: v52 :: v53 :: v54 :: v55 :: v56 :: u57 :: u58 :: u59 :: u60 :: u61 :: u62 :: u63 :: u64 :: u65 :: u66 :: u67 :: u68 :: u69 :: u70 :: u71 :: u72 :: u73 :: u74 :: u75 :: u76 :: u77 :: u78 :: u79 :: u80 :: u81 :: u82 :: u83 :: u84 :: u85 :: u86 :: u87 :: u88 :: u89 :: u90 :: u91 :: u92 :: u93 :: u94 :: u95 :: u96 :: u97 :: u98 :: u99 :: u100 :: u101 :: u102 :: u103 :: u104 :: u105 :: u106 :: u107 :: u108 :: u109 :: u110 :: u111 :: u112 :: u113 :: u114 :: u115 :: u116 :: u117 :: u118 :: u119 :: u120 :: u121 :: u122 :: u123 :: u124 :: u125 :: u126 :: u127 :: u128 :: u129 :: u130 :: u131 :: u132 :: u133 :: u134 :: u135 :: u136 :: u137 :: u138 :: u139 :: u140 :: u141 :: u142 :: u143 :: u144 :: u145 :: u146 :: u147 :: u148 :: u149 :: u150 :: u151 :: u152 :: u153 :: u154 :: u155 :: u156 :: u157 :: u158 :: u159 :: u160 :: u161 :: u162 :: u163 :: u164 :: u165 :: u166 :: u167 :: u168 :: u169 :: u170 :: u171 :: u172 :: u173 :: u174 :: u175 :: u176 :: u177 :: u178 :: u179 :: u180 :: u181 :: u182 :: u183 :: u184 :: u185 :: u186 :: u187 :: u188 :: u189 :: u190 :: u191 :: u192 :: u193 :: u194 :: u195 :: u196 :: u197 :: u198 :: u199 :: u200 :: u201 :: u202 :: u203 :: u204 :: u205 :: u206 :: u207 :: u208 :: u209 :: u210 :: u211 :: u212 :: u213 :: u214 :: u215 :: u216 :: u217 :: u218 :: R), []⟩ wx) :
  Code.wp Try.prog (goCode 8) (Exit.then K Q0) ⟨List.toArray (u0 :: .int .i64 f :: u2 :: u3 :: u4 :: .pointer (some ⟨Bh, 0, none⟩) :: u6 :: .pointer (some ⟨Bm, 0, none⟩) :: u8 :: u9 :: u10 :: u11 :: u12 :: u13 :: u14 :: u15 :: u16 :: u17 :: u18 :: u19 :: u20 :: u21 :: u22 :: u23 :: u24 :: u25 :: u26 :: u27 :: u28 :: u29 :: u30 :: u31 :: u32 :: u33 :: u34 :: u35 :: u36 :: u37 :: u38 :: u39 :: u40 :: u41 :: u42 :: u43 :: u44 :: u45 :: u46 :: u47 :: u48 :: u49 :: u50 :: u51 :: u52 :: u53 :: u54 :: u55 :: u56 :: u57 :: u58 :: u59 :: u60 :: u61 :: u62 :: u63 :: u64 :: u65 :: u66 :: u67 :: u68 :: u69 :: u70 :: u71 :: u72 :: u73 :: u74 :: u75 :: u76 :: u77 :: u78 :: u79 :: u80 :: u81 :: u82 :: u83 :: u84 :: u85 :: u86 :: u87 :: u88 :: u89 :: u90 :: u91 :: u92 :: u93 :: u94 :: u95 :: u96 :: u97 :: u98 :: u99 :: u100 :: u101 :: u102 :: u103 :: u104 :: u105 :: u106 :: u107 :: u108 :: u109 :: u110 :: u111 :: u112 :: u113 :: u114 :: u115 :: u116 :: u117 :: u118 :: u119 :: u120 :: u121 :: u122 :: u123 :: u124 :: u125 :: u126 :: u127 :: u128 :: u129 :: u130 :: u131 :: u132 :: u133 :: u134 :: u135 :: u136 :: u137 :: u138 :: u139 :: u140 :: u141 :: u142 :: u143 :: u144 :: u145 :: u146 :: u147 :: u148 :: u149 :: u150 :: u151 :: u152 :: u153 :: u154 :: u155 :: u156 :: u157 :: u158 :: u159 :: u160 :: u161 :: u162 :: u163 :: u164 :: u165 :: u166 :: u167 :: u168 :: u169 :: u170 :: u171 :: u172 :: u173 :: u174 :: u175 :: u176 :: u177 :: u178 :: u179 :: u180 :: u181 :: u182 :: u183 :: u184 :: u185 :: u186 :: u187 :: u188 :: u189 :: u190 :: u191 :: u192 :: u193 :: u194 :: u195 :: u196 :: u197 :: u198 :: u199 :: u200 :: u201 :: u202 :: u203 :: u204 :: u205 :: u206 :: u207 :: u208 :: u209 :: u210 :: u211 :: u212 :: u213 :: u214 :: u215 :: u216 :: u217 :: u218 :: R), []⟩ W0 := by
 conv => arg 2; whnf
 refine wp_region_noPanic ?_
 refine wp_region_held_drew (S := fun w' => w'.cell? ⟨Bh, 0, none⟩ = some (.string h.name) ∧ w'.cell? ⟨Bh, 1, none⟩ = some (.int .i64 h.height) ∧ w'.cell? ⟨Bh, 2, none⟩ = some (.slice h.sa h.sets.length h.sc) ∧ w'.cell? ⟨Bh, 3, none⟩ = some (.slice h.ra h.roofs.length h.rc) ∧ w'.cell? ⟨Bm, 0, none⟩ = some (.string m.name) ∧ w'.cell? ⟨Bm, 1, none⟩ = some (.int .i64 m.to) ∧ w'.cell? ⟨Bm, 2, none⟩ = some (.int .i64 m.spd) ∧ w'.cell? ⟨Bm, 3, none⟩ = some (.int .i64 m.rise) ∧ w'.cell? ⟨Bm, 4, none⟩ = some (.int .i64 m.fall)) (by kernel_rfl) (HX.out _ (Below.refl _ _).drew) (fun hHeld => ?_)
 have hB0 := (Below.refl W0.heap.size W0).drew
 obtain ⟨w0, hw0⟩ : ∃ x, W0.drew = x := ⟨_, rfl⟩
 simp only [hw0] at hB0 hHeld ⊢
 clear hw0
 refine tkD 0 ?_
 simp only [Act.put, List.setIfInBounds_toArray, List.set_cons_zero, List.set_cons_succ]
 refine tkD 1 ?_
 simp only [Act.put, List.setIfInBounds_toArray, List.set_cons_zero, List.set_cons_succ]
 refine tkD 2 ?_
 simp only [Act.put, List.setIfInBounds_toArray, List.set_cons_zero, List.set_cons_succ]
 refine wpAnyH_ready (rs := [3, 8]) (by kernel_rfl) (by simp) ?_
 refine tkC (fun K hK => ?_) (tkC (fun K hK => ?_) (AllReadyH.nil))
 ·go_simp
  (go_at_call 11; go_split_ands; (with_reducible refine (lwhole_any 0 _).mono ?_); rintro e w1 ⟨rfl, hb1⟩)
  go_wp2_with fail
  have hB1 := hB0.trans (hb1.mono hB0.size)
  refine hK.out _ _ (HX.out _ hB1) (fun hHeld => ?_)
  clear hK K
  try simp only [Act.put, List.setIfInBounds_toArray, List.set_cons_zero, List.set_cons_succ]
  refine wpAnyH_ready (rs := [4, 8]) (by kernel_rfl) (by simp) ?_
  refine tkC (fun K hK => ?_) (tkC (fun K hK => ?_) (AllReadyH.nil))
  ·go_simp
   (go_at_call 10; go_split_ands; (with_reducible refine (HC.out _ (HH.out.grow (by with_reducible assumption))).mono ?_); rintro e w2 ⟨rfl, hb2⟩)
   go_wp2_with fail
   have hB2 := hB1.trans (hb2.mono hB1.size)
   refine hK.out _ _ (HX.out _ hB2) (fun hHeld => ?_)
   clear hK K
   try simp only [Act.put, List.setIfInBounds_toArray, List.set_cons_zero, List.set_cons_succ]
   refine tkD 5 ?_
   simp only [Act.put, List.setIfInBounds_toArray, List.set_cons_zero, List.set_cons_succ]
   refine tkD 6 ?_
   simp only [Act.put, List.setIfInBounds_toArray, List.set_cons_zero, List.set_cons_succ]
   refine tkD 7 ?_
   simp only [Act.put, List.setIfInBounds_toArray, List.set_cons_zero, List.set_cons_succ]
   refine wpAnyH_ready (rs := [8]) (by kernel_rfl) (by simp) ?_
   refine tkC (fun K hK => ?_) (AllReadyH.nil)
   rw [if_pos (by rfl)]
   go_split_ands
   go_wp2_with fail
   have hB3 := below_a (.cells #[.int .i64 0, .int .i64 0] 29) hB2
   have FBx := FI.new w2 29
   obtain ⟨Bx, hBx⟩ : ∃ b, w2.heap.size = b := ⟨_, rfl⟩
   have hloBx : W0.heap.size ≤ Bx := by have := hB2.size; omega
   simp only [hBx] at FBx ⊢
   generalize w2.alloc (.cells #[.int .i64 0, .int .i64 0] 29) = w3 at *
   refine hK.out _ _ (HX.out _ hB3) (fun hHeld => ?_)
   clear hK K
   try simp only [Act.put, List.setIfInBounds_toArray, List.set_cons_zero, List.set_cons_succ]
   have bltBx := FBx.2.2.2.2
   refine wpAnyH_ready (rs := [9]) (by kernel_rfl) (by simp) ?_
   refine tkC (fun K hK => ?_) (AllReadyH.nil)
   rw [if_pos (by rfl)]
   go_split_ands
   obtain ⟨fa, fb, fc, fd, fe⟩ := FBx
   go_wp2_with fail
   have hB4 := below_s ⟨Bx, 1, none⟩ (.int .i64 (A.2.1)) (below_s ⟨Bx, 0, none⟩ (.int .i64 (A.1)) hB3 hloBx) hloBx
   have FBx := FI.set ⟨fa, fb, fc, fd, fe⟩ (A.1) (A.2.1)
   clear fa fb fc fd fe
   generalize ((w3.setCell ⟨Bx, 0, none⟩ (.int .i64 (A.1))).setCell ⟨Bx, 1, none⟩ (.int .i64 (A.2.1))) = w4 at *
   refine hK.out _ _ (HX.out _ hB4) (fun hHeld => ?_)
   clear hK K
   try simp only [Act.put, List.setIfInBounds_toArray, List.set_cons_zero, List.set_cons_succ]
   have bltBx := FBx.2.2.2.2
   refine tkD 10 ?_
   simp only [Act.put, List.setIfInBounds_toArray, List.set_cons_zero, List.set_cons_succ]
   refine wpAnyH_done (by kernel_rfl) ?_ _
   have hB := hB4
   exact hK _ _ _ _ _ _ _ _ _ _ _ ⟨Bx, rfl, rfl, hloBx, hB, FBx⟩
  ·rw [if_pos (by rfl)]
   go_split_ands
   go_wp2_with fail
   have hB2 := below_a (.cells #[.int .i64 0, .int .i64 0] 29) hB1
   have FBx := FI.new w1 29
   obtain ⟨Bx, hBx⟩ : ∃ b, w1.heap.size = b := ⟨_, rfl⟩
   have hloBx : W0.heap.size ≤ Bx := by have := hB1.size; omega
   simp only [hBx] at FBx ⊢
   generalize w1.alloc (.cells #[.int .i64 0, .int .i64 0] 29) = w2 at *
   refine hK.out _ _ (HX.out _ hB2) (fun hHeld => ?_)
   clear hK K
   try simp only [Act.put, List.setIfInBounds_toArray, List.set_cons_zero, List.set_cons_succ]
   have bltBx := FBx.2.2.2.2
   refine wpAnyH_ready (rs := [4]) (by kernel_rfl) (by simp) ?_
   refine tkC (fun K hK => ?_) (AllReadyH.nil)
   go_simp
   (go_at_call 10; go_split_ands; (with_reducible refine (HC.out _ (HH.out.grow (by with_reducible assumption))).mono ?_); rintro e w3 ⟨rfl, hb3⟩)
   go_wp2_with fail
   have hB3 := hB2.trans (hb3.mono hB2.size)
   have FBx := FBx.carry hb3
   refine hK.out _ _ (HX.out _ hB3) (fun hHeld => ?_)
   clear hK K
   try simp only [Act.put, List.setIfInBounds_toArray, List.set_cons_zero, List.set_cons_succ]
   have bltBx := FBx.2.2.2.2
   refine tkD 5 ?_
   simp only [Act.put, List.setIfInBounds_toArray, List.set_cons_zero, List.set_cons_succ]
   refine tkD 6 ?_
   simp only [Act.put, List.setIfInBounds_toArray, List.set_cons_zero, List.set_cons_succ]
   refine tkD 7 ?_
   simp only [Act.put, List.setIfInBounds_toArray, List.set_cons_zero, List.set_cons_succ]
   refine wpAnyH_ready (rs := [9]) (by kernel_rfl) (by simp) ?_
   refine tkC (fun K hK => ?_) (AllReadyH.nil)
   rw [if_pos (by rfl)]
   go_split_ands
   obtain ⟨fa, fb, fc, fd, fe⟩ := FBx
   go_wp2_with fail
   have hB4 := below_s ⟨Bx, 1, none⟩ (.int .i64 (A.2.1)) (below_s ⟨Bx, 0, none⟩ (.int .i64 (A.1)) hB3 hloBx) hloBx
   have FBx := FI.set ⟨fa, fb, fc, fd, fe⟩ (A.1) (A.2.1)
   clear fa fb fc fd fe
   generalize ((w3.setCell ⟨Bx, 0, none⟩ (.int .i64 (A.1))).setCell ⟨Bx, 1, none⟩ (.int .i64 (A.2.1))) = w4 at *
   refine hK.out _ _ (HX.out _ hB4) (fun hHeld => ?_)
   clear hK K
   try simp only [Act.put, List.setIfInBounds_toArray, List.set_cons_zero, List.set_cons_succ]
   have bltBx := FBx.2.2.2.2
   refine tkD 10 ?_
   simp only [Act.put, List.setIfInBounds_toArray, List.set_cons_zero, List.set_cons_succ]
   refine wpAnyH_done (by kernel_rfl) ?_ _
   have hB := hB4
   exact hK _ _ _ _ _ _ _ _ _ _ _ ⟨Bx, rfl, rfl, hloBx, hB, FBx⟩
 ·rw [if_pos (by rfl)]
  go_split_ands
  go_wp2_with fail
  have hB1 := below_a (.cells #[.int .i64 0, .int .i64 0] 29) hB0
  have FBx := FI.new w0 29
  obtain ⟨Bx, hBx⟩ : ∃ b, w0.heap.size = b := ⟨_, rfl⟩
  have hloBx : W0.heap.size ≤ Bx := by have := hB0.size; omega
  simp only [hBx] at FBx ⊢
  generalize w0.alloc (.cells #[.int .i64 0, .int .i64 0] 29) = w1 at *
  refine hK.out _ _ (HX.out _ hB1) (fun hHeld => ?_)
  clear hK K
  try simp only [Act.put, List.setIfInBounds_toArray, List.set_cons_zero, List.set_cons_succ]
  have bltBx := FBx.2.2.2.2
  refine wpAnyH_ready (rs := [3]) (by kernel_rfl) (by simp) ?_
  refine tkC (fun K hK => ?_) (AllReadyH.nil)
  go_simp
  (go_at_call 11; go_split_ands; (with_reducible refine (lwhole_any 0 _).mono ?_); rintro e w2 ⟨rfl, hb2⟩)
  go_wp2_with fail
  have hB2 := hB1.trans (hb2.mono hB1.size)
  have FBx := FBx.carry hb2
  refine hK.out _ _ (HX.out _ hB2) (fun hHeld => ?_)
  clear hK K
  try simp only [Act.put, List.setIfInBounds_toArray, List.set_cons_zero, List.set_cons_succ]
  have bltBx := FBx.2.2.2.2
  refine wpAnyH_ready (rs := [4]) (by kernel_rfl) (by simp) ?_
  refine tkC (fun K hK => ?_) (AllReadyH.nil)
  go_simp
  (go_at_call 10; go_split_ands; (with_reducible refine (HC.out _ (HH.out.grow (by with_reducible assumption))).mono ?_); rintro e w3 ⟨rfl, hb3⟩)
  go_wp2_with fail
  have hB3 := hB2.trans (hb3.mono hB2.size)
  have FBx := FBx.carry hb3
  refine hK.out _ _ (HX.out _ hB3) (fun hHeld => ?_)
  clear hK K
  try simp only [Act.put, List.setIfInBounds_toArray, List.set_cons_zero, List.set_cons_succ]
  have bltBx := FBx.2.2.2.2
  refine tkD 5 ?_
  simp only [Act.put, List.setIfInBounds_toArray, List.set_cons_zero, List.set_cons_succ]
  refine tkD 6 ?_
  simp only [Act.put, List.setIfInBounds_toArray, List.set_cons_zero, List.set_cons_succ]
  refine tkD 7 ?_
  simp only [Act.put, List.setIfInBounds_toArray, List.set_cons_zero, List.set_cons_succ]
  refine wpAnyH_ready (rs := [9]) (by kernel_rfl) (by simp) ?_
  refine tkC (fun K hK => ?_) (AllReadyH.nil)
  rw [if_pos (by rfl)]
  go_split_ands
  obtain ⟨fa, fb, fc, fd, fe⟩ := FBx
  go_wp2_with fail
  have hB4 := below_s ⟨Bx, 1, none⟩ (.int .i64 (A.2.1)) (below_s ⟨Bx, 0, none⟩ (.int .i64 (A.1)) hB3 hloBx) hloBx
  have FBx := FI.set ⟨fa, fb, fc, fd, fe⟩ (A.1) (A.2.1)
  clear fa fb fc fd fe
  generalize ((w3.setCell ⟨Bx, 0, none⟩ (.int .i64 (A.1))).setCell ⟨Bx, 1, none⟩ (.int .i64 (A.2.1))) = w4 at *
  refine hK.out _ _ (HX.out _ hB4) (fun hHeld => ?_)
  clear hK K
  try simp only [Act.put, List.setIfInBounds_toArray, List.set_cons_zero, List.set_cons_succ]
  have bltBx := FBx.2.2.2.2
  refine tkD 10 ?_
  simp only [Act.put, List.setIfInBounds_toArray, List.set_cons_zero, List.set_cons_succ]
  refine wpAnyH_done (by kernel_rfl) ?_ _
  have hB := hB4
  exact hK _ _ _ _ _ _ _ _ _ _ _ ⟨Bx, rfl, rfl, hloBx, hB, FBx⟩
set_option maxRecDepth 100000 in
set_option maxHeartbeats 8000000 in
theorem goR10a {m : Mv} {f : Int} {Ba Bb Bm : Nat} {W0 : World} {u0 u2 u3 u4 u5 u6 u8 u9 u10 u11 u12 u17 u18 u19 u20 u21 u22 u23 u24 u25 u26 u27 u28 u29 u30 u31 u32 u33 u34 u35 u36 u37 u38 u39 u40 u41 u42 u43 u44 u45 u46 u47 u48 u49 u50 u51 u52 u53 u54 u55 u56 u57 u58 u59 u60 u61 u62 u63 u64 u65 u66 u67 u68 u69 u70 u71 u72 u73 u74 u75 u76 u77 u78 u79 u80 u81 u82 u83 u84 u85 u86 u87 u88 u89 u90 u91 u92 u93 u94 u95 u96 u97 u98 u99 u100 u101 u102 u103 u104 u105 u106 u107 u108 u109 u110 u111 u112 u113 u114 u115 u116 u117 u118 u119 u120 u121 u122 u123 u124 u125 u126 u127 u128 u129 u130 u131 u132 u133 u134 u135 u136 u137 u138 u139 u140 u141 u142 u143 u144 u145 u146 u147 u148 u149 u150 u151 u152 u153 u154 u155 u156 u157 u158 u159 u160 u161 u162 u163 u164 u165 u166 u167 u168 u169 u170 u171 u172 u173 u174 u175 u176 u177 u178 u179 u180 u181 u182 u183 u184 u185 u186 u187 u188 u189 u190 u191 u192 u193 u194 u195 u196 u197 u198 u199 u200 u201 u202 u203 u204 u205 u206 u207 u208 u209 u210 u211 u212 u213 u214 u215 u216 u217 u218 : Value} {R : List Value} {K : Act → World → Prop} {Q0 : Exit → Act → World → Prop}
  (_r1 : (f == f) = true) (_r2 : (m.to == m.to) = true) (HX : Hid (∀ w', Below W0.heap.size W0 w' → (fun w' => w'.cell? ⟨Ba, 0, none⟩ = some (.int .i64 f) ∧ w'.cell? ⟨Ba, 1, none⟩ = some (.int .i64 1) ∧ w'.cell? ⟨Bb, 0, none⟩ = some (.int .i64 m.to) ∧ w'.cell? ⟨Bb, 1, none⟩ = some (.int .i64 1) ∧ w'.cell? ⟨Bm, 1, none⟩ = some (.int .i64 m.to)) w'))
  (hK : ∀ (v65 v66 v67 v68 v69 v70 v71 v72 v73 v74 v75 v76 v77 v78 v79 v80 v81 v82 v83 v84 v85 v86 v87 v88 v89 v90 v91 : Value) (wx : World), (v91 = .bool false ∧ Below W0.heap.size W0 wx) → K ⟨List.toArray (u0 :: .int .i64 f :: u2 :: u3 :: u4 :: u5 :: u6 :: .pointer (some ⟨Bm, 0, none⟩) :: u8 :: u9 :: u10 :: u11 :: u12 :: .pointer (some ⟨Ba, 0, none⟩) :: .int .i64 0 :: .pointer (some ⟨Bb, 0, none⟩) :: .int .i64 0 :: u17 :: u18 :: u19 :: u20 :: u21 :: u22 :: u23 :: u24 :: u25 :: u26 :: u27 :: u28 :: u29 :: u30 :: u31 :: u32 :: u33 :: u34 :: u35 :: u36 :: u37 :: u38 :: u39 :: u40 :: u41 :: u42 :: u43 :: u44 :: u45 :: u46 :: u47 :: u48 :: u49 :: u50 :: u51 :: u52 :: u53 :: u54 :: u55 :: u56 :: u57 :: u58 :: u59 :: u60 :: u61 :: u62 :: u63 :: u64 :: v65 :: v66 :: v67 :: v68 :: v69 :: v70 :: v71 :: v72 :: v73 :: v74 :: v75 :: v76 :: v77 :: v78 :: v79 :: v80 :: v81 :: v82 :: v83 :: v84 :: v85 :: v86 :: v87 :: v88 :: v89 :: v90 :: v91 :: u92 :: u93 :: u94 :: u95 :: u96 :: u97 :: u98 :: u99 :: u100 :: u101 :: u102 :: u103 :: u104 :: u105 :: u106 :: u107 :: u108 :: u109 :: u110 :: u111 :: u112 :: u113 :: u114 :: u115 :: u116 :: u117 :: u118 :: u119 :: u120 :: u121 :: u122 :: u123 :: u124 :: u125 :: u126 :: u127 :: u128 :: u129 :: u130 :: u131 :: u132 :: u133 :: u134 :: u135 :: u136 :: u137 :: u138 :: u139 :: u140 :: u141 :: u142 :: u143 :: u144 :: u145 :: u146 :: u147 :: u148 :: u149 :: u150 :: u151 :: u152 :: u153 :: u154 :: u155 :: u156 :: u157 :: u158 :: u159 :: u160 :: u161 :: u162 :: u163 :: u164 :: u165 :: u166 :: u167 :: u168 :: u169 :: u170 :: u171 :: u172 :: u173 :: u174 :: u175 :: u176 :: u177 :: u178 :: u179 :: u180 :: u181 :: u182 :: u183 :: u184 :: u185 :: u186 :: u187 :: u188 :: u189 :: u190 :: u191 :: u192 :: u193 :: u194 :: u195 :: u196 :: u197 :: u198 :: u199 :: u200 :: u201 :: u202 :: u203 :: u204 :: u205 :: u206 :: u207 :: u208 :: u209 :: u210 :: u211 :: u212 :: u213 :: u214 :: u215 :: u216 :: u217 :: u218 :: R), []⟩ wx) :
  Code.wp Try.prog (goCode 10) (Exit.then K Q0) ⟨List.toArray (u0 :: .int .i64 f :: u2 :: u3 :: u4 :: u5 :: u6 :: .pointer (some ⟨Bm, 0, none⟩) :: u8 :: u9 :: u10 :: u11 :: u12 :: .pointer (some ⟨Ba, 0, none⟩) :: .int .i64 0 :: .pointer (some ⟨Bb, 0, none⟩) :: .int .i64 0 :: u17 :: u18 :: u19 :: u20 :: u21 :: u22 :: u23 :: u24 :: u25 :: u26 :: u27 :: u28 :: u29 :: u30 :: u31 :: u32 :: u33 :: u34 :: u35 :: u36 :: u37 :: u38 :: u39 :: u40 :: u41 :: u42 :: u43 :: u44 :: u45 :: u46 :: u47 :: u48 :: u49 :: u50 :: u51 :: u52 :: u53 :: u54 :: u55 :: u56 :: u57 :: u58 :: u59 :: u60 :: u61 :: u62 :: u63 :: u64 :: u65 :: u66 :: u67 :: u68 :: u69 :: u70 :: u71 :: u72 :: u73 :: u74 :: u75 :: u76 :: u77 :: u78 :: u79 :: u80 :: u81 :: u82 :: u83 :: u84 :: u85 :: u86 :: u87 :: u88 :: u89 :: u90 :: u91 :: u92 :: u93 :: u94 :: u95 :: u96 :: u97 :: u98 :: u99 :: u100 :: u101 :: u102 :: u103 :: u104 :: u105 :: u106 :: u107 :: u108 :: u109 :: u110 :: u111 :: u112 :: u113 :: u114 :: u115 :: u116 :: u117 :: u118 :: u119 :: u120 :: u121 :: u122 :: u123 :: u124 :: u125 :: u126 :: u127 :: u128 :: u129 :: u130 :: u131 :: u132 :: u133 :: u134 :: u135 :: u136 :: u137 :: u138 :: u139 :: u140 :: u141 :: u142 :: u143 :: u144 :: u145 :: u146 :: u147 :: u148 :: u149 :: u150 :: u151 :: u152 :: u153 :: u154 :: u155 :: u156 :: u157 :: u158 :: u159 :: u160 :: u161 :: u162 :: u163 :: u164 :: u165 :: u166 :: u167 :: u168 :: u169 :: u170 :: u171 :: u172 :: u173 :: u174 :: u175 :: u176 :: u177 :: u178 :: u179 :: u180 :: u181 :: u182 :: u183 :: u184 :: u185 :: u186 :: u187 :: u188 :: u189 :: u190 :: u191 :: u192 :: u193 :: u194 :: u195 :: u196 :: u197 :: u198 :: u199 :: u200 :: u201 :: u202 :: u203 :: u204 :: u205 :: u206 :: u207 :: u208 :: u209 :: u210 :: u211 :: u212 :: u213 :: u214 :: u215 :: u216 :: u217 :: u218 :: R), []⟩ W0 := by
 conv => arg 2; whnf
 refine wp_region_noPanic ?_
 refine wp_region_held_drew (S := fun w' => w'.cell? ⟨Ba, 0, none⟩ = some (.int .i64 f) ∧ w'.cell? ⟨Ba, 1, none⟩ = some (.int .i64 1) ∧ w'.cell? ⟨Bb, 0, none⟩ = some (.int .i64 m.to) ∧ w'.cell? ⟨Bb, 1, none⟩ = some (.int .i64 1) ∧ w'.cell? ⟨Bm, 1, none⟩ = some (.int .i64 m.to)) (by kernel_rfl) (HX.out _ (Below.refl _ _).drew) (fun hHeld => ?_)
 have hB0 := (Below.refl W0.heap.size W0).drew
 obtain ⟨w0, hw0⟩ : ∃ x, W0.drew = x := ⟨_, rfl⟩
 simp only [hw0] at hB0 hHeld ⊢
 clear hw0
 refine tkD 0 ?_
 simp only [Act.put, List.setIfInBounds_toArray, List.set_cons_zero, List.set_cons_succ]
 refine tkD 1 ?_
 simp only [Act.put, List.setIfInBounds_toArray, List.set_cons_zero, List.set_cons_succ]
 refine tkD 2 ?_
 simp only [Act.put, List.setIfInBounds_toArray, List.set_cons_zero, List.set_cons_succ]
 refine tkD 3 ?_
 simp only [Act.put, List.setIfInBounds_toArray, List.set_cons_zero, List.set_cons_succ]
 refine tkD 4 ?_
 simp only [Act.put, List.setIfInBounds_toArray, List.set_cons_zero, List.set_cons_succ]
 refine wpAnyH_ready (rs := [5]) (by kernel_rfl) (by simp) ?_
 refine tkC (fun K hK => ?_) (AllReadyH.nil)
 go_simp
 (go_at_call 11; go_split_ands; (with_reducible refine (lwhole_any f _).mono ?_); rintro e w1 ⟨rfl, hb1⟩)
 go_wp2_with fail
 have hB1 := hB0.trans (hb1.mono hB0.size)
 refine hK.out _ _ (HX.out _ hB1) (fun hHeld => ?_)
 clear hK K
 try simp only [Act.put, List.setIfInBounds_toArray, List.set_cons_zero, List.set_cons_succ]
 refine tkD 6 ?_
 simp only [Act.put, List.setIfInBounds_toArray, List.set_cons_zero, List.set_cons_succ]
 refine tkD 7 ?_
 simp only [Act.put, List.setIfInBounds_toArray, List.set_cons_zero, List.set_cons_succ]
 refine tkD 8 ?_
 simp only [Act.put, List.setIfInBounds_toArray, List.set_cons_zero, List.set_cons_succ]
 refine tkD 9 ?_
 simp only [Act.put, List.setIfInBounds_toArray, List.set_cons_zero, List.set_cons_succ]
 refine tkD 10 ?_
 simp only [Act.put, List.setIfInBounds_toArray, List.set_cons_zero, List.set_cons_succ]
 refine tkD 11 ?_
 simp only [Act.put, List.setIfInBounds_toArray, List.set_cons_zero, List.set_cons_succ]
 refine tkD 12 ?_
 simp only [Act.put, List.setIfInBounds_toArray, List.set_cons_zero, List.set_cons_succ]
 refine tkD 13 ?_
 simp only [Act.put, List.setIfInBounds_toArray, List.set_cons_zero, List.set_cons_succ]
 refine tkD 14 ?_
 simp only [Act.put, List.setIfInBounds_toArray, List.set_cons_zero, List.set_cons_succ]
 refine wpAnyH_ready (rs := [15]) (by kernel_rfl) (by simp) ?_
 refine tkC (fun K hK => ?_) (AllReadyH.nil)
 go_simp
 (go_at_call 11; go_split_ands; (with_reducible refine (lwhole_any m.to _).mono ?_); rintro e w2 ⟨rfl, hb2⟩)
 go_wp2_with fail
 have hB2 := hB1.trans (hb2.mono hB1.size)
 refine hK.out _ _ (HX.out _ hB2) (fun hHeld => ?_)
 clear hK K
 try simp only [Act.put, List.setIfInBounds_toArray, List.set_cons_zero, List.set_cons_succ]
 refine tkD 16 ?_
 simp only [Act.put, List.setIfInBounds_toArray, List.set_cons_zero, List.set_cons_succ]
 refine tkD 17 ?_
 simp only [Act.put, List.setIfInBounds_toArray, List.set_cons_zero, List.set_cons_succ]
 refine tkD 18 ?_
 simp only [Act.put, List.setIfInBounds_toArray, List.set_cons_zero, List.set_cons_succ]
 refine tkD 19 ?_
 simp only [Act.put, List.setIfInBounds_toArray, List.set_cons_zero, List.set_cons_succ]
 refine tkD 20 ?_
 simp only [Act.put, List.setIfInBounds_toArray, List.set_cons_zero, List.set_cons_succ]
 refine tkD 21 ?_
 simp only [Act.put, List.setIfInBounds_toArray, List.set_cons_zero, List.set_cons_succ]
 refine tkD 22 ?_
 simp only [Act.put, List.setIfInBounds_toArray, List.set_cons_zero, List.set_cons_succ]
 refine tkE 23 ?_
 simp only [Act.put, List.setIfInBounds_toArray, List.set_cons_zero, List.set_cons_succ]
 refine tkE 24 ?_
 simp only [Act.put, List.setIfInBounds_toArray, List.set_cons_zero, List.set_cons_succ]
 refine tkD 25 ?_
 simp only [Act.put, List.setIfInBounds_toArray, List.set_cons_zero, List.set_cons_succ]
 refine tkD 26 ?_
 simp only [Act.put, List.setIfInBounds_toArray, List.set_cons_zero, List.set_cons_succ]
 refine wpAnyH_done (by kernel_rfl) ?_ _
 have hB := hB2
 exact hK _ _ _ _ _ _ _ _ _ _ _ _ _ _ _ _ _ _ _ _ _ _ _ _ _ _ _ _ ⟨rfl, hB⟩
set_option maxRecDepth 100000 in
set_option maxHeartbeats 8000000 in
theorem goR10b {m : Mv} {f : Int} {Ba Bb Bm : Nat} {W0 : World} {u0 u2 u3 u4 u5 u6 u8 u9 u10 u11 u12 u17 u18 u19 u20 u21 u22 u23 u24 u25 u26 u27 u28 u29 u30 u31 u32 u33 u34 u35 u36 u37 u38 u39 u40 u41 u42 u43 u44 u45 u46 u47 u48 u49 u50 u51 u52 u53 u54 u55 u56 u57 u58 u59 u60 u61 u62 u63 u64 u65 u66 u67 u68 u69 u70 u71 u72 u73 u74 u75 u76 u77 u78 u79 u80 u81 u82 u83 u84 u85 u86 u87 u88 u89 u90 u91 u92 u93 u94 u95 u96 u97 u98 u99 u100 u101 u102 u103 u104 u105 u106 u107 u108 u109 u110 u111 u112 u113 u114 u115 u116 u117 u118 u119 u120 u121 u122 u123 u124 u125 u126 u127 u128 u129 u130 u131 u132 u133 u134 u135 u136 u137 u138 u139 u140 u141 u142 u143 u144 u145 u146 u147 u148 u149 u150 u151 u152 u153 u154 u155 u156 u157 u158 u159 u160 u161 u162 u163 u164 u165 u166 u167 u168 u169 u170 u171 u172 u173 u174 u175 u176 u177 u178 u179 u180 u181 u182 u183 u184 u185 u186 u187 u188 u189 u190 u191 u192 u193 u194 u195 u196 u197 u198 u199 u200 u201 u202 u203 u204 u205 u206 u207 u208 u209 u210 u211 u212 u213 u214 u215 u216 u217 u218 : Value} {R : List Value} {K : Act → World → Prop} {Q0 : Exit → Act → World → Prop}
  (_r1 : (f == f) = true) (HX : Hid (∀ w', Below W0.heap.size W0 w' → (fun w' => w'.cell? ⟨Ba, 0, none⟩ = some (.int .i64 f) ∧ w'.cell? ⟨Ba, 1, none⟩ = some (.int .i64 1) ∧ w'.cell? ⟨Bm, 1, none⟩ = some (.int .i64 m.to)) w'))
  (hK : ∀ (v65 v66 v67 v68 v69 v70 v71 v72 v73 v74 v75 v76 v77 v78 v79 v80 v81 v82 v83 v84 v85 v86 v87 v88 v89 v90 v91 : Value) (wx : World), (v91 = .bool false ∧ Below W0.heap.size W0 wx) → K ⟨List.toArray (u0 :: .int .i64 f :: u2 :: u3 :: u4 :: u5 :: u6 :: .pointer (some ⟨Bm, 0, none⟩) :: u8 :: u9 :: u10 :: u11 :: u12 :: .pointer (some ⟨Ba, 0, none⟩) :: .int .i64 0 :: .pointer (some ⟨Bb, 0, none⟩) :: .int .i64 5 :: u17 :: u18 :: u19 :: u20 :: u21 :: u22 :: u23 :: u24 :: u25 :: u26 :: u27 :: u28 :: u29 :: u30 :: u31 :: u32 :: u33 :: u34 :: u35 :: u36 :: u37 :: u38 :: u39 :: u40 :: u41 :: u42 :: u43 :: u44 :: u45 :: u46 :: u47 :: u48 :: u49 :: u50 :: u51 :: u52 :: u53 :: u54 :: u55 :: u56 :: u57 :: u58 :: u59 :: u60 :: u61 :: u62 :: u63 :: u64 :: v65 :: v66 :: v67 :: v68 :: v69 :: v70 :: v71 :: v72 :: v73 :: v74 :: v75 :: v76 :: v77 :: v78 :: v79 :: v80 :: v81 :: v82 :: v83 :: v84 :: v85 :: v86 :: v87 :: v88 :: v89 :: v90 :: v91 :: u92 :: u93 :: u94 :: u95 :: u96 :: u97 :: u98 :: u99 :: u100 :: u101 :: u102 :: u103 :: u104 :: u105 :: u106 :: u107 :: u108 :: u109 :: u110 :: u111 :: u112 :: u113 :: u114 :: u115 :: u116 :: u117 :: u118 :: u119 :: u120 :: u121 :: u122 :: u123 :: u124 :: u125 :: u126 :: u127 :: u128 :: u129 :: u130 :: u131 :: u132 :: u133 :: u134 :: u135 :: u136 :: u137 :: u138 :: u139 :: u140 :: u141 :: u142 :: u143 :: u144 :: u145 :: u146 :: u147 :: u148 :: u149 :: u150 :: u151 :: u152 :: u153 :: u154 :: u155 :: u156 :: u157 :: u158 :: u159 :: u160 :: u161 :: u162 :: u163 :: u164 :: u165 :: u166 :: u167 :: u168 :: u169 :: u170 :: u171 :: u172 :: u173 :: u174 :: u175 :: u176 :: u177 :: u178 :: u179 :: u180 :: u181 :: u182 :: u183 :: u184 :: u185 :: u186 :: u187 :: u188 :: u189 :: u190 :: u191 :: u192 :: u193 :: u194 :: u195 :: u196 :: u197 :: u198 :: u199 :: u200 :: u201 :: u202 :: u203 :: u204 :: u205 :: u206 :: u207 :: u208 :: u209 :: u210 :: u211 :: u212 :: u213 :: u214 :: u215 :: u216 :: u217 :: u218 :: R), []⟩ wx) :
  Code.wp Try.prog (goCode 10) (Exit.then K Q0) ⟨List.toArray (u0 :: .int .i64 f :: u2 :: u3 :: u4 :: u5 :: u6 :: .pointer (some ⟨Bm, 0, none⟩) :: u8 :: u9 :: u10 :: u11 :: u12 :: .pointer (some ⟨Ba, 0, none⟩) :: .int .i64 0 :: .pointer (some ⟨Bb, 0, none⟩) :: .int .i64 5 :: u17 :: u18 :: u19 :: u20 :: u21 :: u22 :: u23 :: u24 :: u25 :: u26 :: u27 :: u28 :: u29 :: u30 :: u31 :: u32 :: u33 :: u34 :: u35 :: u36 :: u37 :: u38 :: u39 :: u40 :: u41 :: u42 :: u43 :: u44 :: u45 :: u46 :: u47 :: u48 :: u49 :: u50 :: u51 :: u52 :: u53 :: u54 :: u55 :: u56 :: u57 :: u58 :: u59 :: u60 :: u61 :: u62 :: u63 :: u64 :: u65 :: u66 :: u67 :: u68 :: u69 :: u70 :: u71 :: u72 :: u73 :: u74 :: u75 :: u76 :: u77 :: u78 :: u79 :: u80 :: u81 :: u82 :: u83 :: u84 :: u85 :: u86 :: u87 :: u88 :: u89 :: u90 :: u91 :: u92 :: u93 :: u94 :: u95 :: u96 :: u97 :: u98 :: u99 :: u100 :: u101 :: u102 :: u103 :: u104 :: u105 :: u106 :: u107 :: u108 :: u109 :: u110 :: u111 :: u112 :: u113 :: u114 :: u115 :: u116 :: u117 :: u118 :: u119 :: u120 :: u121 :: u122 :: u123 :: u124 :: u125 :: u126 :: u127 :: u128 :: u129 :: u130 :: u131 :: u132 :: u133 :: u134 :: u135 :: u136 :: u137 :: u138 :: u139 :: u140 :: u141 :: u142 :: u143 :: u144 :: u145 :: u146 :: u147 :: u148 :: u149 :: u150 :: u151 :: u152 :: u153 :: u154 :: u155 :: u156 :: u157 :: u158 :: u159 :: u160 :: u161 :: u162 :: u163 :: u164 :: u165 :: u166 :: u167 :: u168 :: u169 :: u170 :: u171 :: u172 :: u173 :: u174 :: u175 :: u176 :: u177 :: u178 :: u179 :: u180 :: u181 :: u182 :: u183 :: u184 :: u185 :: u186 :: u187 :: u188 :: u189 :: u190 :: u191 :: u192 :: u193 :: u194 :: u195 :: u196 :: u197 :: u198 :: u199 :: u200 :: u201 :: u202 :: u203 :: u204 :: u205 :: u206 :: u207 :: u208 :: u209 :: u210 :: u211 :: u212 :: u213 :: u214 :: u215 :: u216 :: u217 :: u218 :: R), []⟩ W0 := by
 conv => arg 2; whnf
 refine wp_region_noPanic ?_
 refine wp_region_held_drew (S := fun w' => w'.cell? ⟨Ba, 0, none⟩ = some (.int .i64 f) ∧ w'.cell? ⟨Ba, 1, none⟩ = some (.int .i64 1) ∧ w'.cell? ⟨Bm, 1, none⟩ = some (.int .i64 m.to)) (by kernel_rfl) (HX.out _ (Below.refl _ _).drew) (fun hHeld => ?_)
 have hB0 := (Below.refl W0.heap.size W0).drew
 obtain ⟨w0, hw0⟩ : ∃ x, W0.drew = x := ⟨_, rfl⟩
 simp only [hw0] at hB0 hHeld ⊢
 clear hw0
 refine tkD 0 ?_
 simp only [Act.put, List.setIfInBounds_toArray, List.set_cons_zero, List.set_cons_succ]
 refine tkD 1 ?_
 simp only [Act.put, List.setIfInBounds_toArray, List.set_cons_zero, List.set_cons_succ]
 refine tkD 2 ?_
 simp only [Act.put, List.setIfInBounds_toArray, List.set_cons_zero, List.set_cons_succ]
 refine tkD 3 ?_
 simp only [Act.put, List.setIfInBounds_toArray, List.set_cons_zero, List.set_cons_succ]
 refine tkD 4 ?_
 simp only [Act.put, List.setIfInBounds_toArray, List.set_cons_zero, List.set_cons_succ]
 refine wpAnyH_ready (rs := [5]) (by kernel_rfl) (by simp) ?_
 refine tkC (fun K hK => ?_) (AllReadyH.nil)
 go_simp
 (go_at_call 11; go_split_ands; (with_reducible refine (lwhole_any f _).mono ?_); rintro e w1 ⟨rfl, hb1⟩)
 go_wp2_with fail
 have hB1 := hB0.trans (hb1.mono hB0.size)
 refine hK.out _ _ (HX.out _ hB1) (fun hHeld => ?_)
 clear hK K
 try simp only [Act.put, List.setIfInBounds_toArray, List.set_cons_zero, List.set_cons_succ]
 refine tkD 6 ?_
 simp only [Act.put, List.setIfInBounds_toArray, List.set_cons_zero, List.set_cons_succ]
 refine tkD 7 ?_
 simp only [Act.put, List.setIfInBounds_toArray, List.set_cons_zero, List.set_cons_succ]
 refine tkD 8 ?_
 simp only [Act.put, List.setIfInBounds_toArray, List.set_cons_zero, List.set_cons_succ]
 refine tkD 9 ?_
 simp only [Act.put, List.setIfInBounds_toArray, List.set_cons_zero, List.set_cons_succ]
 refine tkD 10 ?_
 simp only [Act.put, List.setIfInBounds_toArray, List.set_cons_zero, List.set_cons_succ]
 refine tkD 11 ?_
 simp only [Act.put, List.setIfInBounds_toArray, List.set_cons_zero, List.set_cons_succ]
 refine tkE 12 ?_
 simp only [Act.put, List.setIfInBounds_toArray, List.set_cons_zero, List.set_cons_succ]
 refine tkE 13 ?_
 simp only [Act.put, List.setIfInBounds_toArray, List.set_cons_zero, List.set_cons_succ]
 refine tkE 14 ?_
 simp only [Act.put, List.setIfInBounds_toArray, List.set_cons_zero, List.set_cons_succ]
 refine tkE 15 ?_
 simp only [Act.put, List.setIfInBounds_toArray, List.set_cons_zero, List.set_cons_succ]
 refine tkE 16 ?_
 simp only [Act.put, List.setIfInBounds_toArray, List.set_cons_zero, List.set_cons_succ]
 refine tkD 17 ?_
 simp only [Act.put, List.setIfInBounds_toArray, List.set_cons_zero, List.set_cons_succ]
 refine tkD 18 ?_
 simp only [Act.put, List.setIfInBounds_toArray, List.set_cons_zero, List.set_cons_succ]
 refine tkD 19 ?_
 simp only [Act.put, List.setIfInBounds_toArray, List.set_cons_zero, List.set_cons_succ]
 refine tkD 20 ?_
 simp only [Act.put, List.setIfInBounds_toArray, List.set_cons_zero, List.set_cons_succ]
 refine tkD 21 ?_
 simp only [Act.put, List.setIfInBounds_toArray, List.set_cons_zero, List.set_cons_succ]
 refine tkD 22 ?_
 simp only [Act.put, List.setIfInBounds_toArray, List.set_cons_zero, List.set_cons_succ]
 refine tkD 23 ?_
 simp only [Act.put, List.setIfInBounds_toArray, List.set_cons_zero, List.set_cons_succ]
 refine tkD 24 ?_
 simp only [Act.put, List.setIfInBounds_toArray, List.set_cons_zero, List.set_cons_succ]
 refine tkD 25 ?_
 simp only [Act.put, List.setIfInBounds_toArray, List.set_cons_zero, List.set_cons_succ]
 refine tkD 26 ?_
 simp only [Act.put, List.setIfInBounds_toArray, List.set_cons_zero, List.set_cons_succ]
 refine wpAnyH_done (by kernel_rfl) ?_ _
 have hB := hB1
 exact hK _ _ _ _ _ _ _ _ _ _ _ _ _ _ _ _ _ _ _ _ _ _ _ _ _ _ _ _ ⟨rfl, hB⟩
set_option maxRecDepth 100000 in
set_option maxHeartbeats 8000000 in
theorem goR23a {m : Mv} {f d o : Int} {By Bm : Nat} {W0 : World} {u0 u2 u3 u4 u5 u6 u8 u9 u10 u11 u12 u13 u14 u15 u16 u17 u18 u19 u20 u22 u27 u28 u29 u30 u31 u32 u33 u34 u35 u36 u37 u38 u39 u40 u41 u42 u43 u44 u45 u46 u47 u48 u49 u50 u51 u52 u53 u54 u55 u56 u57 u58 u59 u60 u61 u62 u63 u64 u65 u66 u67 u68 u69 u70 u71 u72 u73 u74 u75 u76 u77 u78 u79 u80 u81 u82 u83 u84 u85 u86 u87 u88 u89 u90 u91 u92 u93 u94 u95 u96 u97 u98 u99 u100 u101 u102 u103 u104 u105 u106 u107 u108 u109 u110 u111 u112 u113 u114 u115 u116 u117 u118 u119 u120 u121 u122 u123 u124 u125 u126 u127 u128 u129 u130 u131 u132 u133 u134 u135 u136 u137 u138 u139 u140 u141 u142 u143 u144 u145 u146 u147 u148 u149 u150 u151 u152 u153 u154 u155 u156 u157 u158 u159 u160 u161 u162 u163 u164 u165 u166 u167 u168 u169 u170 u171 u172 u173 u174 u175 u176 u177 u178 u179 u180 u181 u182 u183 u184 u185 u186 u187 u188 u189 u190 u191 u192 u193 u194 u195 u196 u197 u198 u199 u200 u201 u202 u203 u204 u205 u206 u207 u208 u209 u210 u211 u212 u213 u214 u215 u216 u217 u218 : Value} {R : List Value} {K : Act → World → Prop} {Q0 : Exit → Act → World → Prop}
  (hu : f ≤ m.to → decide (0 < d) = false) (hd : m.to ≤ f → decide (d < 0) = false) (_ho : decide (0 ≤ o) = true) (_r2 : (m.to == m.to) = true) (HX : Hid (∀ w', Below W0.heap.size W0 w' → (fun w' => w'.cell? ⟨By, 0, none⟩ = some (.int .i64 m.to) ∧ w'.cell? ⟨By, 1, none⟩ = some (.int .i64 1) ∧ w'.cell? ⟨Bm, 1, none⟩ = some (.int .i64 m.to)) w'))
  (hK : ∀ (v148 v149 v150 v151 v152 v153 v154 v155 v156 v157 v158 v159 v160 v161 v162 v163 v164 v165 v166 v167 v168 v169 v170 v171 v172 v173 v174 v175 v176 v177 v178 v179 v180 v181 v182 v183 v184 : Value) (wx : World), (v184 = .bool false ∧ Below W0.heap.size W0 wx) → K ⟨List.toArray (u0 :: .int .i64 f :: u2 :: u3 :: u4 :: u5 :: u6 :: .pointer (some ⟨Bm, 0, none⟩) :: u8 :: u9 :: u10 :: u11 :: u12 :: u13 :: u14 :: u15 :: u16 :: u17 :: u18 :: u19 :: u20 :: .pointer (some ⟨By, 0, none⟩) :: u22 :: .int .i64 d :: .int .i64 0 :: .int .i64 o :: .int .i64 0 :: u27 :: u28 :: u29 :: u30 :: u31 :: u32 :: u33 :: u34 :: u35 :: u36 :: u37 :: u38 :: u39 :: u40 :: u41 :: u42 :: u43 :: u44 :: u45 :: u46 :: u47 :: u48 :: u49 :: u50 :: u51 :: u52 :: u53 :: u54 :: u55 :: u56 :: u57 :: u58 :: u59 :: u60 :: u61 :: u62 :: u63 :: u64 :: u65 :: u66 :: u67 :: u68 :: u69 :: u70 :: u71 :: u72 :: u73 :: u74 :: u75 :: u76 :: u77 :: u78 :: u79 :: u80 :: u81 :: u82 :: u83 :: u84 :: u85 :: u86 :: u87 :: u88 :: u89 :: u90 :: u91 :: u92 :: u93 :: u94 :: u95 :: u96 :: u97 :: u98 :: u99 :: u100 :: u101 :: u102 :: u103 :: u104 :: u105 :: u106 :: u107 :: u108 :: u109 :: u110 :: u111 :: u112 :: u113 :: u114 :: u115 :: u116 :: u117 :: u118 :: u119 :: u120 :: u121 :: u122 :: u123 :: u124 :: u125 :: u126 :: u127 :: u128 :: u129 :: u130 :: u131 :: u132 :: u133 :: u134 :: u135 :: u136 :: u137 :: u138 :: u139 :: u140 :: u141 :: u142 :: u143 :: u144 :: u145 :: u146 :: u147 :: v148 :: v149 :: v150 :: v151 :: v152 :: v153 :: v154 :: v155 :: v156 :: v157 :: v158 :: v159 :: v160 :: v161 :: v162 :: v163 :: v164 :: v165 :: v166 :: v167 :: v168 :: v169 :: v170 :: v171 :: v172 :: v173 :: v174 :: v175 :: v176 :: v177 :: v178 :: v179 :: v180 :: v181 :: v182 :: v183 :: v184 :: u185 :: u186 :: u187 :: u188 :: u189 :: u190 :: u191 :: u192 :: u193 :: u194 :: u195 :: u196 :: u197 :: u198 :: u199 :: u200 :: u201 :: u202 :: u203 :: u204 :: u205 :: u206 :: u207 :: u208 :: u209 :: u210 :: u211 :: u212 :: u213 :: u214 :: u215 :: u216 :: u217 :: u218 :: R), []⟩ wx) :
  Code.wp Try.prog (goCode 23) (Exit.then K Q0) ⟨List.toArray (u0 :: .int .i64 f :: u2 :: u3 :: u4 :: u5 :: u6 :: .pointer (some ⟨Bm, 0, none⟩) :: u8 :: u9 :: u10 :: u11 :: u12 :: u13 :: u14 :: u15 :: u16 :: u17 :: u18 :: u19 :: u20 :: .pointer (some ⟨By, 0, none⟩) :: u22 :: .int .i64 d :: .int .i64 0 :: .int .i64 o :: .int .i64 0 :: u27 :: u28 :: u29 :: u30 :: u31 :: u32 :: u33 :: u34 :: u35 :: u36 :: u37 :: u38 :: u39 :: u40 :: u41 :: u42 :: u43 :: u44 :: u45 :: u46 :: u47 :: u48 :: u49 :: u50 :: u51 :: u52 :: u53 :: u54 :: u55 :: u56 :: u57 :: u58 :: u59 :: u60 :: u61 :: u62 :: u63 :: u64 :: u65 :: u66 :: u67 :: u68 :: u69 :: u70 :: u71 :: u72 :: u73 :: u74 :: u75 :: u76 :: u77 :: u78 :: u79 :: u80 :: u81 :: u82 :: u83 :: u84 :: u85 :: u86 :: u87 :: u88 :: u89 :: u90 :: u91 :: u92 :: u93 :: u94 :: u95 :: u96 :: u97 :: u98 :: u99 :: u100 :: u101 :: u102 :: u103 :: u104 :: u105 :: u106 :: u107 :: u108 :: u109 :: u110 :: u111 :: u112 :: u113 :: u114 :: u115 :: u116 :: u117 :: u118 :: u119 :: u120 :: u121 :: u122 :: u123 :: u124 :: u125 :: u126 :: u127 :: u128 :: u129 :: u130 :: u131 :: u132 :: u133 :: u134 :: u135 :: u136 :: u137 :: u138 :: u139 :: u140 :: u141 :: u142 :: u143 :: u144 :: u145 :: u146 :: u147 :: u148 :: u149 :: u150 :: u151 :: u152 :: u153 :: u154 :: u155 :: u156 :: u157 :: u158 :: u159 :: u160 :: u161 :: u162 :: u163 :: u164 :: u165 :: u166 :: u167 :: u168 :: u169 :: u170 :: u171 :: u172 :: u173 :: u174 :: u175 :: u176 :: u177 :: u178 :: u179 :: u180 :: u181 :: u182 :: u183 :: u184 :: u185 :: u186 :: u187 :: u188 :: u189 :: u190 :: u191 :: u192 :: u193 :: u194 :: u195 :: u196 :: u197 :: u198 :: u199 :: u200 :: u201 :: u202 :: u203 :: u204 :: u205 :: u206 :: u207 :: u208 :: u209 :: u210 :: u211 :: u212 :: u213 :: u214 :: u215 :: u216 :: u217 :: u218 :: R), []⟩ W0 := by
 conv => arg 2; whnf
 refine wp_region_noPanic ?_
 rcases Int.lt_trichotomy m.to f with c | c | c
 ·have g1 : decide (f ≤ m.to) = false := decide_eq_false (by omega)
  have g2 : decide (m.to ≤ f) = true := decide_eq_true (by omega)
  have g4 := hd (by omega)
  clear hu hd c
  refine wp_region_held_drew (S := fun w' => w'.cell? ⟨By, 0, none⟩ = some (.int .i64 m.to) ∧ w'.cell? ⟨By, 1, none⟩ = some (.int .i64 1) ∧ w'.cell? ⟨Bm, 1, none⟩ = some (.int .i64 m.to)) (by kernel_rfl) (HX.out _ (Below.refl _ _).drew) (fun hHeld => ?_)
  have hB0 := (Below.refl W0.heap.size W0).drew
  obtain ⟨w0, hw0⟩ : ∃ x, W0.drew = x := ⟨_, rfl⟩
  simp only [hw0] at hB0 hHeld ⊢
  clear hw0
  refine tkD 0 ?_
  simp only [Act.put, List.setIfInBounds_toArray, List.set_cons_zero, List.set_cons_succ]
  refine tkD 1 ?_
  simp only [Act.put, List.setIfInBounds_toArray, List.set_cons_zero, List.set_cons_succ]
  refine tkD 2 ?_
  simp only [Act.put, List.setIfInBounds_toArray, List.set_cons_zero, List.set_cons_succ]
  refine tkD 3 ?_
  simp only [Act.put, List.setIfInBounds_toArray, List.set_cons_zero, List.set_cons_succ]
  refine tkD 4 ?_
  simp only [Act.put, List.setIfInBounds_toArray, List.set_cons_zero, List.set_cons_succ]
  refine tkD 5 ?_
  simp only [Act.put, List.setIfInBounds_toArray, List.set_cons_zero, List.set_cons_succ]
  refine tkD 6 ?_
  simp only [Act.put, List.setIfInBounds_toArray, List.set_cons_zero, List.set_cons_succ]
  refine tkD 7 ?_
  simp only [Act.put, List.setIfInBounds_toArray, List.set_cons_zero, List.set_cons_succ]
  refine tkD 8 ?_
  simp only [Act.put, List.setIfInBounds_toArray, List.set_cons_zero, List.set_cons_succ]
  refine tkD 9 ?_
  simp only [Act.put, List.setIfInBounds_toArray, List.set_cons_zero, List.set_cons_succ]
  refine tkD 10 ?_
  simp only [Act.put, List.setIfInBounds_toArray, List.set_cons_zero, List.set_cons_succ]
  refine tkD 11 ?_
  simp only [Act.put, List.setIfInBounds_toArray, List.set_cons_zero, List.set_cons_succ]
  refine tkE 12 ?_
  simp only [Act.put, List.setIfInBounds_toArray, List.set_cons_zero, List.set_cons_succ]
  refine tkE 13 ?_
  simp only [Act.put, List.setIfInBounds_toArray, List.set_cons_zero, List.set_cons_succ]
  refine tkD 14 ?_
  simp only [Act.put, List.setIfInBounds_toArray, List.set_cons_zero, List.set_cons_succ]
  refine tkD 15 ?_
  simp only [Act.put, List.setIfInBounds_toArray, List.set_cons_zero, List.set_cons_succ]
  refine tkD 16 ?_
  simp only [Act.put, List.setIfInBounds_toArray, List.set_cons_zero, List.set_cons_succ]
  refine tkD 17 ?_
  simp only [Act.put, List.setIfInBounds_toArray, List.set_cons_zero, List.set_cons_succ]
  refine tkD 18 ?_
  simp only [Act.put, List.setIfInBounds_toArray, List.set_cons_zero, List.set_cons_succ]
  refine tkD 19 ?_
  simp only [Act.put, List.setIfInBounds_toArray, List.set_cons_zero, List.set_cons_succ]
  refine tkD 20 ?_
  simp only [Act.put, List.setIfInBounds_toArray, List.set_cons_zero, List.set_cons_succ]
  refine tkD 21 ?_
  simp only [Act.put, List.setIfInBounds_toArray, List.set_cons_zero, List.set_cons_succ]
  refine tkD 22 ?_
  simp only [Act.put, List.setIfInBounds_toArray, List.set_cons_zero, List.set_cons_succ]
  refine tkD 23 ?_
  simp only [Act.put, List.setIfInBounds_toArray, List.set_cons_zero, List.set_cons_succ]
  refine tkD 24 ?_
  simp only [Act.put, List.setIfInBounds_toArray, List.set_cons_zero, List.set_cons_succ]
  refine tkD 25 ?_
  simp only [Act.put, List.setIfInBounds_toArray, List.set_cons_zero, List.set_cons_succ]
  refine tkD 26 ?_
  simp only [Act.put, List.setIfInBounds_toArray, List.set_cons_zero, List.set_cons_succ]
  refine tkD 27 ?_
  simp only [Act.put, List.setIfInBounds_toArray, List.set_cons_zero, List.set_cons_succ]
  refine tkD 28 ?_
  simp only [Act.put, List.setIfInBounds_toArray, List.set_cons_zero, List.set_cons_succ]
  refine tkD 29 ?_
  simp only [Act.put, List.setIfInBounds_toArray, List.set_cons_zero, List.set_cons_succ]
  refine tkD 30 ?_
  simp only [Act.put, List.setIfInBounds_toArray, List.set_cons_zero, List.set_cons_succ]
  refine tkD 31 ?_
  simp only [Act.put, List.setIfInBounds_toArray, List.set_cons_zero, List.set_cons_succ]
  refine tkD 32 ?_
  simp only [Act.put, List.setIfInBounds_toArray, List.set_cons_zero, List.set_cons_succ]
  refine wpAnyH_ready (rs := [33]) (by kernel_rfl) (by simp) ?_
  refine tkC (fun K hK => ?_) (AllReadyH.nil)
  go_simp
  (go_at_call 11; go_split_ands; (with_reducible refine (lwhole_any m.to _).mono ?_); rintro e w1 ⟨rfl, hb1⟩)
  go_wp2_with fail
  have hB1 := hB0.trans (hb1.mono hB0.size)
  refine hK.out _ _ (HX.out _ hB1) (fun hHeld => ?_)
  clear hK K
  try simp only [Act.put, List.setIfInBounds_toArray, List.set_cons_zero, List.set_cons_succ]
  refine tkD 34 ?_
  simp only [Act.put, List.setIfInBounds_toArray, List.set_cons_zero, List.set_cons_succ]
  refine tkD 35 ?_
  simp only [Act.put, List.setIfInBounds_toArray, List.set_cons_zero, List.set_cons_succ]
  refine tkD 36 ?_
  simp only [Act.put, List.setIfInBounds_toArray, List.set_cons_zero, List.set_cons_succ]
  refine wpAnyH_done (by kernel_rfl) ?_ _
  have hB := hB1
  exact hK _ _ _ _ _ _ _ _ _ _ _ _ _ _ _ _ _ _ _ _ _ _ _ _ _ _ _ _ _ _ _ _ _ _ _ _ _ _ ⟨rfl, hB⟩
 ·have g1 : decide (f ≤ m.to) = true := decide_eq_true (by omega)
  have g2 : decide (m.to ≤ f) = true := decide_eq_true (by omega)
  have g3 := hu (by omega)
  have g4 := hd (by omega)
  clear hu hd c
  refine wp_region_held_drew (S := fun w' => w'.cell? ⟨By, 0, none⟩ = some (.int .i64 m.to) ∧ w'.cell? ⟨By, 1, none⟩ = some (.int .i64 1) ∧ w'.cell? ⟨Bm, 1, none⟩ = some (.int .i64 m.to)) (by kernel_rfl) (HX.out _ (Below.refl _ _).drew) (fun hHeld => ?_)
  have hB0 := (Below.refl W0.heap.size W0).drew
  obtain ⟨w0, hw0⟩ : ∃ x, W0.drew = x := ⟨_, rfl⟩
  simp only [hw0] at hB0 hHeld ⊢
  clear hw0
  refine tkD 0 ?_
  simp only [Act.put, List.setIfInBounds_toArray, List.set_cons_zero, List.set_cons_succ]
  refine tkD 1 ?_
  simp only [Act.put, List.setIfInBounds_toArray, List.set_cons_zero, List.set_cons_succ]
  refine tkD 2 ?_
  simp only [Act.put, List.setIfInBounds_toArray, List.set_cons_zero, List.set_cons_succ]
  refine tkD 3 ?_
  simp only [Act.put, List.setIfInBounds_toArray, List.set_cons_zero, List.set_cons_succ]
  refine tkD 4 ?_
  simp only [Act.put, List.setIfInBounds_toArray, List.set_cons_zero, List.set_cons_succ]
  refine tkD 5 ?_
  simp only [Act.put, List.setIfInBounds_toArray, List.set_cons_zero, List.set_cons_succ]
  refine tkD 6 ?_
  simp only [Act.put, List.setIfInBounds_toArray, List.set_cons_zero, List.set_cons_succ]
  refine tkD 7 ?_
  simp only [Act.put, List.setIfInBounds_toArray, List.set_cons_zero, List.set_cons_succ]
  refine tkD 8 ?_
  simp only [Act.put, List.setIfInBounds_toArray, List.set_cons_zero, List.set_cons_succ]
  refine tkD 9 ?_
  simp only [Act.put, List.setIfInBounds_toArray, List.set_cons_zero, List.set_cons_succ]
  refine tkD 10 ?_
  simp only [Act.put, List.setIfInBounds_toArray, List.set_cons_zero, List.set_cons_succ]
  refine tkD 11 ?_
  simp only [Act.put, List.setIfInBounds_toArray, List.set_cons_zero, List.set_cons_succ]
  refine tkD 12 ?_
  simp only [Act.put, List.setIfInBounds_toArray, List.set_cons_zero, List.set_cons_succ]
  refine tkD 13 ?_
  simp only [Act.put, List.setIfInBounds_toArray, List.set_cons_zero, List.set_cons_succ]
  refine tkD 14 ?_
  simp only [Act.put, List.setIfInBounds_toArray, List.set_cons_zero, List.set_cons_succ]
  refine tkD 15 ?_
  simp only [Act.put, List.setIfInBounds_toArray, List.set_cons_zero, List.set_cons_succ]
  refine tkD 16 ?_
  simp only [Act.put, List.setIfInBounds_toArray, List.set_cons_zero, List.set_cons_succ]
  refine tkD 17 ?_
  simp only [Act.put, List.setIfInBounds_toArray, List.set_cons_zero, List.set_cons_succ]
  refine tkD 18 ?_
  simp only [Act.put, List.setIfInBounds_toArray, List.set_cons_zero, List.set_cons_succ]
  refine tkD 19 ?_
  simp only [Act.put, List.setIfInBounds_toArray, List.set_cons_zero, List.set_cons_succ]
  refine tkD 20 ?_
  simp only [Act.put, List.setIfInBounds_toArray, List.set_cons_zero, List.set_cons_succ]
  refine tkD 21 ?_
  simp only [Act.put, List.setIfInBounds_toArray, List.set_cons_zero, List.set_cons_succ]
  refine tkD 22 ?_
  simp only [Act.put, List.setIfInBounds_toArray, List.set_cons_zero, List.set_cons_succ]
  refine tkD 23 ?_
  simp only [Act.put, List.setIfInBounds_toArray, List.set_cons_zero, List.set_cons_succ]
  refine tkD 24 ?_
  simp only [Act.put, List.setIfInBounds_toArray, List.set_cons_zero, List.set_cons_succ]
  refine tkD 25 ?_
  simp only [Act.put, List.setIfInBounds_toArray, List.set_cons_zero, List.set_cons_succ]
  refine tkD 26 ?_
  simp only [Act.put, List.setIfInBounds_toArray, List.set_cons_zero, List.set_cons_succ]
  refine tkD 27 ?_
  simp only [Act.put, List.setIfInBounds_toArray, List.set_cons_zero, List.set_cons_succ]
  refine tkD 28 ?_
  simp only [Act.put, List.setIfInBounds_toArray, List.set_cons_zero, List.set_cons_succ]
  refine tkD 29 ?_
  simp only [Act.put, List.setIfInBounds_toArray, List.set_cons_zero, List.set_cons_succ]
  refine tkD 30 ?_
  simp only [Act.put, List.setIfInBounds_toArray, List.set_cons_zero, List.set_cons_succ]
  refine tkD 31 ?_
  simp only [Act.put, List.setIfInBounds_toArray, List.set_cons_zero, List.set_cons_succ]
  refine tkD 32 ?_
  simp only [Act.put, List.setIfInBounds_toArray, List.set_cons_zero, List.set_cons_succ]
  refine wpAnyH_ready (rs := [33]) (by kernel_rfl) (by simp) ?_
  refine tkC (fun K hK => ?_) (AllReadyH.nil)
  go_simp
  (go_at_call 11; go_split_ands; (with_reducible refine (lwhole_any m.to _).mono ?_); rintro e w1 ⟨rfl, hb1⟩)
  go_wp2_with fail
  have hB1 := hB0.trans (hb1.mono hB0.size)
  refine hK.out _ _ (HX.out _ hB1) (fun hHeld => ?_)
  clear hK K
  try simp only [Act.put, List.setIfInBounds_toArray, List.set_cons_zero, List.set_cons_succ]
  refine tkD 34 ?_
  simp only [Act.put, List.setIfInBounds_toArray, List.set_cons_zero, List.set_cons_succ]
  refine tkD 35 ?_
  simp only [Act.put, List.setIfInBounds_toArray, List.set_cons_zero, List.set_cons_succ]
  refine tkD 36 ?_
  simp only [Act.put, List.setIfInBounds_toArray, List.set_cons_zero, List.set_cons_succ]
  refine wpAnyH_done (by kernel_rfl) ?_ _
  have hB := hB1
  exact hK _ _ _ _ _ _ _ _ _ _ _ _ _ _ _ _ _ _ _ _ _ _ _ _ _ _ _ _ _ _ _ _ _ _ _ _ _ _ ⟨rfl, hB⟩
 ·have g1 : decide (f ≤ m.to) = true := decide_eq_true (by omega)
  have g2 : decide (m.to ≤ f) = false := decide_eq_false (by omega)
  have g3 := hu (by omega)
  clear hu hd c
  refine wp_region_held_drew (S := fun w' => w'.cell? ⟨By, 0, none⟩ = some (.int .i64 m.to) ∧ w'.cell? ⟨By, 1, none⟩ = some (.int .i64 1) ∧ w'.cell? ⟨Bm, 1, none⟩ = some (.int .i64 m.to)) (by kernel_rfl) (HX.out _ (Below.refl _ _).drew) (fun hHeld => ?_)
  have hB0 := (Below.refl W0.heap.size W0).drew
  obtain ⟨w0, hw0⟩ : ∃ x, W0.drew = x := ⟨_, rfl⟩
  simp only [hw0] at hB0 hHeld ⊢
  clear hw0
  refine tkD 0 ?_
  simp only [Act.put, List.setIfInBounds_toArray, List.set_cons_zero, List.set_cons_succ]
  refine tkD 1 ?_
  simp only [Act.put, List.setIfInBounds_toArray, List.set_cons_zero, List.set_cons_succ]
  refine tkD 2 ?_
  simp only [Act.put, List.setIfInBounds_toArray, List.set_cons_zero, List.set_cons_succ]
  refine tkD 3 ?_
  simp only [Act.put, List.setIfInBounds_toArray, List.set_cons_zero, List.set_cons_succ]
  refine tkD 4 ?_
  simp only [Act.put, List.setIfInBounds_toArray, List.set_cons_zero, List.set_cons_succ]
  refine tkD 5 ?_
  simp only [Act.put, List.setIfInBounds_toArray, List.set_cons_zero, List.set_cons_succ]
  refine tkD 6 ?_
  simp only [Act.put, List.setIfInBounds_toArray, List.set_cons_zero, List.set_cons_succ]
  refine tkD 7 ?_
  simp only [Act.put, List.setIfInBounds_toArray, List.set_cons_zero, List.set_cons_succ]
  refine tkD 8 ?_
  simp only [Act.put, List.setIfInBounds_toArray, List.set_cons_zero, List.set_cons_succ]
  refine tkD 9 ?_
  simp only [Act.put, List.setIfInBounds_toArray, List.set_cons_zero, List.set_cons_succ]
  refine tkD 10 ?_
  simp only [Act.put, List.setIfInBounds_toArray, List.set_cons_zero, List.set_cons_succ]
  refine tkD 11 ?_
  simp only [Act.put, List.setIfInBounds_toArray, List.set_cons_zero, List.set_cons_succ]
  refine tkD 12 ?_
  simp only [Act.put, List.setIfInBounds_toArray, List.set_cons_zero, List.set_cons_succ]
  refine tkD 13 ?_
  simp only [Act.put, List.setIfInBounds_toArray, List.set_cons_zero, List.set_cons_succ]
  refine tkD 14 ?_
  simp only [Act.put, List.setIfInBounds_toArray, List.set_cons_zero, List.set_cons_succ]
  refine tkD 15 ?_
  simp only [Act.put, List.setIfInBounds_toArray, List.set_cons_zero, List.set_cons_succ]
  refine tkD 16 ?_
  simp only [Act.put, List.setIfInBounds_toArray, List.set_cons_zero, List.set_cons_succ]
  refine tkD 17 ?_
  simp only [Act.put, List.setIfInBounds_toArray, List.set_cons_zero, List.set_cons_succ]
  refine tkD 18 ?_
  simp only [Act.put, List.setIfInBounds_toArray, List.set_cons_zero, List.set_cons_succ]
  refine tkD 19 ?_
  simp only [Act.put, List.setIfInBounds_toArray, List.set_cons_zero, List.set_cons_succ]
  refine tkD 20 ?_
  simp only [Act.put, List.setIfInBounds_toArray, List.set_cons_zero, List.set_cons_succ]
  refine tkD 21 ?_
  simp only [Act.put, List.setIfInBounds_toArray, List.set_cons_zero, List.set_cons_succ]
  refine tkE 22 ?_
  simp only [Act.put, List.setIfInBounds_toArray, List.set_cons_zero, List.set_cons_succ]
  refine tkE 23 ?_
  simp only [Act.put, List.setIfInBounds_toArray, List.set_cons_zero, List.set_cons_succ]
  refine tkD 24 ?_
  simp only [Act.put, List.setIfInBounds_toArray, List.set_cons_zero, List.set_cons_succ]
  refine tkD 25 ?_
  simp only [Act.put, List.setIfInBounds_toArray, List.set_cons_zero, List.set_cons_succ]
  refine tkD 26 ?_
  simp only [Act.put, List.setIfInBounds_toArray, List.set_cons_zero, List.set_cons_succ]
  refine tkD 27 ?_
  simp only [Act.put, List.setIfInBounds_toArray, List.set_cons_zero, List.set_cons_succ]
  refine tkD 28 ?_
  simp only [Act.put, List.setIfInBounds_toArray, List.set_cons_zero, List.set_cons_succ]
  refine tkD 29 ?_
  simp only [Act.put, List.setIfInBounds_toArray, List.set_cons_zero, List.set_cons_succ]
  refine tkD 30 ?_
  simp only [Act.put, List.setIfInBounds_toArray, List.set_cons_zero, List.set_cons_succ]
  refine tkD 31 ?_
  simp only [Act.put, List.setIfInBounds_toArray, List.set_cons_zero, List.set_cons_succ]
  refine tkD 32 ?_
  simp only [Act.put, List.setIfInBounds_toArray, List.set_cons_zero, List.set_cons_succ]
  refine wpAnyH_ready (rs := [33]) (by kernel_rfl) (by simp) ?_
  refine tkC (fun K hK => ?_) (AllReadyH.nil)
  go_simp
  (go_at_call 11; go_split_ands; (with_reducible refine (lwhole_any m.to _).mono ?_); rintro e w1 ⟨rfl, hb1⟩)
  go_wp2_with fail
  have hB1 := hB0.trans (hb1.mono hB0.size)
  refine hK.out _ _ (HX.out _ hB1) (fun hHeld => ?_)
  clear hK K
  try simp only [Act.put, List.setIfInBounds_toArray, List.set_cons_zero, List.set_cons_succ]
  refine tkD 34 ?_
  simp only [Act.put, List.setIfInBounds_toArray, List.set_cons_zero, List.set_cons_succ]
  refine tkD 35 ?_
  simp only [Act.put, List.setIfInBounds_toArray, List.set_cons_zero, List.set_cons_succ]
  refine tkD 36 ?_
  simp only [Act.put, List.setIfInBounds_toArray, List.set_cons_zero, List.set_cons_succ]
  refine wpAnyH_done (by kernel_rfl) ?_ _
  have hB := hB1
  exact hK _ _ _ _ _ _ _ _ _ _ _ _ _ _ _ _ _ _ _ _ _ _ _ _ _ _ _ _ _ _ _ _ _ _ _ _ _ _ ⟨rfl, hB⟩
set_option maxRecDepth 100000 in
set_option maxHeartbeats 8000000 in
theorem goR23b {m : Mv} {f d o : Int} {By Bm : Nat} {W0 : World} {u0 u2 u3 u4 u5 u6 u8 u9 u10 u11 u12 u13 u14 u15 u16 u17 u18 u19 u20 u22 u27 u28 u29 u30 u31 u32 u33 u34 u35 u36 u37 u38 u39 u40 u41 u42 u43 u44 u45 u46 u47 u48 u49 u50 u51 u52 u53 u54 u55 u56 u57 u58 u59 u60 u61 u62 u63 u64 u65 u66 u67 u68 u69 u70 u71 u72 u73 u74 u75 u76 u77 u78 u79 u80 u81 u82 u83 u84 u85 u86 u87 u88 u89 u90 u91 u92 u93 u94 u95 u96 u97 u98 u99 u100 u101 u102 u103 u104 u105 u106 u107 u108 u109 u110 u111 u112 u113 u114 u115 u116 u117 u118 u119 u120 u121 u122 u123 u124 u125 u126 u127 u128 u129 u130 u131 u132 u133 u134 u135 u136 u137 u138 u139 u140 u141 u142 u143 u144 u145 u146 u147 u148 u149 u150 u151 u152 u153 u154 u155 u156 u157 u158 u159 u160 u161 u162 u163 u164 u165 u166 u167 u168 u169 u170 u171 u172 u173 u174 u175 u176 u177 u178 u179 u180 u181 u182 u183 u184 u185 u186 u187 u188 u189 u190 u191 u192 u193 u194 u195 u196 u197 u198 u199 u200 u201 u202 u203 u204 u205 u206 u207 u208 u209 u210 u211 u212 u213 u214 u215 u216 u217 u218 : Value} {R : List Value} {K : Act → World → Prop} {Q0 : Exit → Act → World → Prop}
  (hu : f ≤ m.to → decide (0 < d) = false) (hd : m.to ≤ f → decide (d < 0) = false) (_ho : decide (0 ≤ o) = false) (HX : Hid (∀ w', Below W0.heap.size W0 w' → (fun w' => w'.cell? ⟨Bm, 1, none⟩ = some (.int .i64 m.to)) w'))
  (hK : ∀ (v148 v149 v150 v151 v152 v153 v154 v155 v156 v157 v158 v159 v160 v161 v162 v163 v164 v165 v166 v167 v168 v169 v170 v171 v172 v173 v174 v175 v176 v177 v178 v179 v180 v181 v182 v183 v184 : Value) (wx : World), (v184 = .bool false ∧ Below W0.heap.size W0 wx) → K ⟨List.toArray (u0 :: .int .i64 f :: u2 :: u3 :: u4 :: u5 :: u6 :: .pointer (some ⟨Bm, 0, none⟩) :: u8 :: u9 :: u10 :: u11 :: u12 :: u13 :: u14 :: u15 :: u16 :: u17 :: u18 :: u19 :: u20 :: .pointer (some ⟨By, 0, none⟩) :: u22 :: .int .i64 d :: .int .i64 0 :: .int .i64 o :: .int .i64 0 :: u27 :: u28 :: u29 :: u30 :: u31 :: u32 :: u33 :: u34 :: u35 :: u36 :: u37 :: u38 :: u39 :: u40 :: u41 :: u42 :: u43 :: u44 :: u45 :: u46 :: u47 :: u48 :: u49 :: u50 :: u51 :: u52 :: u53 :: u54 :: u55 :: u56 :: u57 :: u58 :: u59 :: u60 :: u61 :: u62 :: u63 :: u64 :: u65 :: u66 :: u67 :: u68 :: u69 :: u70 :: u71 :: u72 :: u73 :: u74 :: u75 :: u76 :: u77 :: u78 :: u79 :: u80 :: u81 :: u82 :: u83 :: u84 :: u85 :: u86 :: u87 :: u88 :: u89 :: u90 :: u91 :: u92 :: u93 :: u94 :: u95 :: u96 :: u97 :: u98 :: u99 :: u100 :: u101 :: u102 :: u103 :: u104 :: u105 :: u106 :: u107 :: u108 :: u109 :: u110 :: u111 :: u112 :: u113 :: u114 :: u115 :: u116 :: u117 :: u118 :: u119 :: u120 :: u121 :: u122 :: u123 :: u124 :: u125 :: u126 :: u127 :: u128 :: u129 :: u130 :: u131 :: u132 :: u133 :: u134 :: u135 :: u136 :: u137 :: u138 :: u139 :: u140 :: u141 :: u142 :: u143 :: u144 :: u145 :: u146 :: u147 :: v148 :: v149 :: v150 :: v151 :: v152 :: v153 :: v154 :: v155 :: v156 :: v157 :: v158 :: v159 :: v160 :: v161 :: v162 :: v163 :: v164 :: v165 :: v166 :: v167 :: v168 :: v169 :: v170 :: v171 :: v172 :: v173 :: v174 :: v175 :: v176 :: v177 :: v178 :: v179 :: v180 :: v181 :: v182 :: v183 :: v184 :: u185 :: u186 :: u187 :: u188 :: u189 :: u190 :: u191 :: u192 :: u193 :: u194 :: u195 :: u196 :: u197 :: u198 :: u199 :: u200 :: u201 :: u202 :: u203 :: u204 :: u205 :: u206 :: u207 :: u208 :: u209 :: u210 :: u211 :: u212 :: u213 :: u214 :: u215 :: u216 :: u217 :: u218 :: R), []⟩ wx) :
  Code.wp Try.prog (goCode 23) (Exit.then K Q0) ⟨List.toArray (u0 :: .int .i64 f :: u2 :: u3 :: u4 :: u5 :: u6 :: .pointer (some ⟨Bm, 0, none⟩) :: u8 :: u9 :: u10 :: u11 :: u12 :: u13 :: u14 :: u15 :: u16 :: u17 :: u18 :: u19 :: u20 :: .pointer (some ⟨By, 0, none⟩) :: u22 :: .int .i64 d :: .int .i64 0 :: .int .i64 o :: .int .i64 0 :: u27 :: u28 :: u29 :: u30 :: u31 :: u32 :: u33 :: u34 :: u35 :: u36 :: u37 :: u38 :: u39 :: u40 :: u41 :: u42 :: u43 :: u44 :: u45 :: u46 :: u47 :: u48 :: u49 :: u50 :: u51 :: u52 :: u53 :: u54 :: u55 :: u56 :: u57 :: u58 :: u59 :: u60 :: u61 :: u62 :: u63 :: u64 :: u65 :: u66 :: u67 :: u68 :: u69 :: u70 :: u71 :: u72 :: u73 :: u74 :: u75 :: u76 :: u77 :: u78 :: u79 :: u80 :: u81 :: u82 :: u83 :: u84 :: u85 :: u86 :: u87 :: u88 :: u89 :: u90 :: u91 :: u92 :: u93 :: u94 :: u95 :: u96 :: u97 :: u98 :: u99 :: u100 :: u101 :: u102 :: u103 :: u104 :: u105 :: u106 :: u107 :: u108 :: u109 :: u110 :: u111 :: u112 :: u113 :: u114 :: u115 :: u116 :: u117 :: u118 :: u119 :: u120 :: u121 :: u122 :: u123 :: u124 :: u125 :: u126 :: u127 :: u128 :: u129 :: u130 :: u131 :: u132 :: u133 :: u134 :: u135 :: u136 :: u137 :: u138 :: u139 :: u140 :: u141 :: u142 :: u143 :: u144 :: u145 :: u146 :: u147 :: u148 :: u149 :: u150 :: u151 :: u152 :: u153 :: u154 :: u155 :: u156 :: u157 :: u158 :: u159 :: u160 :: u161 :: u162 :: u163 :: u164 :: u165 :: u166 :: u167 :: u168 :: u169 :: u170 :: u171 :: u172 :: u173 :: u174 :: u175 :: u176 :: u177 :: u178 :: u179 :: u180 :: u181 :: u182 :: u183 :: u184 :: u185 :: u186 :: u187 :: u188 :: u189 :: u190 :: u191 :: u192 :: u193 :: u194 :: u195 :: u196 :: u197 :: u198 :: u199 :: u200 :: u201 :: u202 :: u203 :: u204 :: u205 :: u206 :: u207 :: u208 :: u209 :: u210 :: u211 :: u212 :: u213 :: u214 :: u215 :: u216 :: u217 :: u218 :: R), []⟩ W0 := by
 conv => arg 2; whnf
 refine wp_region_noPanic ?_
 rcases Int.lt_trichotomy m.to f with c | c | c
 ·have g1 : decide (f ≤ m.to) = false := decide_eq_false (by omega)
  have g2 : decide (m.to ≤ f) = true := decide_eq_true (by omega)
  have g4 := hd (by omega)
  clear hu hd c
  refine wp_region_held_drew (S := fun w' => w'.cell? ⟨Bm, 1, none⟩ = some (.int .i64 m.to)) (by kernel_rfl) (HX.out _ (Below.refl _ _).drew) (fun hHeld => ?_)
  have hB0 := (Below.refl W0.heap.size W0).drew
  obtain ⟨w0, hw0⟩ : ∃ x, W0.drew = x := ⟨_, rfl⟩
  simp only [hw0] at hB0 hHeld ⊢
  clear hw0
  refine tkD 0 ?_
  simp only [Act.put, List.setIfInBounds_toArray, List.set_cons_zero, List.set_cons_succ]
  refine tkD 1 ?_
  simp only [Act.put, List.setIfInBounds_toArray, List.set_cons_zero, List.set_cons_succ]
  refine tkD 2 ?_
  simp only [Act.put, List.setIfInBounds_toArray, List.set_cons_zero, List.set_cons_succ]
  refine tkD 3 ?_
  simp only [Act.put, List.setIfInBounds_toArray, List.set_cons_zero, List.set_cons_succ]
  refine tkD 4 ?_
  simp only [Act.put, List.setIfInBounds_toArray, List.set_cons_zero, List.set_cons_succ]
  refine tkD 5 ?_
  simp only [Act.put, List.setIfInBounds_toArray, List.set_cons_zero, List.set_cons_succ]
  refine tkD 6 ?_
  simp only [Act.put, List.setIfInBounds_toArray, List.set_cons_zero, List.set_cons_succ]
  refine tkD 7 ?_
  simp only [Act.put, List.setIfInBounds_toArray, List.set_cons_zero, List.set_cons_succ]
  refine tkD 8 ?_
  simp only [Act.put, List.setIfInBounds_toArray, List.set_cons_zero, List.set_cons_succ]
  refine tkD 9 ?_
  simp only [Act.put, List.setIfInBounds_toArray, List.set_cons_zero, List.set_cons_succ]
  refine tkD 10 ?_
  simp only [Act.put, List.setIfInBounds_toArray, List.set_cons_zero, List.set_cons_succ]
  refine tkD 11 ?_
  simp only [Act.put, List.setIfInBounds_toArray, List.set_cons_zero, List.set_cons_succ]
  refine tkE 12 ?_
  simp only [Act.put, List.setIfInBounds_toArray, List.set_cons_zero, List.set_cons_succ]
  refine tkE 13 ?_
  simp only [Act.put, List.setIfInBounds_toArray, List.set_cons_zero, List.set_cons_succ]
  refine tkD 14 ?_
  simp only [Act.put, List.setIfInBounds_toArray, List.set_cons_zero, List.set_cons_succ]
  refine tkD 15 ?_
  simp only [Act.put, List.setIfInBounds_toArray, List.set_cons_zero, List.set_cons_succ]
  refine tkD 16 ?_
  simp only [Act.put, List.setIfInBounds_toArray, List.set_cons_zero, List.set_cons_succ]
  refine tkD 17 ?_
  simp only [Act.put, List.setIfInBounds_toArray, List.set_cons_zero, List.set_cons_succ]
  refine tkD 18 ?_
  simp only [Act.put, List.setIfInBounds_toArray, List.set_cons_zero, List.set_cons_succ]
  refine tkD 19 ?_
  simp only [Act.put, List.setIfInBounds_toArray, List.set_cons_zero, List.set_cons_succ]
  refine tkD 20 ?_
  simp only [Act.put, List.setIfInBounds_toArray, List.set_cons_zero, List.set_cons_succ]
  refine tkD 21 ?_
  simp only [Act.put, List.setIfInBounds_toArray, List.set_cons_zero, List.set_cons_succ]
  refine tkD 22 ?_
  simp only [Act.put, List.setIfInBounds_toArray, List.set_cons_zero, List.set_cons_succ]
  refine tkD 23 ?_
  simp only [Act.put, List.setIfInBounds_toArray, List.set_cons_zero, List.set_cons_succ]
  refine tkD 24 ?_
  simp only [Act.put, List.setIfInBounds_toArray, List.set_cons_zero, List.set_cons_succ]
  refine tkD 25 ?_
  simp only [Act.put, List.setIfInBounds_toArray, List.set_cons_zero, List.set_cons_succ]
  refine tkD 26 ?_
  simp only [Act.put, List.setIfInBounds_toArray, List.set_cons_zero, List.set_cons_succ]
  refine tkD 27 ?_
  simp only [Act.put, List.setIfInBounds_toArray, List.set_cons_zero, List.set_cons_succ]
  refine tkD 28 ?_
  simp only [Act.put, List.setIfInBounds_toArray, List.set_cons_zero, List.set_cons_succ]
  refine tkD 29 ?_
  simp only [Act.put, List.setIfInBounds_toArray, List.set_cons_zero, List.set_cons_succ]
  refine tkE 30 ?_
  simp only [Act.put, List.setIfInBounds_toArray, List.set_cons_zero, List.set_cons_succ]
  refine tkE 31 ?_
  simp only [Act.put, List.setIfInBounds_toArray, List.set_cons_zero, List.set_cons_succ]
  refine tkE 32 ?_
  simp only [Act.put, List.setIfInBounds_toArray, List.set_cons_zero, List.set_cons_succ]
  refine tkE 33 ?_
  simp only [Act.put, List.setIfInBounds_toArray, List.set_cons_zero, List.set_cons_succ]
  refine tkE 34 ?_
  simp only [Act.put, List.setIfInBounds_toArray, List.set_cons_zero, List.set_cons_succ]
  refine tkD 35 ?_
  simp only [Act.put, List.setIfInBounds_toArray, List.set_cons_zero, List.set_cons_succ]
  refine tkD 36 ?_
  simp only [Act.put, List.setIfInBounds_toArray, List.set_cons_zero, List.set_cons_succ]
  refine wpAnyH_done (by kernel_rfl) ?_ _
  have hB := hB0
  exact hK _ _ _ _ _ _ _ _ _ _ _ _ _ _ _ _ _ _ _ _ _ _ _ _ _ _ _ _ _ _ _ _ _ _ _ _ _ _ ⟨rfl, hB⟩
 ·have g1 : decide (f ≤ m.to) = true := decide_eq_true (by omega)
  have g2 : decide (m.to ≤ f) = true := decide_eq_true (by omega)
  have g3 := hu (by omega)
  have g4 := hd (by omega)
  clear hu hd c
  refine wp_region_held_drew (S := fun w' => w'.cell? ⟨Bm, 1, none⟩ = some (.int .i64 m.to)) (by kernel_rfl) (HX.out _ (Below.refl _ _).drew) (fun hHeld => ?_)
  have hB0 := (Below.refl W0.heap.size W0).drew
  obtain ⟨w0, hw0⟩ : ∃ x, W0.drew = x := ⟨_, rfl⟩
  simp only [hw0] at hB0 hHeld ⊢
  clear hw0
  refine tkD 0 ?_
  simp only [Act.put, List.setIfInBounds_toArray, List.set_cons_zero, List.set_cons_succ]
  refine tkD 1 ?_
  simp only [Act.put, List.setIfInBounds_toArray, List.set_cons_zero, List.set_cons_succ]
  refine tkD 2 ?_
  simp only [Act.put, List.setIfInBounds_toArray, List.set_cons_zero, List.set_cons_succ]
  refine tkD 3 ?_
  simp only [Act.put, List.setIfInBounds_toArray, List.set_cons_zero, List.set_cons_succ]
  refine tkD 4 ?_
  simp only [Act.put, List.setIfInBounds_toArray, List.set_cons_zero, List.set_cons_succ]
  refine tkD 5 ?_
  simp only [Act.put, List.setIfInBounds_toArray, List.set_cons_zero, List.set_cons_succ]
  refine tkD 6 ?_
  simp only [Act.put, List.setIfInBounds_toArray, List.set_cons_zero, List.set_cons_succ]
  refine tkD 7 ?_
  simp only [Act.put, List.setIfInBounds_toArray, List.set_cons_zero, List.set_cons_succ]
  refine tkD 8 ?_
  simp only [Act.put, List.setIfInBounds_toArray, List.set_cons_zero, List.set_cons_succ]
  refine tkD 9 ?_
  simp only [Act.put, List.setIfInBounds_toArray, List.set_cons_zero, List.set_cons_succ]
  refine tkD 10 ?_
  simp only [Act.put, List.setIfInBounds_toArray, List.set_cons_zero, List.set_cons_succ]
  refine tkD 11 ?_
  simp only [Act.put, List.setIfInBounds_toArray, List.set_cons_zero, List.set_cons_succ]
  refine tkD 12 ?_
  simp only [Act.put, List.setIfInBounds_toArray, List.set_cons_zero, List.set_cons_succ]
  refine tkD 13 ?_
  simp only [Act.put, List.setIfInBounds_toArray, List.set_cons_zero, List.set_cons_succ]
  refine tkD 14 ?_
  simp only [Act.put, List.setIfInBounds_toArray, List.set_cons_zero, List.set_cons_succ]
  refine tkD 15 ?_
  simp only [Act.put, List.setIfInBounds_toArray, List.set_cons_zero, List.set_cons_succ]
  refine tkD 16 ?_
  simp only [Act.put, List.setIfInBounds_toArray, List.set_cons_zero, List.set_cons_succ]
  refine tkD 17 ?_
  simp only [Act.put, List.setIfInBounds_toArray, List.set_cons_zero, List.set_cons_succ]
  refine tkD 18 ?_
  simp only [Act.put, List.setIfInBounds_toArray, List.set_cons_zero, List.set_cons_succ]
  refine tkD 19 ?_
  simp only [Act.put, List.setIfInBounds_toArray, List.set_cons_zero, List.set_cons_succ]
  refine tkD 20 ?_
  simp only [Act.put, List.setIfInBounds_toArray, List.set_cons_zero, List.set_cons_succ]
  refine tkD 21 ?_
  simp only [Act.put, List.setIfInBounds_toArray, List.set_cons_zero, List.set_cons_succ]
  refine tkD 22 ?_
  simp only [Act.put, List.setIfInBounds_toArray, List.set_cons_zero, List.set_cons_succ]
  refine tkD 23 ?_
  simp only [Act.put, List.setIfInBounds_toArray, List.set_cons_zero, List.set_cons_succ]
  refine tkD 24 ?_
  simp only [Act.put, List.setIfInBounds_toArray, List.set_cons_zero, List.set_cons_succ]
  refine tkD 25 ?_
  simp only [Act.put, List.setIfInBounds_toArray, List.set_cons_zero, List.set_cons_succ]
  refine tkD 26 ?_
  simp only [Act.put, List.setIfInBounds_toArray, List.set_cons_zero, List.set_cons_succ]
  refine tkD 27 ?_
  simp only [Act.put, List.setIfInBounds_toArray, List.set_cons_zero, List.set_cons_succ]
  refine tkD 28 ?_
  simp only [Act.put, List.setIfInBounds_toArray, List.set_cons_zero, List.set_cons_succ]
  refine tkD 29 ?_
  simp only [Act.put, List.setIfInBounds_toArray, List.set_cons_zero, List.set_cons_succ]
  refine tkE 30 ?_
  simp only [Act.put, List.setIfInBounds_toArray, List.set_cons_zero, List.set_cons_succ]
  refine tkE 31 ?_
  simp only [Act.put, List.setIfInBounds_toArray, List.set_cons_zero, List.set_cons_succ]
  refine tkE 32 ?_
  simp only [Act.put, List.setIfInBounds_toArray, List.set_cons_zero, List.set_cons_succ]
  refine tkE 33 ?_
  simp only [Act.put, List.setIfInBounds_toArray, List.set_cons_zero, List.set_cons_succ]
  refine tkE 34 ?_
  simp only [Act.put, List.setIfInBounds_toArray, List.set_cons_zero, List.set_cons_succ]
  refine tkD 35 ?_
  simp only [Act.put, List.setIfInBounds_toArray, List.set_cons_zero, List.set_cons_succ]
  refine tkD 36 ?_
  simp only [Act.put, List.setIfInBounds_toArray, List.set_cons_zero, List.set_cons_succ]
  refine wpAnyH_done (by kernel_rfl) ?_ _
  have hB := hB0
  exact hK _ _ _ _ _ _ _ _ _ _ _ _ _ _ _ _ _ _ _ _ _ _ _ _ _ _ _ _ _ _ _ _ _ _ _ _ _ _ ⟨rfl, hB⟩
 ·have g1 : decide (f ≤ m.to) = true := decide_eq_true (by omega)
  have g2 : decide (m.to ≤ f) = false := decide_eq_false (by omega)
  have g3 := hu (by omega)
  clear hu hd c
  refine wp_region_held_drew (S := fun w' => w'.cell? ⟨Bm, 1, none⟩ = some (.int .i64 m.to)) (by kernel_rfl) (HX.out _ (Below.refl _ _).drew) (fun hHeld => ?_)
  have hB0 := (Below.refl W0.heap.size W0).drew
  obtain ⟨w0, hw0⟩ : ∃ x, W0.drew = x := ⟨_, rfl⟩
  simp only [hw0] at hB0 hHeld ⊢
  clear hw0
  refine tkD 0 ?_
  simp only [Act.put, List.setIfInBounds_toArray, List.set_cons_zero, List.set_cons_succ]
  refine tkD 1 ?_
  simp only [Act.put, List.setIfInBounds_toArray, List.set_cons_zero, List.set_cons_succ]
  refine tkD 2 ?_
  simp only [Act.put, List.setIfInBounds_toArray, List.set_cons_zero, List.set_cons_succ]
  refine tkD 3 ?_
  simp only [Act.put, List.setIfInBounds_toArray, List.set_cons_zero, List.set_cons_succ]
  refine tkD 4 ?_
  simp only [Act.put, List.setIfInBounds_toArray, List.set_cons_zero, List.set_cons_succ]
  refine tkD 5 ?_
  simp only [Act.put, List.setIfInBounds_toArray, List.set_cons_zero, List.set_cons_succ]
  refine tkD 6 ?_
  simp only [Act.put, List.setIfInBounds_toArray, List.set_cons_zero, List.set_cons_succ]
  refine tkD 7 ?_
  simp only [Act.put, List.setIfInBounds_toArray, List.set_cons_zero, List.set_cons_succ]
  refine tkD 8 ?_
  simp only [Act.put, List.setIfInBounds_toArray, List.set_cons_zero, List.set_cons_succ]
  refine tkD 9 ?_
  simp only [Act.put, List.setIfInBounds_toArray, List.set_cons_zero, List.set_cons_succ]
  refine tkD 10 ?_
  simp only [Act.put, List.setIfInBounds_toArray, List.set_cons_zero, List.set_cons_succ]
  refine tkD 11 ?_
  simp only [Act.put, List.setIfInBounds_toArray, List.set_cons_zero, List.set_cons_succ]
  refine tkD 12 ?_
  simp only [Act.put, List.setIfInBounds_toArray, List.set_cons_zero, List.set_cons_succ]
  refine tkD 13 ?_
  simp only [Act.put, List.setIfInBounds_toArray, List.set_cons_zero, List.set_cons_succ]
  refine tkD 14 ?_
  simp only [Act.put, List.setIfInBounds_toArray, List.set_cons_zero, List.set_cons_succ]
  refine tkD 15 ?_
  simp only [Act.put, List.setIfInBounds_toArray, List.set_cons_zero, List.set_cons_succ]
  refine tkD 16 ?_
  simp only [Act.put, List.setIfInBounds_toArray, List.set_cons_zero, List.set_cons_succ]
  refine tkD 17 ?_
  simp only [Act.put, List.setIfInBounds_toArray, List.set_cons_zero, List.set_cons_succ]
  refine tkD 18 ?_
  simp only [Act.put, List.setIfInBounds_toArray, List.set_cons_zero, List.set_cons_succ]
  refine tkD 19 ?_
  simp only [Act.put, List.setIfInBounds_toArray, List.set_cons_zero, List.set_cons_succ]
  refine tkD 20 ?_
  simp only [Act.put, List.setIfInBounds_toArray, List.set_cons_zero, List.set_cons_succ]
  refine tkD 21 ?_
  simp only [Act.put, List.setIfInBounds_toArray, List.set_cons_zero, List.set_cons_succ]
  refine tkE 22 ?_
  simp only [Act.put, List.setIfInBounds_toArray, List.set_cons_zero, List.set_cons_succ]
  refine tkE 23 ?_
  simp only [Act.put, List.setIfInBounds_toArray, List.set_cons_zero, List.set_cons_succ]
  refine tkD 24 ?_
  simp only [Act.put, List.setIfInBounds_toArray, List.set_cons_zero, List.set_cons_succ]
  refine tkD 25 ?_
  simp only [Act.put, List.setIfInBounds_toArray, List.set_cons_zero, List.set_cons_succ]
  refine tkD 26 ?_
  simp only [Act.put, List.setIfInBounds_toArray, List.set_cons_zero, List.set_cons_succ]
  refine tkD 27 ?_
  simp only [Act.put, List.setIfInBounds_toArray, List.set_cons_zero, List.set_cons_succ]
  refine tkD 28 ?_
  simp only [Act.put, List.setIfInBounds_toArray, List.set_cons_zero, List.set_cons_succ]
  refine tkD 29 ?_
  simp only [Act.put, List.setIfInBounds_toArray, List.set_cons_zero, List.set_cons_succ]
  refine tkE 30 ?_
  simp only [Act.put, List.setIfInBounds_toArray, List.set_cons_zero, List.set_cons_succ]
  refine tkE 31 ?_
  simp only [Act.put, List.setIfInBounds_toArray, List.set_cons_zero, List.set_cons_succ]
  refine tkE 32 ?_
  simp only [Act.put, List.setIfInBounds_toArray, List.set_cons_zero, List.set_cons_succ]
  refine tkE 33 ?_
  simp only [Act.put, List.setIfInBounds_toArray, List.set_cons_zero, List.set_cons_succ]
  refine tkE 34 ?_
  simp only [Act.put, List.setIfInBounds_toArray, List.set_cons_zero, List.set_cons_succ]
  refine tkD 35 ?_
  simp only [Act.put, List.setIfInBounds_toArray, List.set_cons_zero, List.set_cons_succ]
  refine tkD 36 ?_
  simp only [Act.put, List.setIfInBounds_toArray, List.set_cons_zero, List.set_cons_succ]
  refine wpAnyH_done (by kernel_rfl) ?_ _
  have hB := hB0
  exact hK _ _ _ _ _ _ _ _ _ _ _ _ _ _ _ _ _ _ _ _ _ _ _ _ _ _ _ _ _ _ _ _ _ _ _ _ _ _ ⟨rfl, hB⟩
set_option maxRecDepth 100000 in
set_option maxHeartbeats 8000000 in
theorem goR25 {m : Mv} {f C : Int} {Y : Int × Int × Int} {By Bm : Nat} {W0 : World} {u0 u2 u3 u4 u5 u6 u8 u9 u10 u11 u12 u13 u14 u15 u16 u17 u18 u19 u20 u22 u23 u24 u25 u26 u27 u28 u29 u30 u31 u32 u33 u34 u35 u36 u37 u38 u39 u40 u41 u42 u43 u44 u45 u46 u47 u48 u49 u50 u51 u52 u53 u54 u55 u56 u57 u58 u59 u60 u61 u62 u63 u64 u65 u66 u67 u68 u69 u70 u71 u72 u73 u74 u75 u76 u77 u78 u79 u80 u81 u82 u83 u84 u85 u86 u87 u88 u89 u90 u91 u92 u93 u94 u95 u96 u97 u98 u99 u100 u101 u102 u103 u104 u105 u106 u107 u108 u109 u110 u111 u112 u113 u114 u115 u116 u117 u118 u119 u120 u121 u122 u123 u124 u125 u126 u127 u128 u129 u130 u131 u132 u133 u134 u135 u136 u137 u138 u139 u140 u141 u142 u143 u144 u145 u146 u147 u148 u149 u150 u151 u152 u153 u154 u155 u156 u157 u158 u159 u160 u161 u162 u163 u164 u165 u166 u167 u168 u169 u170 u171 u172 u173 u174 u175 u176 u177 u178 u179 u180 u181 u182 u183 u184 u185 u186 u187 u188 u189 u190 u191 u192 u193 u194 u195 u196 u197 u198 u199 u200 u201 u202 u203 u204 u205 u206 u207 u208 u209 u210 u211 u212 u213 u214 u215 u216 u217 u218 : Value} {R : List Value} {K : Act → World → Prop} {Q0 : Exit → Act → World → Prop}
  (HC : Hid (∀ w : World, Calls Try.prog 12 #[.agg #[.int .i64 Y.1, .int .i64 Y.2.1], .agg #[.int .i64 (min f m.to), .int .i64 1]] w fun e w' => e = .returned (.tuple #[.int .i64 C, .int .i64 0]) ∧ Below w.heap.size w w')) (HX : Hid (∀ w', Below W0.heap.size W0 w' → (fun w' => w'.cell? ⟨By, 0, none⟩ = some (.int .i64 Y.1) ∧ w'.cell? ⟨By, 1, none⟩ = some (.int .i64 Y.2.1) ∧ w'.cell? ⟨Bm, 1, none⟩ = some (.int .i64 m.to)) w'))
  (hK : ∀ (v27 v28 v185 v186 v187 v188 v189 v190 v191 v192 v193 v194 : Value) (wx : World), (v27 = .int .i64 C ∧ v28 = .int .i64 0 ∧ Below W0.heap.size W0 wx) → K ⟨List.toArray (u0 :: .int .i64 f :: u2 :: u3 :: u4 :: u5 :: u6 :: .pointer (some ⟨Bm, 0, none⟩) :: u8 :: u9 :: u10 :: u11 :: u12 :: u13 :: u14 :: u15 :: u16 :: u17 :: u18 :: u19 :: u20 :: .pointer (some ⟨By, 0, none⟩) :: u22 :: u23 :: u24 :: u25 :: u26 :: v27 :: v28 :: u29 :: u30 :: u31 :: u32 :: u33 :: u34 :: u35 :: u36 :: u37 :: u38 :: u39 :: u40 :: u41 :: u42 :: u43 :: u44 :: u45 :: u46 :: u47 :: u48 :: u49 :: u50 :: u51 :: u52 :: u53 :: u54 :: u55 :: u56 :: u57 :: u58 :: u59 :: u60 :: u61 :: u62 :: u63 :: u64 :: u65 :: u66 :: u67 :: u68 :: u69 :: u70 :: u71 :: u72 :: u73 :: u74 :: u75 :: u76 :: u77 :: u78 :: u79 :: u80 :: u81 :: u82 :: u83 :: u84 :: u85 :: u86 :: u87 :: u88 :: u89 :: u90 :: u91 :: u92 :: u93 :: u94 :: u95 :: u96 :: u97 :: u98 :: u99 :: u100 :: u101 :: u102 :: u103 :: u104 :: u105 :: u106 :: u107 :: u108 :: u109 :: u110 :: u111 :: u112 :: u113 :: u114 :: u115 :: u116 :: u117 :: u118 :: u119 :: u120 :: u121 :: u122 :: u123 :: u124 :: u125 :: u126 :: u127 :: u128 :: u129 :: u130 :: u131 :: u132 :: u133 :: u134 :: u135 :: u136 :: u137 :: u138 :: u139 :: u140 :: u141 :: u142 :: u143 :: u144 :: u145 :: u146 :: u147 :: u148 :: u149 :: u150 :: u151 :: u152 :: u153 :: u154 :: u155 :: u156 :: u157 :: u158 :: u159 :: u160 :: u161 :: u162 :: u163 :: u164 :: u165 :: u166 :: u167 :: u168 :: u169 :: u170 :: u171 :: u172 :: u173 :: u174 :: u175 :: u176 :: u177 :: u178 :: u179 :: u180 :: u181 :: u182 :: u183 :: u184 :: v185 :: v186 :: v187 :: v188 :: v189 :: v190 :: v191 :: v192 :: v193 :: v194 :: u195 :: u196 :: u197 :: u198 :: u199 :: u200 :: u201 :: u202 :: u203 :: u204 :: u205 :: u206 :: u207 :: u208 :: u209 :: u210 :: u211 :: u212 :: u213 :: u214 :: u215 :: u216 :: u217 :: u218 :: R), []⟩ wx) :
  Code.wp Try.prog (goCode 25) (Exit.then K Q0) ⟨List.toArray (u0 :: .int .i64 f :: u2 :: u3 :: u4 :: u5 :: u6 :: .pointer (some ⟨Bm, 0, none⟩) :: u8 :: u9 :: u10 :: u11 :: u12 :: u13 :: u14 :: u15 :: u16 :: u17 :: u18 :: u19 :: u20 :: .pointer (some ⟨By, 0, none⟩) :: u22 :: u23 :: u24 :: u25 :: u26 :: u27 :: u28 :: u29 :: u30 :: u31 :: u32 :: u33 :: u34 :: u35 :: u36 :: u37 :: u38 :: u39 :: u40 :: u41 :: u42 :: u43 :: u44 :: u45 :: u46 :: u47 :: u48 :: u49 :: u50 :: u51 :: u52 :: u53 :: u54 :: u55 :: u56 :: u57 :: u58 :: u59 :: u60 :: u61 :: u62 :: u63 :: u64 :: u65 :: u66 :: u67 :: u68 :: u69 :: u70 :: u71 :: u72 :: u73 :: u74 :: u75 :: u76 :: u77 :: u78 :: u79 :: u80 :: u81 :: u82 :: u83 :: u84 :: u85 :: u86 :: u87 :: u88 :: u89 :: u90 :: u91 :: u92 :: u93 :: u94 :: u95 :: u96 :: u97 :: u98 :: u99 :: u100 :: u101 :: u102 :: u103 :: u104 :: u105 :: u106 :: u107 :: u108 :: u109 :: u110 :: u111 :: u112 :: u113 :: u114 :: u115 :: u116 :: u117 :: u118 :: u119 :: u120 :: u121 :: u122 :: u123 :: u124 :: u125 :: u126 :: u127 :: u128 :: u129 :: u130 :: u131 :: u132 :: u133 :: u134 :: u135 :: u136 :: u137 :: u138 :: u139 :: u140 :: u141 :: u142 :: u143 :: u144 :: u145 :: u146 :: u147 :: u148 :: u149 :: u150 :: u151 :: u152 :: u153 :: u154 :: u155 :: u156 :: u157 :: u158 :: u159 :: u160 :: u161 :: u162 :: u163 :: u164 :: u165 :: u166 :: u167 :: u168 :: u169 :: u170 :: u171 :: u172 :: u173 :: u174 :: u175 :: u176 :: u177 :: u178 :: u179 :: u180 :: u181 :: u182 :: u183 :: u184 :: u185 :: u186 :: u187 :: u188 :: u189 :: u190 :: u191 :: u192 :: u193 :: u194 :: u195 :: u196 :: u197 :: u198 :: u199 :: u200 :: u201 :: u202 :: u203 :: u204 :: u205 :: u206 :: u207 :: u208 :: u209 :: u210 :: u211 :: u212 :: u213 :: u214 :: u215 :: u216 :: u217 :: u218 :: R), []⟩ W0 := by
 conv => arg 2; whnf
 refine wp_region_noPanic ?_
 refine wp_region_held_drew (S := fun w' => w'.cell? ⟨By, 0, none⟩ = some (.int .i64 Y.1) ∧ w'.cell? ⟨By, 1, none⟩ = some (.int .i64 Y.2.1) ∧ w'.cell? ⟨Bm, 1, none⟩ = some (.int .i64 m.to)) (by kernel_rfl) (HX.out _ (Below.refl _ _).drew) (fun hHeld => ?_)
 have hB0 := (Below.refl W0.heap.size W0).drew
 obtain ⟨w0, hw0⟩ : ∃ x, W0.drew = x := ⟨_, rfl⟩
 simp only [hw0] at hB0 hHeld ⊢
 clear hw0
 refine tkD 0 ?_
 simp only [Act.put, List.setIfInBounds_toArray, List.set_cons_zero, List.set_cons_succ]
 refine tkD 1 ?_
 simp only [Act.put, List.setIfInBounds_toArray, List.set_cons_zero, List.set_cons_succ]
 refine tkD 2 ?_
 simp only [Act.put, List.setIfInBounds_toArray, List.set_cons_zero, List.set_cons_succ]
 refine tkD 3 ?_
 simp only [Act.put, List.setIfInBounds_toArray, List.set_cons_zero, List.set_cons_succ]
 refine tkD 4 ?_
 simp only [Act.put, List.setIfInBounds_toArray, List.set_cons_zero, List.set_cons_succ]
 refine wpAnyH_ready (rs := [5]) (by kernel_rfl) (by simp) ?_
 refine tkC (fun K hK => ?_) (AllReadyH.nil)
 go_simp
 (go_at_call 11; go_split_ands; (with_reducible refine (lwhole_any (min f m.to) _).mono ?_); rintro e w1 ⟨rfl, hb1⟩)
 go_wp2_with fail
 have hB1 := hB0.trans (hb1.mono hB0.size)
 refine hK.out _ _ (HX.out _ hB1) (fun hHeld => ?_)
 clear hK K
 try simp only [Act.put, List.setIfInBounds_toArray, List.set_cons_zero, List.set_cons_succ]
 refine wpAnyH_ready (rs := [6]) (by kernel_rfl) (by simp) ?_
 refine tkC (fun K hK => ?_) (AllReadyH.nil)
 go_simp
 (go_at_call 12; go_split_ands; (with_reducible refine (HC.out _).mono ?_); rintro e w2 ⟨rfl, hb2⟩)
 go_wp2_with fail
 have hB2 := hB1.trans (hb2.mono hB1.size)
 refine hK.out _ _ (HX.out _ hB2) (fun hHeld => ?_)
 clear hK K
 try simp only [Act.put, List.setIfInBounds_toArray, List.set_cons_zero, List.set_cons_succ]
 refine tkD 7 ?_
 simp only [Act.put, List.setIfInBounds_toArray, List.set_cons_zero, List.set_cons_succ]
 refine tkD 8 ?_
 simp only [Act.put, List.setIfInBounds_toArray, List.set_cons_zero, List.set_cons_succ]
 refine tkD 9 ?_
 simp only [Act.put, List.setIfInBounds_toArray, List.set_cons_zero, List.set_cons_succ]
 refine tkD 10 ?_
 simp only [Act.put, List.setIfInBounds_toArray, List.set_cons_zero, List.set_cons_succ]
 refine tkD 11 ?_
 simp only [Act.put, List.setIfInBounds_toArray, List.set_cons_zero, List.set_cons_succ]
 refine wpAnyH_done (by kernel_rfl) ?_ _
 have hB := hB2
 exact hK _ _ _ _ _ _ _ _ _ _ _ _ _ ⟨rfl, rfl, hB⟩
set_option maxRecDepth 100000 in
set_option maxHeartbeats 8000000 in
theorem goR26 {m : Mv} {f C : Int} {Y : Int × Int × Int} {By Bm : Nat} {W0 : World} {u0 u2 u3 u4 u5 u6 u8 u9 u10 u11 u12 u13 u14 u15 u16 u17 u18 u19 u20 u22 u23 u24 u25 u26 u27 u28 u29 u30 u31 u32 u33 u34 u35 u36 u37 u38 u39 u40 u41 u42 u43 u44 u45 u46 u47 u48 u49 u50 u51 u52 u53 u54 u55 u56 u57 u58 u59 u60 u61 u62 u63 u64 u65 u66 u67 u68 u69 u70 u71 u72 u73 u74 u75 u76 u77 u78 u79 u80 u81 u82 u83 u84 u85 u86 u87 u88 u89 u90 u91 u92 u93 u94 u95 u96 u97 u98 u99 u100 u101 u102 u103 u104 u105 u106 u107 u108 u109 u110 u111 u112 u113 u114 u115 u116 u117 u118 u119 u120 u121 u122 u123 u124 u125 u126 u127 u128 u129 u130 u131 u132 u133 u134 u135 u136 u137 u138 u139 u140 u141 u142 u143 u144 u145 u146 u147 u148 u149 u150 u151 u152 u153 u154 u155 u156 u157 u158 u159 u160 u161 u162 u163 u164 u165 u166 u167 u168 u169 u170 u171 u172 u173 u174 u175 u176 u177 u178 u179 u180 u181 u182 u183 u184 u185 u186 u187 u188 u189 u190 u191 u192 u193 u194 u195 u196 u197 u198 u199 u200 u201 u202 u203 u204 u205 u206 u207 u208 u209 u210 u211 u212 u213 u214 u215 u216 u217 u218 : Value} {R : List Value} {K : Act → World → Prop} {Q0 : Exit → Act → World → Prop}
  (HC : Hid (∀ w : World, Calls Try.prog 12 #[.agg #[.int .i64 Y.1, .int .i64 Y.2.1], .agg #[.int .i64 (max f m.to), .int .i64 1]] w fun e w' => e = .returned (.tuple #[.int .i64 C, .int .i64 0]) ∧ Below w.heap.size w w')) (HX : Hid (∀ w', Below W0.heap.size W0 w' → (fun w' => w'.cell? ⟨By, 0, none⟩ = some (.int .i64 Y.1) ∧ w'.cell? ⟨By, 1, none⟩ = some (.int .i64 Y.2.1) ∧ w'.cell? ⟨Bm, 1, none⟩ = some (.int .i64 m.to)) w'))
  (hK : ∀ (v29 v30 v195 v196 v197 v198 v199 v200 v201 v202 v203 v204 : Value) (wx : World), (v29 = .int .i64 C ∧ v30 = .int .i64 0 ∧ Below W0.heap.size W0 wx) → K ⟨List.toArray (u0 :: .int .i64 f :: u2 :: u3 :: u4 :: u5 :: u6 :: .pointer (some ⟨Bm, 0, none⟩) :: u8 :: u9 :: u10 :: u11 :: u12 :: u13 :: u14 :: u15 :: u16 :: u17 :: u18 :: u19 :: u20 :: .pointer (some ⟨By, 0, none⟩) :: u22 :: u23 :: u24 :: u25 :: u26 :: u27 :: u28 :: v29 :: v30 :: u31 :: u32 :: u33 :: u34 :: u35 :: u36 :: u37 :: u38 :: u39 :: u40 :: u41 :: u42 :: u43 :: u44 :: u45 :: u46 :: u47 :: u48 :: u49 :: u50 :: u51 :: u52 :: u53 :: u54 :: u55 :: u56 :: u57 :: u58 :: u59 :: u60 :: u61 :: u62 :: u63 :: u64 :: u65 :: u66 :: u67 :: u68 :: u69 :: u70 :: u71 :: u72 :: u73 :: u74 :: u75 :: u76 :: u77 :: u78 :: u79 :: u80 :: u81 :: u82 :: u83 :: u84 :: u85 :: u86 :: u87 :: u88 :: u89 :: u90 :: u91 :: u92 :: u93 :: u94 :: u95 :: u96 :: u97 :: u98 :: u99 :: u100 :: u101 :: u102 :: u103 :: u104 :: u105 :: u106 :: u107 :: u108 :: u109 :: u110 :: u111 :: u112 :: u113 :: u114 :: u115 :: u116 :: u117 :: u118 :: u119 :: u120 :: u121 :: u122 :: u123 :: u124 :: u125 :: u126 :: u127 :: u128 :: u129 :: u130 :: u131 :: u132 :: u133 :: u134 :: u135 :: u136 :: u137 :: u138 :: u139 :: u140 :: u141 :: u142 :: u143 :: u144 :: u145 :: u146 :: u147 :: u148 :: u149 :: u150 :: u151 :: u152 :: u153 :: u154 :: u155 :: u156 :: u157 :: u158 :: u159 :: u160 :: u161 :: u162 :: u163 :: u164 :: u165 :: u166 :: u167 :: u168 :: u169 :: u170 :: u171 :: u172 :: u173 :: u174 :: u175 :: u176 :: u177 :: u178 :: u179 :: u180 :: u181 :: u182 :: u183 :: u184 :: u185 :: u186 :: u187 :: u188 :: u189 :: u190 :: u191 :: u192 :: u193 :: u194 :: v195 :: v196 :: v197 :: v198 :: v199 :: v200 :: v201 :: v202 :: v203 :: v204 :: u205 :: u206 :: u207 :: u208 :: u209 :: u210 :: u211 :: u212 :: u213 :: u214 :: u215 :: u216 :: u217 :: u218 :: R), []⟩ wx) :
  Code.wp Try.prog (goCode 26) (Exit.then K Q0) ⟨List.toArray (u0 :: .int .i64 f :: u2 :: u3 :: u4 :: u5 :: u6 :: .pointer (some ⟨Bm, 0, none⟩) :: u8 :: u9 :: u10 :: u11 :: u12 :: u13 :: u14 :: u15 :: u16 :: u17 :: u18 :: u19 :: u20 :: .pointer (some ⟨By, 0, none⟩) :: u22 :: u23 :: u24 :: u25 :: u26 :: u27 :: u28 :: u29 :: u30 :: u31 :: u32 :: u33 :: u34 :: u35 :: u36 :: u37 :: u38 :: u39 :: u40 :: u41 :: u42 :: u43 :: u44 :: u45 :: u46 :: u47 :: u48 :: u49 :: u50 :: u51 :: u52 :: u53 :: u54 :: u55 :: u56 :: u57 :: u58 :: u59 :: u60 :: u61 :: u62 :: u63 :: u64 :: u65 :: u66 :: u67 :: u68 :: u69 :: u70 :: u71 :: u72 :: u73 :: u74 :: u75 :: u76 :: u77 :: u78 :: u79 :: u80 :: u81 :: u82 :: u83 :: u84 :: u85 :: u86 :: u87 :: u88 :: u89 :: u90 :: u91 :: u92 :: u93 :: u94 :: u95 :: u96 :: u97 :: u98 :: u99 :: u100 :: u101 :: u102 :: u103 :: u104 :: u105 :: u106 :: u107 :: u108 :: u109 :: u110 :: u111 :: u112 :: u113 :: u114 :: u115 :: u116 :: u117 :: u118 :: u119 :: u120 :: u121 :: u122 :: u123 :: u124 :: u125 :: u126 :: u127 :: u128 :: u129 :: u130 :: u131 :: u132 :: u133 :: u134 :: u135 :: u136 :: u137 :: u138 :: u139 :: u140 :: u141 :: u142 :: u143 :: u144 :: u145 :: u146 :: u147 :: u148 :: u149 :: u150 :: u151 :: u152 :: u153 :: u154 :: u155 :: u156 :: u157 :: u158 :: u159 :: u160 :: u161 :: u162 :: u163 :: u164 :: u165 :: u166 :: u167 :: u168 :: u169 :: u170 :: u171 :: u172 :: u173 :: u174 :: u175 :: u176 :: u177 :: u178 :: u179 :: u180 :: u181 :: u182 :: u183 :: u184 :: u185 :: u186 :: u187 :: u188 :: u189 :: u190 :: u191 :: u192 :: u193 :: u194 :: u195 :: u196 :: u197 :: u198 :: u199 :: u200 :: u201 :: u202 :: u203 :: u204 :: u205 :: u206 :: u207 :: u208 :: u209 :: u210 :: u211 :: u212 :: u213 :: u214 :: u215 :: u216 :: u217 :: u218 :: R), []⟩ W0 := by
 conv => arg 2; whnf
 refine wp_region_noPanic ?_
 refine wp_region_held_drew (S := fun w' => w'.cell? ⟨By, 0, none⟩ = some (.int .i64 Y.1) ∧ w'.cell? ⟨By, 1, none⟩ = some (.int .i64 Y.2.1) ∧ w'.cell? ⟨Bm, 1, none⟩ = some (.int .i64 m.to)) (by kernel_rfl) (HX.out _ (Below.refl _ _).drew) (fun hHeld => ?_)
 have hB0 := (Below.refl W0.heap.size W0).drew
 obtain ⟨w0, hw0⟩ : ∃ x, W0.drew = x := ⟨_, rfl⟩
 simp only [hw0] at hB0 hHeld ⊢
 clear hw0
 refine tkD 0 ?_
 simp only [Act.put, List.setIfInBounds_toArray, List.set_cons_zero, List.set_cons_succ]
 refine tkD 1 ?_
 simp only [Act.put, List.setIfInBounds_toArray, List.set_cons_zero, List.set_cons_succ]
 refine tkD 2 ?_
 simp only [Act.put, List.setIfInBounds_toArray, List.set_cons_zero, List.set_cons_succ]
 refine tkD 3 ?_
 simp only [Act.put, List.setIfInBounds_toArray, List.set_cons_zero, List.set_cons_succ]
 refine tkD 4 ?_
 simp only [Act.put, List.setIfInBounds_toArray, List.set_cons_zero, List.set_cons_succ]
 refine wpAnyH_ready (rs := [5]) (by kernel_rfl) (by simp) ?_
 refine tkC (fun K hK => ?_) (AllReadyH.nil)
 go_simp
 (go_at_call 11; go_split_ands; (with_reducible refine (lwhole_any (max f m.to) _).mono ?_); rintro e w1 ⟨rfl, hb1⟩)
 go_wp2_with fail
 have hB1 := hB0.trans (hb1.mono hB0.size)
 refine hK.out _ _ (HX.out _ hB1) (fun hHeld => ?_)
 clear hK K
 try simp only [Act.put, List.setIfInBounds_toArray, List.set_cons_zero, List.set_cons_succ]
 refine wpAnyH_ready (rs := [6]) (by kernel_rfl) (by simp) ?_
 refine tkC (fun K hK => ?_) (AllReadyH.nil)
 go_simp
 (go_at_call 12; go_split_ands; (with_reducible refine (HC.out _).mono ?_); rintro e w2 ⟨rfl, hb2⟩)
 go_wp2_with fail
 have hB2 := hB1.trans (hb2.mono hB1.size)
 refine hK.out _ _ (HX.out _ hB2) (fun hHeld => ?_)
 clear hK K
 try simp only [Act.put, List.setIfInBounds_toArray, List.set_cons_zero, List.set_cons_succ]
 refine tkD 7 ?_
 simp only [Act.put, List.setIfInBounds_toArray, List.set_cons_zero, List.set_cons_succ]
 refine tkD 8 ?_
 simp only [Act.put, List.setIfInBounds_toArray, List.set_cons_zero, List.set_cons_succ]
 refine tkD 9 ?_
 simp only [Act.put, List.setIfInBounds_toArray, List.set_cons_zero, List.set_cons_succ]
 refine tkD 10 ?_
 simp only [Act.put, List.setIfInBounds_toArray, List.set_cons_zero, List.set_cons_succ]
 refine tkD 11 ?_
 simp only [Act.put, List.setIfInBounds_toArray, List.set_cons_zero, List.set_cons_succ]
 refine wpAnyH_done (by kernel_rfl) ?_ _
 have hB := hB2
 exact hK _ _ _ _ _ _ _ _ _ _ _ _ _ ⟨rfl, rfl, hB⟩
theorem swap_keep {n : Nat} {w W : World} {Bs Bt : Nat} {s t : Int × Int} (hn : n = w.heap.size) (hB : Below n w W) (fs : FI W Bs s.1 s.2) (ft : FI W Bt t.1 t.2) (ns : n ≤ Bs) (nt : n ≤ Bt) (ne : Bs ≠ Bt) :
  Below n w ((((W.setCell ⟨Bs, 0, none⟩ (.int .i64 t.1)).setCell ⟨Bs, 1, none⟩ (.int .i64 t.2)).setCell ⟨Bt, 0, none⟩ (.int .i64 s.1)).setCell ⟨Bt, 1, none⟩ (.int .i64 s.2)) ∧ FI ((((W.setCell ⟨Bs, 0, none⟩ (.int .i64 t.1)).setCell ⟨Bs, 1, none⟩ (.int .i64 t.2)).setCell ⟨Bt, 0, none⟩ (.int .i64 s.1)).setCell ⟨Bt, 1, none⟩ (.int .i64 s.2)) Bs t.1 t.2 ∧ FI ((((W.setCell ⟨Bs, 0, none⟩ (.int .i64 t.1)).setCell ⟨Bs, 1, none⟩ (.int .i64 t.2)).setCell ⟨Bt, 0, none⟩ (.int .i64 s.1)).setCell ⟨Bt, 1, none⟩ (.int .i64 s.2)) Bt s.1 s.2 := by
 subst hn
 have f1 := fs.set t.1 t.2
 have g1 := ft.other ne.symm (.int .i64 t.1) (.int .i64 t.2)
 have b1 := below_s ⟨Bs, 1, none⟩ (.int .i64 t.2) (below_s ⟨Bs, 0, none⟩ (.int .i64 t.1) hB ns) ns
 generalize (W.setCell ⟨Bs, 0, none⟩ (.int .i64 t.1)).setCell ⟨Bs, 1, none⟩ (.int .i64 t.2) = W1 at *
 exact ⟨below_s _ _ (below_s _ _ b1 nt) nt, f1.other ne (.int .i64 s.1) (.int .i64 s.2), g1.set s.1 s.2⟩
theorem HouseAt.other {w : World} {b B : Nat} {h : HouseR} (x : HouseAt w b h) (ne : b ≠ B) (u v : Value) : HouseAt ((w.setCell ⟨B, 0, none⟩ u).setCell ⟨B, 1, none⟩ v) b h :=
 ⟨(two_other ne _ _ _).trans x.1, (two_other ne _ _ _).trans x.2.1, (two_other ne _ _ _).trans x.2.2.1, (two_other ne _ _ _).trans x.2.2.2⟩
theorem MvAt.other {w : World} {b B : Nat} {m : Mv} (x : MvAt w b m) (ne : b ≠ B) (u v : Value) : MvAt ((w.setCell ⟨B, 0, none⟩ u).setCell ⟨B, 1, none⟩ v) b m :=
 ⟨(two_other ne _ _ _).trans x.1, (two_other ne _ _ _).trans x.2.1, (two_other ne _ _ _).trans x.2.2.1, (two_other ne _ _ _).trans x.2.2.2.1, (two_other ne _ _ _).trans x.2.2.2.2⟩
set_option maxRecDepth 100000 in
set_option maxHeartbeats 32000000 in
theorem lawgoes_law (h : HouseR) (f : Int) (m : Mv) (s u : Int × Int) (w : World) (hh : HouseIn0 w h) :
  Calls Try.prog 3 #[.agg #[.string h.name, .int .i64 h.height, .slice h.sa h.sets.length h.sc, .slice h.ra h.roofs.length h.rc], .int .i64 f, .agg #[.string m.name, .int .i64 m.to, .int .i64 m.spd, .int .i64 m.rise, .int .i64 m.fall], .agg #[.int .i64 s.1, .int .i64 s.2], .agg #[.int .i64 u.1, .int .i64 u.2]] w fun e w' => e = .returned (.bool true) ∧ Below w.heap.size w w' := by
 obtain ⟨b, hb⟩ : ∃ b, fewB h m = b := ⟨_, rfl⟩
 have HFE : Hid (∀ w : World, HouseIn0 w h → Calls Try.prog 8 #[.agg #[.string h.name, .int .i64 h.height, .slice h.sa h.sets.length h.sc, .slice h.ra h.roofs.length h.rc], .agg #[.string m.name, .int .i64 m.to, .int .i64 m.spd, .int .i64 m.rise, .int .i64 m.fall]] w fun e w' => e = .returned (.bool b) ∧ Below w.heap.size w w') := Lib.hid fun w hh => by
  have := few_any h m w hh
  rwa [hb] at this
 cases b
 ·clear hb
  go_enter Try.func3, Try.ntmps3
  go_upto_region 1 with (fail)
  have hat1 := ((((HouseAt.new w h 25).carry (below_new (w.alloc (.cells #[.string h.name, .int .i64 h.height, .slice h.sa h.sets.length h.sc, .slice h.ra h.roofs.length h.rc] 25)) (.cells #[.string m.name, .int .i64 m.to, .int .i64 m.spd, .int .i64 m.rise, .int .i64 m.fall] 27))).carry (below_new ((w.alloc (.cells #[.string h.name, .int .i64 h.height, .slice h.sa h.sets.length h.sc, .slice h.ra h.roofs.length h.rc] 25)).alloc (.cells #[.string m.name, .int .i64 m.to, .int .i64 m.spd, .int .i64 m.rise, .int .i64 m.fall] 27)) (.cells #[.int .i64 s.1, .int .i64 s.2] 29))).carry (below_new (((w.alloc (.cells #[.string h.name, .int .i64 h.height, .slice h.sa h.sets.length h.sc, .slice h.ra h.roofs.length h.rc] 25)).alloc (.cells #[.string m.name, .int .i64 m.to, .int .i64 m.spd, .int .i64 m.rise, .int .i64 m.fall] 27)).alloc (.cells #[.int .i64 s.1, .int .i64 s.2] 29)) (.cells #[.int .i64 u.1, .int .i64 u.2] 29)))
  have mat1 := (((MvAt.new (w.alloc (.cells #[.string h.name, .int .i64 h.height, .slice h.sa h.sets.length h.sc, .slice h.ra h.roofs.length h.rc] 25)) m 27).carry (below_new ((w.alloc (.cells #[.string h.name, .int .i64 h.height, .slice h.sa h.sets.length h.sc, .slice h.ra h.roofs.length h.rc] 25)).alloc (.cells #[.string m.name, .int .i64 m.to, .int .i64 m.spd, .int .i64 m.rise, .int .i64 m.fall] 27)) (.cells #[.int .i64 s.1, .int .i64 s.2] 29))).carry (below_new (((w.alloc (.cells #[.string h.name, .int .i64 h.height, .slice h.sa h.sets.length h.sc, .slice h.ra h.roofs.length h.rc] 25)).alloc (.cells #[.string m.name, .int .i64 m.to, .int .i64 m.spd, .int .i64 m.rise, .int .i64 m.fall] 27)).alloc (.cells #[.int .i64 s.1, .int .i64 s.2] 29)) (.cells #[.int .i64 u.1, .int .i64 u.2] 29)))
  have fat0 := ((FI.put ((w.alloc (.cells #[.string h.name, .int .i64 h.height, .slice h.sa h.sets.length h.sc, .slice h.ra h.roofs.length h.rc] 25)).alloc (.cells #[.string m.name, .int .i64 m.to, .int .i64 m.spd, .int .i64 m.rise, .int .i64 m.fall] 27)) s.1 s.2 29).carry (below_new (((w.alloc (.cells #[.string h.name, .int .i64 h.height, .slice h.sa h.sets.length h.sc, .slice h.ra h.roofs.length h.rc] 25)).alloc (.cells #[.string m.name, .int .i64 m.to, .int .i64 m.spd, .int .i64 m.rise, .int .i64 m.fall] 27)).alloc (.cells #[.int .i64 s.1, .int .i64 s.2] 29)) (.cells #[.int .i64 u.1, .int .i64 u.2] 29)))
  have fat1 := (FI.put (((w.alloc (.cells #[.string h.name, .int .i64 h.height, .slice h.sa h.sets.length h.sc, .slice h.ra h.roofs.length h.rc] 25)).alloc (.cells #[.string m.name, .int .i64 m.to, .int .i64 m.spd, .int .i64 m.rise, .int .i64 m.fall] 27)).alloc (.cells #[.int .i64 s.1, .int .i64 s.2] 29)) u.1 u.2 29)
  have hB := ((((below_new w (.cells #[.string h.name, .int .i64 h.height, .slice h.sa h.sets.length h.sc, .slice h.ra h.roofs.length h.rc] 25)).alloc (by simp) (.cells #[.string m.name, .int .i64 m.to, .int .i64 m.spd, .int .i64 m.rise, .int .i64 m.fall] 27)).alloc (by simp <;> omega) (.cells #[.int .i64 s.1, .int .i64 s.2] 29)).alloc (by simp <;> omega) (.cells #[.int .i64 u.1, .int .i64 u.2] 29))
  have HH := Lib.hid (hh.grow hB)
  have hm1 : (w.alloc (.cells #[.string h.name, .int .i64 h.height, .slice h.sa h.sets.length h.sc, .slice h.ra h.roofs.length h.rc] 25)).heap.size = w.heap.size + 1 := by simp
  rw [hm1] at mat1
  have hm2 : ((w.alloc (.cells #[.string h.name, .int .i64 h.height, .slice h.sa h.sets.length h.sc, .slice h.ra h.roofs.length h.rc] 25)).alloc (.cells #[.string m.name, .int .i64 m.to, .int .i64 m.spd, .int .i64 m.rise, .int .i64 m.fall] 27)).heap.size = w.heap.size + 1 + 1 := by simp
  rw [hm2] at fat0
  have hm3 : (((w.alloc (.cells #[.string h.name, .int .i64 h.height, .slice h.sa h.sets.length h.sc, .slice h.ra h.roofs.length h.rc] 25)).alloc (.cells #[.string m.name, .int .i64 m.to, .int .i64 m.spd, .int .i64 m.rise, .int .i64 m.fall] 27)).alloc (.cells #[.int .i64 s.1, .int .i64 s.2] 29)).heap.size = w.heap.size + 1 + 1 + 1 := by simp
  rw [hm3] at fat1
  clear hm1 hm2 hm3
  generalize ((((w.alloc (.cells #[.string h.name, .int .i64 h.height, .slice h.sa h.sets.length h.sc, .slice h.ra h.roofs.length h.rc] 25)).alloc (.cells #[.string m.name, .int .i64 m.to, .int .i64 m.spd, .int .i64 m.rise, .int .i64 m.fall] 27)).alloc (.cells #[.int .i64 s.1, .int .i64 s.2] 29)).alloc (.cells #[.int .i64 u.1, .int .i64 u.2] 29)) = W0 at *
  have HAT := Lib.hid hat1
  have MAT := Lib.hid mat1
  have SAT := Lib.hid fat0
  have UAT := Lib.hid fat1
  clear hat1 mat1 fat0 fat1
  go_upto_region 3 with (go_at_call 7; (with_reducible refine (awake_any _).mono ?_); rintro e w1 ⟨rfl, hbs⟩)
  replace HAT := Lib.hid (HAT.out.carry hbs)
  replace MAT := Lib.hid (MAT.out.carry hbs)
  replace SAT := Lib.hid (SAT.out.carry hbs)
  replace UAT := Lib.hid (UAT.out.carry hbs)
  replace HH := Lib.hid (HH.out.grow hbs)
  replace hB := hB.trans (hbs.mono hB.size)
  clear hbs
  obtain ⟨k0, k1, k2, k3⟩ := HAT.out
  obtain ⟨m0, m1, m2, m3, m4⟩ := MAT.out
  go_wp2_with (go_at_call 8; (with_reducible refine (HFE.out _ HH.out).mono ?_); rintro e w2 ⟨rfl, hbs⟩)
  go_ret
  exact ⟨rfl, hB.trans (hbs.mono hB.size)⟩
 ·have hh1 := few_in hh hb
  clear hb hh
  obtain ⟨t, ht⟩ := top_some35 h f m
  by_cases e0 : mgE h f m = 0
  ·have g := going e0 ht
   have HG := Lib.hid g
   have HE0 := Lib.hid e0
   obtain ⟨P, hP⟩ : ∃ P, timeP (mgD f m) m t = P := ⟨_, rfl⟩
   have HE1 : Hid (∀ w : World, HouseIn w h → Calls Try.prog 9 #[.agg #[.string h.name, .int .i64 h.height, .slice h.sa h.sets.length h.sc, .slice h.ra h.roofs.length h.rc], .int .i64 f, .agg #[.string m.name, .int .i64 m.to, .int .i64 m.spd, .int .i64 m.rise, .int .i64 m.fall]] w fun e w' => e = .returned (.tuple #[.agg #[.int .i64 P.1, .int .i64 P.2], .int .i64 0]) ∧ Below w.heap.size w w') := Lib.hid fun w hh => by
    have := mend_any h f m t ht w hh
    rwa [HE0.out, show endP h f m t = P by unfold endP; rw [if_pos HE0.out, hP]] at this
   have HA0 : Hid (∀ w : World, HouseIn w h → Calls Try.prog 10 #[.agg #[.string h.name, .int .i64 h.height, .slice h.sa h.sets.length h.sc, .slice h.ra h.roofs.length h.rc], .int .i64 f, .agg #[.string m.name, .int .i64 m.to, .int .i64 m.spd, .int .i64 m.rise, .int .i64 m.fall], .agg #[.int .i64 0, .int .i64 1]] w fun e w' => e = .returned (.tuple #[.agg #[.int .i64 ((f, 1, 0) : Int × Int × Int).1, .int .i64 ((f, 1, 0) : Int × Int × Int).2.1], .int .i64 ((f, 1, 0) : Int × Int × Int).2.2]) ∧ Below w.heap.size w w') := Lib.hid fun w hh => by
    have := mat_any h f m (0, 1) t ht w hh
    rwa [goes_zero HE0.out HG.out] at this
   obtain ⟨B, hBB⟩ : ∃ B, matP h f m P t = B := ⟨_, rfl⟩
   have hBe : B = (m.to, 1, 0) ∨ B.2.2 = 5 := by rw [← hBB, ← hP]; exact goes_end HE0.out HG.out
   have HAB : Hid (∀ w : World, HouseIn w h → Calls Try.prog 10 #[.agg #[.string h.name, .int .i64 h.height, .slice h.sa h.sets.length h.sc, .slice h.ra h.roofs.length h.rc], .int .i64 f, .agg #[.string m.name, .int .i64 m.to, .int .i64 m.spd, .int .i64 m.rise, .int .i64 m.fall], .agg #[.int .i64 P.1, .int .i64 P.2]] w fun e w' => e = .returned (.tuple #[.agg #[.int .i64 B.1, .int .i64 B.2.1], .int .i64 B.2.2]) ∧ Below w.heap.size w w') := Lib.hid fun w hh => by
    have := mat_any h f m P t ht w hh
    rwa [hBB] at this
   have HAX := Lib.hid (fun (x : Int × Int) => mat_any h f m x t ht)
   have r1 : (f == f) = true := by simp
   have r2 : (m.to == m.to) = true := by simp
   have HP := Lib.hid hP
   have HVP : Hid (vF P = true) := Lib.hid (by rw [← hP]; exact time_vF g.gd g.top)
   clear hP hBB e0 g ht
   go_enter Try.func3, Try.ntmps3
   go_upto_region 1 with (fail)
   have hat1 := ((((HouseAt.new w h 25).carry (below_new (w.alloc (.cells #[.string h.name, .int .i64 h.height, .slice h.sa h.sets.length h.sc, .slice h.ra h.roofs.length h.rc] 25)) (.cells #[.string m.name, .int .i64 m.to, .int .i64 m.spd, .int .i64 m.rise, .int .i64 m.fall] 27))).carry (below_new ((w.alloc (.cells #[.string h.name, .int .i64 h.height, .slice h.sa h.sets.length h.sc, .slice h.ra h.roofs.length h.rc] 25)).alloc (.cells #[.string m.name, .int .i64 m.to, .int .i64 m.spd, .int .i64 m.rise, .int .i64 m.fall] 27)) (.cells #[.int .i64 s.1, .int .i64 s.2] 29))).carry (below_new (((w.alloc (.cells #[.string h.name, .int .i64 h.height, .slice h.sa h.sets.length h.sc, .slice h.ra h.roofs.length h.rc] 25)).alloc (.cells #[.string m.name, .int .i64 m.to, .int .i64 m.spd, .int .i64 m.rise, .int .i64 m.fall] 27)).alloc (.cells #[.int .i64 s.1, .int .i64 s.2] 29)) (.cells #[.int .i64 u.1, .int .i64 u.2] 29)))
   have mat1 := (((MvAt.new (w.alloc (.cells #[.string h.name, .int .i64 h.height, .slice h.sa h.sets.length h.sc, .slice h.ra h.roofs.length h.rc] 25)) m 27).carry (below_new ((w.alloc (.cells #[.string h.name, .int .i64 h.height, .slice h.sa h.sets.length h.sc, .slice h.ra h.roofs.length h.rc] 25)).alloc (.cells #[.string m.name, .int .i64 m.to, .int .i64 m.spd, .int .i64 m.rise, .int .i64 m.fall] 27)) (.cells #[.int .i64 s.1, .int .i64 s.2] 29))).carry (below_new (((w.alloc (.cells #[.string h.name, .int .i64 h.height, .slice h.sa h.sets.length h.sc, .slice h.ra h.roofs.length h.rc] 25)).alloc (.cells #[.string m.name, .int .i64 m.to, .int .i64 m.spd, .int .i64 m.rise, .int .i64 m.fall] 27)).alloc (.cells #[.int .i64 s.1, .int .i64 s.2] 29)) (.cells #[.int .i64 u.1, .int .i64 u.2] 29)))
   have fat0 := ((FI.put ((w.alloc (.cells #[.string h.name, .int .i64 h.height, .slice h.sa h.sets.length h.sc, .slice h.ra h.roofs.length h.rc] 25)).alloc (.cells #[.string m.name, .int .i64 m.to, .int .i64 m.spd, .int .i64 m.rise, .int .i64 m.fall] 27)) s.1 s.2 29).carry (below_new (((w.alloc (.cells #[.string h.name, .int .i64 h.height, .slice h.sa h.sets.length h.sc, .slice h.ra h.roofs.length h.rc] 25)).alloc (.cells #[.string m.name, .int .i64 m.to, .int .i64 m.spd, .int .i64 m.rise, .int .i64 m.fall] 27)).alloc (.cells #[.int .i64 s.1, .int .i64 s.2] 29)) (.cells #[.int .i64 u.1, .int .i64 u.2] 29)))
   have fat1 := (FI.put (((w.alloc (.cells #[.string h.name, .int .i64 h.height, .slice h.sa h.sets.length h.sc, .slice h.ra h.roofs.length h.rc] 25)).alloc (.cells #[.string m.name, .int .i64 m.to, .int .i64 m.spd, .int .i64 m.rise, .int .i64 m.fall] 27)).alloc (.cells #[.int .i64 s.1, .int .i64 s.2] 29)) u.1 u.2 29)
   have hB := ((((below_new w (.cells #[.string h.name, .int .i64 h.height, .slice h.sa h.sets.length h.sc, .slice h.ra h.roofs.length h.rc] 25)).alloc (by simp) (.cells #[.string m.name, .int .i64 m.to, .int .i64 m.spd, .int .i64 m.rise, .int .i64 m.fall] 27)).alloc (by simp <;> omega) (.cells #[.int .i64 s.1, .int .i64 s.2] 29)).alloc (by simp <;> omega) (.cells #[.int .i64 u.1, .int .i64 u.2] 29))
   have HH := Lib.hid (hh1.grow hB)
   have hm1 : (w.alloc (.cells #[.string h.name, .int .i64 h.height, .slice h.sa h.sets.length h.sc, .slice h.ra h.roofs.length h.rc] 25)).heap.size = w.heap.size + 1 := by simp
   rw [hm1] at mat1
   have hm2 : ((w.alloc (.cells #[.string h.name, .int .i64 h.height, .slice h.sa h.sets.length h.sc, .slice h.ra h.roofs.length h.rc] 25)).alloc (.cells #[.string m.name, .int .i64 m.to, .int .i64 m.spd, .int .i64 m.rise, .int .i64 m.fall] 27)).heap.size = w.heap.size + 1 + 1 := by simp
   rw [hm2] at fat0
   have hm3 : (((w.alloc (.cells #[.string h.name, .int .i64 h.height, .slice h.sa h.sets.length h.sc, .slice h.ra h.roofs.length h.rc] 25)).alloc (.cells #[.string m.name, .int .i64 m.to, .int .i64 m.spd, .int .i64 m.rise, .int .i64 m.fall] 27)).alloc (.cells #[.int .i64 s.1, .int .i64 s.2] 29)).heap.size = w.heap.size + 1 + 1 + 1 := by simp
   rw [hm3] at fat1
   clear hm1 hm2 hm3
   generalize ((((w.alloc (.cells #[.string h.name, .int .i64 h.height, .slice h.sa h.sets.length h.sc, .slice h.ra h.roofs.length h.rc] 25)).alloc (.cells #[.string m.name, .int .i64 m.to, .int .i64 m.spd, .int .i64 m.rise, .int .i64 m.fall] 27)).alloc (.cells #[.int .i64 s.1, .int .i64 s.2] 29)).alloc (.cells #[.int .i64 u.1, .int .i64 u.2] 29)) = W0 at *
   have HAT := Lib.hid hat1
   have MAT := Lib.hid mat1
   have SAT := Lib.hid fat0
   have UAT := Lib.hid fat1
   clear hat1 mat1 fat0 fat1
   go_upto_region 3 with (go_at_call 7; (with_reducible refine (awake_any _).mono ?_); rintro e w1 ⟨rfl, hbs⟩)
   replace HAT := Lib.hid (HAT.out.carry hbs)
   replace MAT := Lib.hid (MAT.out.carry hbs)
   replace SAT := Lib.hid (SAT.out.carry hbs)
   replace UAT := Lib.hid (UAT.out.carry hbs)
   replace HH := Lib.hid (HH.out.grow hbs)
   replace hB := hB.trans (hbs.mono hB.size)
   clear hbs
   obtain ⟨k0, k1, k2, k3⟩ := HAT.out
   obtain ⟨m0, m1, m2, m3, m4⟩ := MAT.out
   go_upto_region 5 with (go_at_call 8; (with_reducible refine (HFE.out _ HH.out.toHouseIn0).mono ?_); rintro e w2 ⟨rfl, hbs⟩)
   clear k0 k1 k2 k3 m0 m1 m2 m3 m4
   replace HAT := Lib.hid (HAT.out.carry hbs)
   replace MAT := Lib.hid (MAT.out.carry hbs)
   replace SAT := Lib.hid (SAT.out.carry hbs)
   replace UAT := Lib.hid (UAT.out.carry hbs)
   replace HH := Lib.hid (HH.out.grow hbs)
   replace hB := hB.trans (hbs.mono hB.size)
   clear hbs
   obtain ⟨k0, k1, k2, k3⟩ := HAT.out
   obtain ⟨m0, m1, m2, m3, m4⟩ := MAT.out
   go_upto_region 6 with (go_at_call 9; (with_reducible refine (HE1.out _ HH.out).mono ?_); rintro e w3 ⟨rfl, hbs⟩)
   clear k0 k1 k2 k3 m0 m1 m2 m3 m4
   replace HAT := Lib.hid (HAT.out.carry hbs)
   replace MAT := Lib.hid (MAT.out.carry hbs)
   replace SAT := Lib.hid (SAT.out.carry hbs)
   replace UAT := Lib.hid (UAT.out.carry hbs)
   replace HH := Lib.hid (HH.out.grow hbs)
   replace hB := hB.trans (hbs.mono hB.size)
   clear hbs
   have hlBe : w.heap.size + 1 + 1 + 1 < w3.heap.size := World.block_lt_of_cell? _ _ UAT.out.1
   have hbn := below_new w3 (.cells #[.int .i64 (P.1), .int .i64 (P.2)] 29)
   have hF := FI.put w3 (P.1) (P.2) 29
   replace HAT := Lib.hid (HAT.out.carry hbn)
   replace MAT := Lib.hid (MAT.out.carry hbn)
   replace SAT := Lib.hid (SAT.out.carry hbn)
   replace UAT := Lib.hid (UAT.out.carry hbn)
   replace HH := Lib.hid (HH.out.grow hbn)
   replace hB := hB.trans (hbn.mono hB.size)
   clear hbn
   obtain ⟨Be, hBq⟩ : ∃ b, w3.heap.size = b := ⟨_, rfl⟩
   simp only [hBq] at hF hlBe ⊢
   have FP := Lib.hid hF
   clear hF
   generalize w3.alloc (.cells #[.int .i64 (P.1), .int .i64 (P.2)] 29) = W3 at *
   clear hBq
   go_upto_region 8 with (fail)
   have HX : Hid (∀ w', Below W3.heap.size W3 w' → w'.cell? ⟨w.heap.size, 0, none⟩ = some (.string h.name) ∧ w'.cell? ⟨w.heap.size, 1, none⟩ = some (.int .i64 h.height) ∧ w'.cell? ⟨w.heap.size, 2, none⟩ = some (.slice h.sa h.sets.length h.sc) ∧ w'.cell? ⟨w.heap.size, 3, none⟩ = some (.slice h.ra h.roofs.length h.rc) ∧ w'.cell? ⟨(w.heap.size + 1), 0, none⟩ = some (.string m.name) ∧ w'.cell? ⟨(w.heap.size + 1), 1, none⟩ = some (.int .i64 m.to) ∧ w'.cell? ⟨(w.heap.size + 1), 2, none⟩ = some (.int .i64 m.spd) ∧ w'.cell? ⟨(w.heap.size + 1), 3, none⟩ = some (.int .i64 m.rise) ∧ w'.cell? ⟨(w.heap.size + 1), 4, none⟩ = some (.int .i64 m.fall)) := Lib.hid fun w' hb => by
    obtain ⟨k0, k1, k2, k3⟩ := HAT.out.carry hb
    obtain ⟨m0, m1, m2, m3, m4⟩ := MAT.out.carry hb
    exact ⟨k0, k1, k2, k3, m0, m1, m2, m3, m4⟩
   refine goR8 (A := (f, 1, 0)) HA0 HH HX ?_
   intro v13 v14 v49 v50 v51 v52 v53 v54 v55 v56 W4 hcut
   obtain ⟨Ba, rfl, rfl, _, hbs, FX⟩ := hcut
   clear HX HA0
   replace HAT := Lib.hid (HAT.out.carry hbs)
   replace MAT := Lib.hid (MAT.out.carry hbs)
   replace SAT := Lib.hid (SAT.out.carry hbs)
   replace UAT := Lib.hid (UAT.out.carry hbs)
   replace HH := Lib.hid (HH.out.grow hbs)
   replace FP := Lib.hid (FP.out.carry hbs)
   replace hB := hB.trans (hbs.mono hB.size)
   clear hbs
   have FA := Lib.hid (show FI W4 Ba f 1 from FX)
   clear FX
   obtain ⟨k0, k1, k2, k3⟩ := HAT.out
   obtain ⟨m0, m1, m2, m3, m4⟩ := MAT.out
   obtain ⟨p0, p1, _, _, _⟩ := FP.out
   go_upto_region 10 with (go_at_call 10; (with_reducible refine (HAB.out _ HH.out).mono ?_); rintro e w5 ⟨rfl, hbs⟩)
   clear k0 k1 k2 k3 m0 m1 m2 m3 m4 p0 p1
   replace HAT := Lib.hid (HAT.out.carry hbs)
   replace MAT := Lib.hid (MAT.out.carry hbs)
   replace SAT := Lib.hid (SAT.out.carry hbs)
   replace UAT := Lib.hid (UAT.out.carry hbs)
   replace HH := Lib.hid (HH.out.grow hbs)
   replace FP := Lib.hid (FP.out.carry hbs)
   replace FA := Lib.hid (FA.out.carry hbs)
   replace hB := hB.trans (hbs.mono hB.size)
   clear hbs
   have hbn := below_new w5 (.cells #[.int .i64 (B.1), .int .i64 (B.2.1)] 29)
   have hF := FI.put w5 (B.1) (B.2.1) 29
   replace HAT := Lib.hid (HAT.out.carry hbn)
   replace MAT := Lib.hid (MAT.out.carry hbn)
   replace SAT := Lib.hid (SAT.out.carry hbn)
   replace UAT := Lib.hid (UAT.out.carry hbn)
   replace HH := Lib.hid (HH.out.grow hbn)
   replace FP := Lib.hid (FP.out.carry hbn)
   replace FA := Lib.hid (FA.out.carry hbn)
   replace hB := hB.trans (hbn.mono hB.size)
   clear hbn
   obtain ⟨Bb, hBq⟩ : ∃ b, w5.heap.size = b := ⟨_, rfl⟩
   simp only [hBq] at hF ⊢
   have FB := Lib.hid hF
   clear hF
   generalize w5.alloc (.cells #[.int .i64 (B.1), .int .i64 (B.2.1)] 29) = W5 at *
   clear hBq
   rcases hBe with rfl | be
   ·have HS : Hid (∀ w', Below W5.heap.size W5 w' → w'.cell? ⟨Ba, 0, none⟩ = some (.int .i64 f) ∧ w'.cell? ⟨Ba, 1, none⟩ = some (.int .i64 1) ∧ w'.cell? ⟨Bb, 0, none⟩ = some (.int .i64 m.to) ∧ w'.cell? ⟨Bb, 1, none⟩ = some (.int .i64 1) ∧ w'.cell? ⟨w.heap.size + 1, 1, none⟩ = some (.int .i64 m.to)) := Lib.hid fun w' hb => by
     obtain ⟨x0, x1, _⟩ := FA.out.carry hb
     obtain ⟨b0, b1, _⟩ := FB.out.carry hb
     obtain ⟨_, m1, _⟩ := MAT.out.carry hb
     exact ⟨x0, x1, b0, b1, m1⟩
    refine goR10a r1 r2 HS ?_
    intro v65 v66 v67 v68 v69 v70 v71 v72 v73 v74 v75 v76 v77 v78 v79 v80 v81 v82 v83 v84 v85 v86 v87 v88 v89 v90 v91 W6 hcut
    obtain ⟨rfl, hbs⟩ := hcut
    clear HS
    replace HAT := Lib.hid (HAT.out.carry hbs)
    replace MAT := Lib.hid (MAT.out.carry hbs)
    replace SAT := Lib.hid (SAT.out.carry hbs)
    replace UAT := Lib.hid (UAT.out.carry hbs)
    replace HH := Lib.hid (HH.out.grow hbs)
    replace FP := Lib.hid (FP.out.carry hbs)
    replace FA := Lib.hid (FA.out.carry hbs)
    replace FB := Lib.hid (FB.out.carry hbs)
    replace hB := hB.trans (hbs.mono hB.size)
    clear hbs
    clear FA FB
    obtain ⟨C, hC⟩ : ∃ C, cmpG s u = C := ⟨_, rfl⟩
    have HCM : Hid (∀ w : World, Calls Try.prog 12 #[.agg #[.int .i64 s.1, .int .i64 s.2], .agg #[.int .i64 u.1, .int .i64 u.2]] w fun e w' => e = .returned (.tuple #[.int .i64 C.1, .int .i64 C.2]) ∧ Below w.heap.size w w') := Lib.hid fun w => by
     have := cmp_gen s u w
     rwa [hC] at this
    obtain ⟨s0, s1, _, _, _⟩ := SAT.out
    obtain ⟨t0, t1, _, _, _⟩ := UAT.out
    go_upto_region 13 with (go_at_call 12; (with_reducible refine (HCM.out _).mono ?_); rintro e w6 ⟨rfl, hbs⟩)
    clear s0 s1 t0 t1
    replace HAT := Lib.hid (HAT.out.carry hbs)
    replace MAT := Lib.hid (MAT.out.carry hbs)
    replace SAT := Lib.hid (SAT.out.carry hbs)
    replace UAT := Lib.hid (UAT.out.carry hbs)
    replace HH := Lib.hid (HH.out.grow hbs)
    replace FP := Lib.hid (FP.out.carry hbs)
    replace hB := hB.trans (hbs.mono hB.size)
    clear hbs
    by_cases ce : C.2 = 0
    ·obtain ⟨vs, vu, hc⟩ := cmpG_valid (by rw [hC]; exact ce)
     rw [hC] at hc
     simp only [hc]
     clear hc ce HCM hC
     obtain ⟨c, hc⟩ : ∃ c, cmpP (s.1 * u.2) (u.1 * s.2) = c := ⟨_, rfl⟩
     simp only [hc]
     by_cases cs : 0 < c
     ·have p2 := decide_eq_true cs
      have vS := vu
      have vT := vs
      have hle : u.1 * s.2 ≤ s.1 * u.2 := cmp_nle (by omega)
      clear vs vu hc cs
      obtain ⟨s0, s1, _, _, _⟩ := SAT.out
      obtain ⟨t0, t1, _, _, _⟩ := UAT.out
      have sl : w.heap.size + 1 + 1 < w6.heap.size := World.block_lt_of_cell? _ _ s0
      have ul : w.heap.size + 1 + 1 + 1 < w6.heap.size := World.block_lt_of_cell? _ _ t0
      go_upto_region 17 with (fail)
      clear s0 s1 t0 t1
      obtain ⟨hB7, FS7, FU7⟩ := swap_keep (n := w.heap.size) rfl hB SAT.out UAT.out (by omega) (by omega) (by omega)
      have HA7 := (HAT.out.other (B := w.heap.size + 1 + 1) (by omega) (.int .i64 u.1) (.int .i64 u.2)).other (B := w.heap.size + 1 + 1 + 1) (by omega) (.int .i64 s.1) (.int .i64 s.2)
      have HM7 := (MAT.out.other (B := w.heap.size + 1 + 1) (by omega) (.int .i64 u.1) (.int .i64 u.2)).other (B := w.heap.size + 1 + 1 + 1) (by omega) (.int .i64 s.1) (.int .i64 s.2)
      have HP7 := (FP.out.other (B := w.heap.size + 1 + 1) (by omega) (.int .i64 u.1) (.int .i64 u.2)).other (B := w.heap.size + 1 + 1 + 1) (by omega) (.int .i64 s.1) (.int .i64 s.2)
      clear hB SAT UAT HAT MAT FP HH sl ul
      generalize (((w6.setCell ⟨w.heap.size + 1 + 1, 0, none⟩ (.int .i64 u.1)).setCell ⟨w.heap.size + 1 + 1, 1, none⟩ (.int .i64 u.2)).setCell ⟨w.heap.size + 1 + 1 + 1, 0, none⟩ (.int .i64 s.1)).setCell ⟨w.heap.size + 1 + 1 + 1, 1, none⟩ (.int .i64 s.2) = V6 at *
      have hB := hB7
      have SAT := Lib.hid FS7
      have UAT := Lib.hid FU7
      have HAT := Lib.hid HA7
      have MAT := Lib.hid HM7
      have FP := Lib.hid HP7
      have HH := Lib.hid (hh1.grow hB7)
      clear hB7 FS7 FU7 HA7 HM7 HP7
      obtain ⟨X, hX⟩ : ∃ X, matP h f m u t = X := ⟨_, rfl⟩
      obtain ⟨Y, hY⟩ : ∃ Y, matP h f m s t = Y := ⟨_, rfl⟩
      have hpair := goes_pair HE0.out HG.out vS vT hle
      rw [hX, hY, HP.out] at hpair
      have HX : Hid (∀ w : World, HouseIn w h → Calls Try.prog 10 #[.agg #[.string h.name, .int .i64 h.height, .slice h.sa h.sets.length h.sc, .slice h.ra h.roofs.length h.rc], .int .i64 f, .agg #[.string m.name, .int .i64 m.to, .int .i64 m.spd, .int .i64 m.rise, .int .i64 m.fall], .agg #[.int .i64 u.1, .int .i64 u.2]] w fun e w' => e = .returned (.tuple #[.agg #[.int .i64 X.1, .int .i64 X.2.1], .int .i64 X.2.2]) ∧ Below w.heap.size w w') := Lib.hid fun w hh => by
       have := HAX.out u w hh
       rwa [hX] at this
      have HY : Hid (∀ w : World, HouseIn w h → Calls Try.prog 10 #[.agg #[.string h.name, .int .i64 h.height, .slice h.sa h.sets.length h.sc, .slice h.ra h.roofs.length h.rc], .int .i64 f, .agg #[.string m.name, .int .i64 m.to, .int .i64 m.spd, .int .i64 m.rise, .int .i64 m.fall], .agg #[.int .i64 s.1, .int .i64 s.2]] w fun e w' => e = .returned (.tuple #[.agg #[.int .i64 Y.1, .int .i64 Y.2.1], .int .i64 Y.2.2]) ∧ Below w.heap.size w w') := Lib.hid fun w hh => by
       have := HAX.out s w hh
       rwa [hY] at this
      have HVT := Lib.hid vT
      clear hX hY vS vT hle
      obtain ⟨k0, k1, k2, k3⟩ := HAT.out
      obtain ⟨m0, m1, m2, m3, m4⟩ := MAT.out
      obtain ⟨s0, s1, _, _, _⟩ := SAT.out
      go_upto_region 18 with (go_at_call 10; (with_reducible refine (HX.out _ HH.out).mono ?_); rintro e w7 ⟨rfl, hbs⟩)
      clear k0 k1 k2 k3 m0 m1 m2 m3 m4 s0 s1
      replace HAT := Lib.hid (HAT.out.carry hbs)
      replace MAT := Lib.hid (MAT.out.carry hbs)
      replace SAT := Lib.hid (SAT.out.carry hbs)
      replace UAT := Lib.hid (UAT.out.carry hbs)
      replace HH := Lib.hid (HH.out.grow hbs)
      replace FP := Lib.hid (FP.out.carry hbs)
      replace hB := hB.trans (hbs.mono hB.size)
      clear hbs
      have hbn := below_new w7 (.cells #[.int .i64 (X.1), .int .i64 (X.2.1)] 29)
      have hF := FI.put w7 (X.1) (X.2.1) 29
      replace HAT := Lib.hid (HAT.out.carry hbn)
      replace MAT := Lib.hid (MAT.out.carry hbn)
      replace SAT := Lib.hid (SAT.out.carry hbn)
      replace UAT := Lib.hid (UAT.out.carry hbn)
      replace HH := Lib.hid (HH.out.grow hbn)
      replace FP := Lib.hid (FP.out.carry hbn)
      replace hB := hB.trans (hbn.mono hB.size)
      clear hbn
      obtain ⟨Bx, hBq⟩ : ∃ b, w7.heap.size = b := ⟨_, rfl⟩
      simp only [hBq] at hF ⊢
      have FX := Lib.hid hF
      clear hF
      generalize w7.alloc (.cells #[.int .i64 (X.1), .int .i64 (X.2.1)] 29) = W7 at *
      clear hBq
      obtain ⟨k0, k1, k2, k3⟩ := HAT.out
      obtain ⟨m0, m1, m2, m3, m4⟩ := MAT.out
      obtain ⟨t0, t1, _, _, _⟩ := UAT.out
      go_upto_region 19 with (go_at_call 10; (with_reducible refine (HY.out _ HH.out).mono ?_); rintro e w8 ⟨rfl, hbs⟩)
      clear k0 k1 k2 k3 m0 m1 m2 m3 m4 t0 t1
      replace HAT := Lib.hid (HAT.out.carry hbs)
      replace MAT := Lib.hid (MAT.out.carry hbs)
      replace SAT := Lib.hid (SAT.out.carry hbs)
      replace UAT := Lib.hid (UAT.out.carry hbs)
      replace HH := Lib.hid (HH.out.grow hbs)
      replace FP := Lib.hid (FP.out.carry hbs)
      replace FX := Lib.hid (FX.out.carry hbs)
      replace hB := hB.trans (hbs.mono hB.size)
      clear hbs
      have hbn := below_new w8 (.cells #[.int .i64 (Y.1), .int .i64 (Y.2.1)] 29)
      have hF := FI.put w8 (Y.1) (Y.2.1) 29
      replace HAT := Lib.hid (HAT.out.carry hbn)
      replace MAT := Lib.hid (MAT.out.carry hbn)
      replace SAT := Lib.hid (SAT.out.carry hbn)
      replace UAT := Lib.hid (UAT.out.carry hbn)
      replace HH := Lib.hid (HH.out.grow hbn)
      replace FP := Lib.hid (FP.out.carry hbn)
      replace FX := Lib.hid (FX.out.carry hbn)
      replace hB := hB.trans (hbn.mono hB.size)
      clear hbn
      obtain ⟨By, hBq⟩ : ∃ b, w8.heap.size = b := ⟨_, rfl⟩
      simp only [hBq] at hF ⊢
      have FY := Lib.hid hF
      clear hF
      generalize w8.alloc (.cells #[.int .i64 (Y.1), .int .i64 (Y.2.1)] 29) = W8 at *
      clear hBq
      rcases hpair with xe | xe | ⟨xe, ye⟩ | ⟨xe, ye, hok⟩
      ·simp only [xe]
       clear xe
       go_wp2_with fail
       go_ret
       exact ⟨rfl, hB⟩
      ·simp only [xe]
       clear xe
       go_wp2_with fail
       go_ret
       exact ⟨rfl, hB⟩
      ·simp only [xe, ye]
       clear xe ye
       go_wp2_with fail
       go_ret
       exact ⟨rfl, hB⟩
      ·simp only [xe, ye]
       clear xe ye
       obtain ⟨d, hd⟩ : ∃ d, cmpP (X.1 * Y.2.1) (Y.1 * X.2.1) = d := ⟨_, rfl⟩
       obtain ⟨o, ho⟩ : ∃ o, cmpP (s.1 * P.2) (P.1 * s.2) = o := ⟨_, rfl⟩
       have HC1 : Hid (∀ w : World, Calls Try.prog 12 #[.agg #[.int .i64 X.1, .int .i64 X.2.1], .agg #[.int .i64 Y.1, .int .i64 Y.2.1]] w fun e w' => e = .returned (.tuple #[.int .i64 d, .int .i64 0]) ∧ Below w.heap.size w w') := Lib.hid fun w => by
        have := cmp_gen (X.1, X.2.1) (Y.1, Y.2.1) w
        rwa [cmpG_ok (a := (X.1, X.2.1)) (b := (Y.1, Y.2.1)) hok.vX hok.vY, hd] at this
       have HC2 : Hid (∀ w : World, Calls Try.prog 12 #[.agg #[.int .i64 s.1, .int .i64 s.2], .agg #[.int .i64 P.1, .int .i64 P.2]] w fun e w' => e = .returned (.tuple #[.int .i64 o, .int .i64 0]) ∧ Below w.heap.size w w') := Lib.hid fun w => by
        have := cmp_gen s P w
        rwa [cmpG_ok HVT.out HVP.out, ho] at this
       have HC3 : Hid (∃ C, decide (0 ≤ C) = true ∧ ∀ w : World, Calls Try.prog 12 #[.agg #[.int .i64 Y.1, .int .i64 Y.2.1], .agg #[.int .i64 (min f m.to), .int .i64 1]] w fun e w' => e = .returned (.tuple #[.int .i64 C, .int .i64 0]) ∧ Below w.heap.size w w') := Lib.hid ⟨cmpP (Y.1 * 1) (min f m.to * Y.2.1), hok.lo, fun w => by
        have := cmp_gen (Y.1, Y.2.1) (min f m.to, 1) w
        rwa [cmpG_ok (a := (Y.1, Y.2.1)) (b := (min f m.to, 1)) hok.vY (valid_one (by have := HG.out.f0; have := HG.out.t0; omega) (by have := HG.out.f0; have := HG.out.t0; omega))] at this⟩
       have HC4 : Hid (∃ C, decide (C ≤ 0) = true ∧ ∀ w : World, Calls Try.prog 12 #[.agg #[.int .i64 Y.1, .int .i64 Y.2.1], .agg #[.int .i64 (max f m.to), .int .i64 1]] w fun e w' => e = .returned (.tuple #[.int .i64 C, .int .i64 0]) ∧ Below w.heap.size w w') := Lib.hid ⟨cmpP (Y.1 * 1) (max f m.to * Y.2.1), hok.hi, fun w => by
        have := cmp_gen (Y.1, Y.2.1) (max f m.to, 1) w
        rwa [cmpG_ok (a := (Y.1, Y.2.1)) (b := (max f m.to, 1)) hok.vY (valid_one (by have := HG.out.f0; have := HG.out.t0; omega) (by have := HG.out.f0; have := HG.out.t0; omega))] at this⟩
       have hu := hok.up
       have hdn := hok.down
       have hlt := hok.late
       rw [hd] at hu hdn
       rw [ho] at hlt
       clear hd ho hok
       obtain ⟨x0, x1, _, _, _⟩ := FX.out
       obtain ⟨y0, y1, _, _, _⟩ := FY.out
       go_upto_region 22 with (go_at_call 12; (with_reducible refine (HC1.out _).mono ?_); rintro e w9 ⟨rfl, hbs⟩)
       clear x0 x1 y0 y1
       replace HAT := Lib.hid (HAT.out.carry hbs)
       replace MAT := Lib.hid (MAT.out.carry hbs)
       replace SAT := Lib.hid (SAT.out.carry hbs)
       replace UAT := Lib.hid (UAT.out.carry hbs)
       replace HH := Lib.hid (HH.out.grow hbs)
       replace FP := Lib.hid (FP.out.carry hbs)
       replace FX := Lib.hid (FX.out.carry hbs)
       replace FY := Lib.hid (FY.out.carry hbs)
       replace hB := hB.trans (hbs.mono hB.size)
       clear hbs
       obtain ⟨t0, t1, _, _, _⟩ := UAT.out
       obtain ⟨p0, p1, _, _, _⟩ := FP.out
       go_upto_region 23 with (go_at_call 12; (with_reducible refine (HC2.out _).mono ?_); rintro e w10 ⟨rfl, hbs⟩)
       clear t0 t1 p0 p1
       replace HAT := Lib.hid (HAT.out.carry hbs)
       replace MAT := Lib.hid (MAT.out.carry hbs)
       replace SAT := Lib.hid (SAT.out.carry hbs)
       replace UAT := Lib.hid (UAT.out.carry hbs)
       replace HH := Lib.hid (HH.out.grow hbs)
       replace FP := Lib.hid (FP.out.carry hbs)
       replace FX := Lib.hid (FX.out.carry hbs)
       replace FY := Lib.hid (FY.out.carry hbs)
       replace hB := hB.trans (hbs.mono hB.size)
       clear hbs
       by_cases ol : 0 ≤ o
       ·have hdo : decide (0 ≤ o) = true := decide_eq_true ol
        obtain rfl := hlt ol
        clear ol hlt
        have HS : Hid (∀ w', Below w10.heap.size w10 w' → w'.cell? ⟨By, 0, none⟩ = some (.int .i64 m.to) ∧ w'.cell? ⟨By, 1, none⟩ = some (.int .i64 1) ∧ w'.cell? ⟨w.heap.size + 1, 1, none⟩ = some (.int .i64 m.to)) := Lib.hid fun w' hb => by
         obtain ⟨y0, y1, _⟩ := FY.out.carry hb
         obtain ⟨_, m1, _⟩ := MAT.out.carry hb
         exact ⟨y0, y1, m1⟩
        refine goR23a hu hdn hdo r2 HS ?_
        intro v148 v149 v150 v151 v152 v153 v154 v155 v156 v157 v158 v159 v160 v161 v162 v163 v164 v165 v166 v167 v168 v169 v170 v171 v172 v173 v174 v175 v176 v177 v178 v179 v180 v181 v182 v183 v184 W11 hcut
        obtain ⟨rfl, hbs⟩ := hcut
        clear HS hdo hu hdn
        replace HAT := Lib.hid (HAT.out.carry hbs)
        replace MAT := Lib.hid (MAT.out.carry hbs)
        replace SAT := Lib.hid (SAT.out.carry hbs)
        replace UAT := Lib.hid (UAT.out.carry hbs)
        replace HH := Lib.hid (HH.out.grow hbs)
        replace FP := Lib.hid (FP.out.carry hbs)
        replace FX := Lib.hid (FX.out.carry hbs)
        replace FY := Lib.hid (FY.out.carry hbs)
        replace hB := hB.trans (hbs.mono hB.size)
        clear hbs
        obtain ⟨C3, g3, HC3⟩ := HC3.out
        obtain ⟨C4, g4, HC4⟩ := HC4.out
        have HC3 := Lib.hid HC3
        have HC4 := Lib.hid HC4
        go_upto_region 25 with (fail)
        have HS : Hid (∀ w', Below W11.heap.size W11 w' → w'.cell? ⟨By, 0, none⟩ = some (.int .i64 m.to) ∧ w'.cell? ⟨By, 1, none⟩ = some (.int .i64 1) ∧ w'.cell? ⟨w.heap.size + 1, 1, none⟩ = some (.int .i64 m.to)) := Lib.hid fun w' hb => by
         obtain ⟨y0, y1, _⟩ := FY.out.carry hb
         obtain ⟨_, m1, _⟩ := MAT.out.carry hb
         exact ⟨y0, y1, m1⟩
        refine goR25 (Y := (m.to, 1, 0)) HC3 HS ?_
        intro v27 v28 v185 v186 v187 v188 v189 v190 v191 v192 v193 v194 W12 hcut
        obtain ⟨rfl, rfl, hbs⟩ := hcut
        clear HS
        replace HAT := Lib.hid (HAT.out.carry hbs)
        replace MAT := Lib.hid (MAT.out.carry hbs)
        replace SAT := Lib.hid (SAT.out.carry hbs)
        replace UAT := Lib.hid (UAT.out.carry hbs)
        replace HH := Lib.hid (HH.out.grow hbs)
        replace FP := Lib.hid (FP.out.carry hbs)
        replace FX := Lib.hid (FX.out.carry hbs)
        replace FY := Lib.hid (FY.out.carry hbs)
        replace hB := hB.trans (hbs.mono hB.size)
        clear hbs
        go_upto_region 26 with (fail)
        have HS : Hid (∀ w', Below W12.heap.size W12 w' → w'.cell? ⟨By, 0, none⟩ = some (.int .i64 m.to) ∧ w'.cell? ⟨By, 1, none⟩ = some (.int .i64 1) ∧ w'.cell? ⟨w.heap.size + 1, 1, none⟩ = some (.int .i64 m.to)) := Lib.hid fun w' hb => by
         obtain ⟨y0, y1, _⟩ := FY.out.carry hb
         obtain ⟨_, m1, _⟩ := MAT.out.carry hb
         exact ⟨y0, y1, m1⟩
        refine goR26 (Y := (m.to, 1, 0)) HC4 HS ?_
        intro v29 v30 v195 v196 v197 v198 v199 v200 v201 v202 v203 v204 W13 hcut
        obtain ⟨rfl, rfl, hbs⟩ := hcut
        clear HS
        replace HAT := Lib.hid (HAT.out.carry hbs)
        replace MAT := Lib.hid (MAT.out.carry hbs)
        replace SAT := Lib.hid (SAT.out.carry hbs)
        replace UAT := Lib.hid (UAT.out.carry hbs)
        replace HH := Lib.hid (HH.out.grow hbs)
        replace FP := Lib.hid (FP.out.carry hbs)
        replace FX := Lib.hid (FX.out.carry hbs)
        replace FY := Lib.hid (FY.out.carry hbs)
        replace hB := hB.trans (hbs.mono hB.size)
        clear hbs
        go_wp2_with fail
        go_ret
        exact ⟨rfl, hB⟩
       ·have hdo : decide (0 ≤ o) = false := decide_eq_false ol
        clear ol hlt
        have HS : Hid (∀ w', Below w10.heap.size w10 w' → w'.cell? ⟨w.heap.size + 1, 1, none⟩ = some (.int .i64 m.to)) := Lib.hid fun w' hb => by
         obtain ⟨y0, y1, _⟩ := FY.out.carry hb
         obtain ⟨_, m1, _⟩ := MAT.out.carry hb
         exact m1
        refine goR23b hu hdn hdo HS ?_
        intro v148 v149 v150 v151 v152 v153 v154 v155 v156 v157 v158 v159 v160 v161 v162 v163 v164 v165 v166 v167 v168 v169 v170 v171 v172 v173 v174 v175 v176 v177 v178 v179 v180 v181 v182 v183 v184 W11 hcut
        obtain ⟨rfl, hbs⟩ := hcut
        clear HS hdo hu hdn
        replace HAT := Lib.hid (HAT.out.carry hbs)
        replace MAT := Lib.hid (MAT.out.carry hbs)
        replace SAT := Lib.hid (SAT.out.carry hbs)
        replace UAT := Lib.hid (UAT.out.carry hbs)
        replace HH := Lib.hid (HH.out.grow hbs)
        replace FP := Lib.hid (FP.out.carry hbs)
        replace FX := Lib.hid (FX.out.carry hbs)
        replace FY := Lib.hid (FY.out.carry hbs)
        replace hB := hB.trans (hbs.mono hB.size)
        clear hbs
        obtain ⟨C3, g3, HC3⟩ := HC3.out
        obtain ⟨C4, g4, HC4⟩ := HC4.out
        have HC3 := Lib.hid HC3
        have HC4 := Lib.hid HC4
        go_upto_region 25 with (fail)
        have HS : Hid (∀ w', Below W11.heap.size W11 w' → w'.cell? ⟨By, 0, none⟩ = some (.int .i64 Y.1) ∧ w'.cell? ⟨By, 1, none⟩ = some (.int .i64 Y.2.1) ∧ w'.cell? ⟨w.heap.size + 1, 1, none⟩ = some (.int .i64 m.to)) := Lib.hid fun w' hb => by
         obtain ⟨y0, y1, _⟩ := FY.out.carry hb
         obtain ⟨_, m1, _⟩ := MAT.out.carry hb
         exact ⟨y0, y1, m1⟩
        refine goR25 (Y := Y) HC3 HS ?_
        intro v27 v28 v185 v186 v187 v188 v189 v190 v191 v192 v193 v194 W12 hcut
        obtain ⟨rfl, rfl, hbs⟩ := hcut
        clear HS
        replace HAT := Lib.hid (HAT.out.carry hbs)
        replace MAT := Lib.hid (MAT.out.carry hbs)
        replace SAT := Lib.hid (SAT.out.carry hbs)
        replace UAT := Lib.hid (UAT.out.carry hbs)
        replace HH := Lib.hid (HH.out.grow hbs)
        replace FP := Lib.hid (FP.out.carry hbs)
        replace FX := Lib.hid (FX.out.carry hbs)
        replace FY := Lib.hid (FY.out.carry hbs)
        replace hB := hB.trans (hbs.mono hB.size)
        clear hbs
        go_upto_region 26 with (fail)
        have HS : Hid (∀ w', Below W12.heap.size W12 w' → w'.cell? ⟨By, 0, none⟩ = some (.int .i64 Y.1) ∧ w'.cell? ⟨By, 1, none⟩ = some (.int .i64 Y.2.1) ∧ w'.cell? ⟨w.heap.size + 1, 1, none⟩ = some (.int .i64 m.to)) := Lib.hid fun w' hb => by
         obtain ⟨y0, y1, _⟩ := FY.out.carry hb
         obtain ⟨_, m1, _⟩ := MAT.out.carry hb
         exact ⟨y0, y1, m1⟩
        refine goR26 (Y := Y) HC4 HS ?_
        intro v29 v30 v195 v196 v197 v198 v199 v200 v201 v202 v203 v204 W13 hcut
        obtain ⟨rfl, rfl, hbs⟩ := hcut
        clear HS
        replace HAT := Lib.hid (HAT.out.carry hbs)
        replace MAT := Lib.hid (MAT.out.carry hbs)
        replace SAT := Lib.hid (SAT.out.carry hbs)
        replace UAT := Lib.hid (UAT.out.carry hbs)
        replace HH := Lib.hid (HH.out.grow hbs)
        replace FP := Lib.hid (FP.out.carry hbs)
        replace FX := Lib.hid (FX.out.carry hbs)
        replace FY := Lib.hid (FY.out.carry hbs)
        replace hB := hB.trans (hbs.mono hB.size)
        clear hbs
        go_wp2_with fail
        go_ret
        exact ⟨rfl, hB⟩
     ·have p2 := decide_eq_false cs
      have vS := vs
      have vT := vu
      have hle : s.1 * u.2 ≤ u.1 * s.2 := cmp_nge (by omega)
      clear vs vu hc cs
      go_upto_region 17 with (fail)
      obtain ⟨X, hX⟩ : ∃ X, matP h f m s t = X := ⟨_, rfl⟩
      obtain ⟨Y, hY⟩ : ∃ Y, matP h f m u t = Y := ⟨_, rfl⟩
      have hpair := goes_pair HE0.out HG.out vS vT hle
      rw [hX, hY, HP.out] at hpair
      have HX : Hid (∀ w : World, HouseIn w h → Calls Try.prog 10 #[.agg #[.string h.name, .int .i64 h.height, .slice h.sa h.sets.length h.sc, .slice h.ra h.roofs.length h.rc], .int .i64 f, .agg #[.string m.name, .int .i64 m.to, .int .i64 m.spd, .int .i64 m.rise, .int .i64 m.fall], .agg #[.int .i64 s.1, .int .i64 s.2]] w fun e w' => e = .returned (.tuple #[.agg #[.int .i64 X.1, .int .i64 X.2.1], .int .i64 X.2.2]) ∧ Below w.heap.size w w') := Lib.hid fun w hh => by
       have := HAX.out s w hh
       rwa [hX] at this
      have HY : Hid (∀ w : World, HouseIn w h → Calls Try.prog 10 #[.agg #[.string h.name, .int .i64 h.height, .slice h.sa h.sets.length h.sc, .slice h.ra h.roofs.length h.rc], .int .i64 f, .agg #[.string m.name, .int .i64 m.to, .int .i64 m.spd, .int .i64 m.rise, .int .i64 m.fall], .agg #[.int .i64 u.1, .int .i64 u.2]] w fun e w' => e = .returned (.tuple #[.agg #[.int .i64 Y.1, .int .i64 Y.2.1], .int .i64 Y.2.2]) ∧ Below w.heap.size w w') := Lib.hid fun w hh => by
       have := HAX.out u w hh
       rwa [hY] at this
      have HVT := Lib.hid vT
      clear hX hY vS vT hle
      obtain ⟨k0, k1, k2, k3⟩ := HAT.out
      obtain ⟨m0, m1, m2, m3, m4⟩ := MAT.out
      obtain ⟨s0, s1, _, _, _⟩ := SAT.out
      go_upto_region 18 with (go_at_call 10; (with_reducible refine (HX.out _ HH.out).mono ?_); rintro e w7 ⟨rfl, hbs⟩)
      clear k0 k1 k2 k3 m0 m1 m2 m3 m4 s0 s1
      replace HAT := Lib.hid (HAT.out.carry hbs)
      replace MAT := Lib.hid (MAT.out.carry hbs)
      replace SAT := Lib.hid (SAT.out.carry hbs)
      replace UAT := Lib.hid (UAT.out.carry hbs)
      replace HH := Lib.hid (HH.out.grow hbs)
      replace FP := Lib.hid (FP.out.carry hbs)
      replace hB := hB.trans (hbs.mono hB.size)
      clear hbs
      have hbn := below_new w7 (.cells #[.int .i64 (X.1), .int .i64 (X.2.1)] 29)
      have hF := FI.put w7 (X.1) (X.2.1) 29
      replace HAT := Lib.hid (HAT.out.carry hbn)
      replace MAT := Lib.hid (MAT.out.carry hbn)
      replace SAT := Lib.hid (SAT.out.carry hbn)
      replace UAT := Lib.hid (UAT.out.carry hbn)
      replace HH := Lib.hid (HH.out.grow hbn)
      replace FP := Lib.hid (FP.out.carry hbn)
      replace hB := hB.trans (hbn.mono hB.size)
      clear hbn
      obtain ⟨Bx, hBq⟩ : ∃ b, w7.heap.size = b := ⟨_, rfl⟩
      simp only [hBq] at hF ⊢
      have FX := Lib.hid hF
      clear hF
      generalize w7.alloc (.cells #[.int .i64 (X.1), .int .i64 (X.2.1)] 29) = W7 at *
      clear hBq
      obtain ⟨k0, k1, k2, k3⟩ := HAT.out
      obtain ⟨m0, m1, m2, m3, m4⟩ := MAT.out
      obtain ⟨t0, t1, _, _, _⟩ := UAT.out
      go_upto_region 19 with (go_at_call 10; (with_reducible refine (HY.out _ HH.out).mono ?_); rintro e w8 ⟨rfl, hbs⟩)
      clear k0 k1 k2 k3 m0 m1 m2 m3 m4 t0 t1
      replace HAT := Lib.hid (HAT.out.carry hbs)
      replace MAT := Lib.hid (MAT.out.carry hbs)
      replace SAT := Lib.hid (SAT.out.carry hbs)
      replace UAT := Lib.hid (UAT.out.carry hbs)
      replace HH := Lib.hid (HH.out.grow hbs)
      replace FP := Lib.hid (FP.out.carry hbs)
      replace FX := Lib.hid (FX.out.carry hbs)
      replace hB := hB.trans (hbs.mono hB.size)
      clear hbs
      have hbn := below_new w8 (.cells #[.int .i64 (Y.1), .int .i64 (Y.2.1)] 29)
      have hF := FI.put w8 (Y.1) (Y.2.1) 29
      replace HAT := Lib.hid (HAT.out.carry hbn)
      replace MAT := Lib.hid (MAT.out.carry hbn)
      replace SAT := Lib.hid (SAT.out.carry hbn)
      replace UAT := Lib.hid (UAT.out.carry hbn)
      replace HH := Lib.hid (HH.out.grow hbn)
      replace FP := Lib.hid (FP.out.carry hbn)
      replace FX := Lib.hid (FX.out.carry hbn)
      replace hB := hB.trans (hbn.mono hB.size)
      clear hbn
      obtain ⟨By, hBq⟩ : ∃ b, w8.heap.size = b := ⟨_, rfl⟩
      simp only [hBq] at hF ⊢
      have FY := Lib.hid hF
      clear hF
      generalize w8.alloc (.cells #[.int .i64 (Y.1), .int .i64 (Y.2.1)] 29) = W8 at *
      clear hBq
      rcases hpair with xe | xe | ⟨xe, ye⟩ | ⟨xe, ye, hok⟩
      ·simp only [xe]
       clear xe
       go_wp2_with fail
       go_ret
       exact ⟨rfl, hB⟩
      ·simp only [xe]
       clear xe
       go_wp2_with fail
       go_ret
       exact ⟨rfl, hB⟩
      ·simp only [xe, ye]
       clear xe ye
       go_wp2_with fail
       go_ret
       exact ⟨rfl, hB⟩
      ·simp only [xe, ye]
       clear xe ye
       obtain ⟨d, hd⟩ : ∃ d, cmpP (X.1 * Y.2.1) (Y.1 * X.2.1) = d := ⟨_, rfl⟩
       obtain ⟨o, ho⟩ : ∃ o, cmpP (u.1 * P.2) (P.1 * u.2) = o := ⟨_, rfl⟩
       have HC1 : Hid (∀ w : World, Calls Try.prog 12 #[.agg #[.int .i64 X.1, .int .i64 X.2.1], .agg #[.int .i64 Y.1, .int .i64 Y.2.1]] w fun e w' => e = .returned (.tuple #[.int .i64 d, .int .i64 0]) ∧ Below w.heap.size w w') := Lib.hid fun w => by
        have := cmp_gen (X.1, X.2.1) (Y.1, Y.2.1) w
        rwa [cmpG_ok (a := (X.1, X.2.1)) (b := (Y.1, Y.2.1)) hok.vX hok.vY, hd] at this
       have HC2 : Hid (∀ w : World, Calls Try.prog 12 #[.agg #[.int .i64 u.1, .int .i64 u.2], .agg #[.int .i64 P.1, .int .i64 P.2]] w fun e w' => e = .returned (.tuple #[.int .i64 o, .int .i64 0]) ∧ Below w.heap.size w w') := Lib.hid fun w => by
        have := cmp_gen u P w
        rwa [cmpG_ok HVT.out HVP.out, ho] at this
       have HC3 : Hid (∃ C, decide (0 ≤ C) = true ∧ ∀ w : World, Calls Try.prog 12 #[.agg #[.int .i64 Y.1, .int .i64 Y.2.1], .agg #[.int .i64 (min f m.to), .int .i64 1]] w fun e w' => e = .returned (.tuple #[.int .i64 C, .int .i64 0]) ∧ Below w.heap.size w w') := Lib.hid ⟨cmpP (Y.1 * 1) (min f m.to * Y.2.1), hok.lo, fun w => by
        have := cmp_gen (Y.1, Y.2.1) (min f m.to, 1) w
        rwa [cmpG_ok (a := (Y.1, Y.2.1)) (b := (min f m.to, 1)) hok.vY (valid_one (by have := HG.out.f0; have := HG.out.t0; omega) (by have := HG.out.f0; have := HG.out.t0; omega))] at this⟩
       have HC4 : Hid (∃ C, decide (C ≤ 0) = true ∧ ∀ w : World, Calls Try.prog 12 #[.agg #[.int .i64 Y.1, .int .i64 Y.2.1], .agg #[.int .i64 (max f m.to), .int .i64 1]] w fun e w' => e = .returned (.tuple #[.int .i64 C, .int .i64 0]) ∧ Below w.heap.size w w') := Lib.hid ⟨cmpP (Y.1 * 1) (max f m.to * Y.2.1), hok.hi, fun w => by
        have := cmp_gen (Y.1, Y.2.1) (max f m.to, 1) w
        rwa [cmpG_ok (a := (Y.1, Y.2.1)) (b := (max f m.to, 1)) hok.vY (valid_one (by have := HG.out.f0; have := HG.out.t0; omega) (by have := HG.out.f0; have := HG.out.t0; omega))] at this⟩
       have hu := hok.up
       have hdn := hok.down
       have hlt := hok.late
       rw [hd] at hu hdn
       rw [ho] at hlt
       clear hd ho hok
       obtain ⟨x0, x1, _, _, _⟩ := FX.out
       obtain ⟨y0, y1, _, _, _⟩ := FY.out
       go_upto_region 22 with (go_at_call 12; (with_reducible refine (HC1.out _).mono ?_); rintro e w9 ⟨rfl, hbs⟩)
       clear x0 x1 y0 y1
       replace HAT := Lib.hid (HAT.out.carry hbs)
       replace MAT := Lib.hid (MAT.out.carry hbs)
       replace SAT := Lib.hid (SAT.out.carry hbs)
       replace UAT := Lib.hid (UAT.out.carry hbs)
       replace HH := Lib.hid (HH.out.grow hbs)
       replace FP := Lib.hid (FP.out.carry hbs)
       replace FX := Lib.hid (FX.out.carry hbs)
       replace FY := Lib.hid (FY.out.carry hbs)
       replace hB := hB.trans (hbs.mono hB.size)
       clear hbs
       obtain ⟨t0, t1, _, _, _⟩ := UAT.out
       obtain ⟨p0, p1, _, _, _⟩ := FP.out
       go_upto_region 23 with (go_at_call 12; (with_reducible refine (HC2.out _).mono ?_); rintro e w10 ⟨rfl, hbs⟩)
       clear t0 t1 p0 p1
       replace HAT := Lib.hid (HAT.out.carry hbs)
       replace MAT := Lib.hid (MAT.out.carry hbs)
       replace SAT := Lib.hid (SAT.out.carry hbs)
       replace UAT := Lib.hid (UAT.out.carry hbs)
       replace HH := Lib.hid (HH.out.grow hbs)
       replace FP := Lib.hid (FP.out.carry hbs)
       replace FX := Lib.hid (FX.out.carry hbs)
       replace FY := Lib.hid (FY.out.carry hbs)
       replace hB := hB.trans (hbs.mono hB.size)
       clear hbs
       by_cases ol : 0 ≤ o
       ·have hdo : decide (0 ≤ o) = true := decide_eq_true ol
        obtain rfl := hlt ol
        clear ol hlt
        have HS : Hid (∀ w', Below w10.heap.size w10 w' → w'.cell? ⟨By, 0, none⟩ = some (.int .i64 m.to) ∧ w'.cell? ⟨By, 1, none⟩ = some (.int .i64 1) ∧ w'.cell? ⟨w.heap.size + 1, 1, none⟩ = some (.int .i64 m.to)) := Lib.hid fun w' hb => by
         obtain ⟨y0, y1, _⟩ := FY.out.carry hb
         obtain ⟨_, m1, _⟩ := MAT.out.carry hb
         exact ⟨y0, y1, m1⟩
        refine goR23a hu hdn hdo r2 HS ?_
        intro v148 v149 v150 v151 v152 v153 v154 v155 v156 v157 v158 v159 v160 v161 v162 v163 v164 v165 v166 v167 v168 v169 v170 v171 v172 v173 v174 v175 v176 v177 v178 v179 v180 v181 v182 v183 v184 W11 hcut
        obtain ⟨rfl, hbs⟩ := hcut
        clear HS hdo hu hdn
        replace HAT := Lib.hid (HAT.out.carry hbs)
        replace MAT := Lib.hid (MAT.out.carry hbs)
        replace SAT := Lib.hid (SAT.out.carry hbs)
        replace UAT := Lib.hid (UAT.out.carry hbs)
        replace HH := Lib.hid (HH.out.grow hbs)
        replace FP := Lib.hid (FP.out.carry hbs)
        replace FX := Lib.hid (FX.out.carry hbs)
        replace FY := Lib.hid (FY.out.carry hbs)
        replace hB := hB.trans (hbs.mono hB.size)
        clear hbs
        obtain ⟨C3, g3, HC3⟩ := HC3.out
        obtain ⟨C4, g4, HC4⟩ := HC4.out
        have HC3 := Lib.hid HC3
        have HC4 := Lib.hid HC4
        go_upto_region 25 with (fail)
        have HS : Hid (∀ w', Below W11.heap.size W11 w' → w'.cell? ⟨By, 0, none⟩ = some (.int .i64 m.to) ∧ w'.cell? ⟨By, 1, none⟩ = some (.int .i64 1) ∧ w'.cell? ⟨w.heap.size + 1, 1, none⟩ = some (.int .i64 m.to)) := Lib.hid fun w' hb => by
         obtain ⟨y0, y1, _⟩ := FY.out.carry hb
         obtain ⟨_, m1, _⟩ := MAT.out.carry hb
         exact ⟨y0, y1, m1⟩
        refine goR25 (Y := (m.to, 1, 0)) HC3 HS ?_
        intro v27 v28 v185 v186 v187 v188 v189 v190 v191 v192 v193 v194 W12 hcut
        obtain ⟨rfl, rfl, hbs⟩ := hcut
        clear HS
        replace HAT := Lib.hid (HAT.out.carry hbs)
        replace MAT := Lib.hid (MAT.out.carry hbs)
        replace SAT := Lib.hid (SAT.out.carry hbs)
        replace UAT := Lib.hid (UAT.out.carry hbs)
        replace HH := Lib.hid (HH.out.grow hbs)
        replace FP := Lib.hid (FP.out.carry hbs)
        replace FX := Lib.hid (FX.out.carry hbs)
        replace FY := Lib.hid (FY.out.carry hbs)
        replace hB := hB.trans (hbs.mono hB.size)
        clear hbs
        go_upto_region 26 with (fail)
        have HS : Hid (∀ w', Below W12.heap.size W12 w' → w'.cell? ⟨By, 0, none⟩ = some (.int .i64 m.to) ∧ w'.cell? ⟨By, 1, none⟩ = some (.int .i64 1) ∧ w'.cell? ⟨w.heap.size + 1, 1, none⟩ = some (.int .i64 m.to)) := Lib.hid fun w' hb => by
         obtain ⟨y0, y1, _⟩ := FY.out.carry hb
         obtain ⟨_, m1, _⟩ := MAT.out.carry hb
         exact ⟨y0, y1, m1⟩
        refine goR26 (Y := (m.to, 1, 0)) HC4 HS ?_
        intro v29 v30 v195 v196 v197 v198 v199 v200 v201 v202 v203 v204 W13 hcut
        obtain ⟨rfl, rfl, hbs⟩ := hcut
        clear HS
        replace HAT := Lib.hid (HAT.out.carry hbs)
        replace MAT := Lib.hid (MAT.out.carry hbs)
        replace SAT := Lib.hid (SAT.out.carry hbs)
        replace UAT := Lib.hid (UAT.out.carry hbs)
        replace HH := Lib.hid (HH.out.grow hbs)
        replace FP := Lib.hid (FP.out.carry hbs)
        replace FX := Lib.hid (FX.out.carry hbs)
        replace FY := Lib.hid (FY.out.carry hbs)
        replace hB := hB.trans (hbs.mono hB.size)
        clear hbs
        go_wp2_with fail
        go_ret
        exact ⟨rfl, hB⟩
       ·have hdo : decide (0 ≤ o) = false := decide_eq_false ol
        clear ol hlt
        have HS : Hid (∀ w', Below w10.heap.size w10 w' → w'.cell? ⟨w.heap.size + 1, 1, none⟩ = some (.int .i64 m.to)) := Lib.hid fun w' hb => by
         obtain ⟨y0, y1, _⟩ := FY.out.carry hb
         obtain ⟨_, m1, _⟩ := MAT.out.carry hb
         exact m1
        refine goR23b hu hdn hdo HS ?_
        intro v148 v149 v150 v151 v152 v153 v154 v155 v156 v157 v158 v159 v160 v161 v162 v163 v164 v165 v166 v167 v168 v169 v170 v171 v172 v173 v174 v175 v176 v177 v178 v179 v180 v181 v182 v183 v184 W11 hcut
        obtain ⟨rfl, hbs⟩ := hcut
        clear HS hdo hu hdn
        replace HAT := Lib.hid (HAT.out.carry hbs)
        replace MAT := Lib.hid (MAT.out.carry hbs)
        replace SAT := Lib.hid (SAT.out.carry hbs)
        replace UAT := Lib.hid (UAT.out.carry hbs)
        replace HH := Lib.hid (HH.out.grow hbs)
        replace FP := Lib.hid (FP.out.carry hbs)
        replace FX := Lib.hid (FX.out.carry hbs)
        replace FY := Lib.hid (FY.out.carry hbs)
        replace hB := hB.trans (hbs.mono hB.size)
        clear hbs
        obtain ⟨C3, g3, HC3⟩ := HC3.out
        obtain ⟨C4, g4, HC4⟩ := HC4.out
        have HC3 := Lib.hid HC3
        have HC4 := Lib.hid HC4
        go_upto_region 25 with (fail)
        have HS : Hid (∀ w', Below W11.heap.size W11 w' → w'.cell? ⟨By, 0, none⟩ = some (.int .i64 Y.1) ∧ w'.cell? ⟨By, 1, none⟩ = some (.int .i64 Y.2.1) ∧ w'.cell? ⟨w.heap.size + 1, 1, none⟩ = some (.int .i64 m.to)) := Lib.hid fun w' hb => by
         obtain ⟨y0, y1, _⟩ := FY.out.carry hb
         obtain ⟨_, m1, _⟩ := MAT.out.carry hb
         exact ⟨y0, y1, m1⟩
        refine goR25 (Y := Y) HC3 HS ?_
        intro v27 v28 v185 v186 v187 v188 v189 v190 v191 v192 v193 v194 W12 hcut
        obtain ⟨rfl, rfl, hbs⟩ := hcut
        clear HS
        replace HAT := Lib.hid (HAT.out.carry hbs)
        replace MAT := Lib.hid (MAT.out.carry hbs)
        replace SAT := Lib.hid (SAT.out.carry hbs)
        replace UAT := Lib.hid (UAT.out.carry hbs)
        replace HH := Lib.hid (HH.out.grow hbs)
        replace FP := Lib.hid (FP.out.carry hbs)
        replace FX := Lib.hid (FX.out.carry hbs)
        replace FY := Lib.hid (FY.out.carry hbs)
        replace hB := hB.trans (hbs.mono hB.size)
        clear hbs
        go_upto_region 26 with (fail)
        have HS : Hid (∀ w', Below W12.heap.size W12 w' → w'.cell? ⟨By, 0, none⟩ = some (.int .i64 Y.1) ∧ w'.cell? ⟨By, 1, none⟩ = some (.int .i64 Y.2.1) ∧ w'.cell? ⟨w.heap.size + 1, 1, none⟩ = some (.int .i64 m.to)) := Lib.hid fun w' hb => by
         obtain ⟨y0, y1, _⟩ := FY.out.carry hb
         obtain ⟨_, m1, _⟩ := MAT.out.carry hb
         exact ⟨y0, y1, m1⟩
        refine goR26 (Y := Y) HC4 HS ?_
        intro v29 v30 v195 v196 v197 v198 v199 v200 v201 v202 v203 v204 W13 hcut
        obtain ⟨rfl, rfl, hbs⟩ := hcut
        clear HS
        replace HAT := Lib.hid (HAT.out.carry hbs)
        replace MAT := Lib.hid (MAT.out.carry hbs)
        replace SAT := Lib.hid (SAT.out.carry hbs)
        replace UAT := Lib.hid (UAT.out.carry hbs)
        replace HH := Lib.hid (HH.out.grow hbs)
        replace FP := Lib.hid (FP.out.carry hbs)
        replace FX := Lib.hid (FX.out.carry hbs)
        replace FY := Lib.hid (FY.out.carry hbs)
        replace hB := hB.trans (hbs.mono hB.size)
        clear hbs
        go_wp2_with fail
        go_ret
        exact ⟨rfl, hB⟩
    ·have p1 : (C.2 != 0) = true := by simpa using ce
     clear ce HCM hC
     go_wp2_with fail
     go_ret
     exact ⟨rfl, hB⟩
   ·simp only [be]
    clear be
    have HS : Hid (∀ w', Below W5.heap.size W5 w' → w'.cell? ⟨Ba, 0, none⟩ = some (.int .i64 f) ∧ w'.cell? ⟨Ba, 1, none⟩ = some (.int .i64 1) ∧ w'.cell? ⟨w.heap.size + 1, 1, none⟩ = some (.int .i64 m.to)) := Lib.hid fun w' hb => by
     obtain ⟨x0, x1, _⟩ := FA.out.carry hb
     obtain ⟨_, m1, _⟩ := MAT.out.carry hb
     exact ⟨x0, x1, m1⟩
    refine goR10b r1 HS ?_
    intro v65 v66 v67 v68 v69 v70 v71 v72 v73 v74 v75 v76 v77 v78 v79 v80 v81 v82 v83 v84 v85 v86 v87 v88 v89 v90 v91 W6 hcut
    obtain ⟨rfl, hbs⟩ := hcut
    clear HS
    replace HAT := Lib.hid (HAT.out.carry hbs)
    replace MAT := Lib.hid (MAT.out.carry hbs)
    replace SAT := Lib.hid (SAT.out.carry hbs)
    replace UAT := Lib.hid (UAT.out.carry hbs)
    replace HH := Lib.hid (HH.out.grow hbs)
    replace FP := Lib.hid (FP.out.carry hbs)
    replace FA := Lib.hid (FA.out.carry hbs)
    replace FB := Lib.hid (FB.out.carry hbs)
    replace hB := hB.trans (hbs.mono hB.size)
    clear hbs
    clear FA FB
    obtain ⟨C, hC⟩ : ∃ C, cmpG s u = C := ⟨_, rfl⟩
    have HCM : Hid (∀ w : World, Calls Try.prog 12 #[.agg #[.int .i64 s.1, .int .i64 s.2], .agg #[.int .i64 u.1, .int .i64 u.2]] w fun e w' => e = .returned (.tuple #[.int .i64 C.1, .int .i64 C.2]) ∧ Below w.heap.size w w') := Lib.hid fun w => by
     have := cmp_gen s u w
     rwa [hC] at this
    obtain ⟨s0, s1, _, _, _⟩ := SAT.out
    obtain ⟨t0, t1, _, _, _⟩ := UAT.out
    go_upto_region 13 with (go_at_call 12; (with_reducible refine (HCM.out _).mono ?_); rintro e w6 ⟨rfl, hbs⟩)
    clear s0 s1 t0 t1
    replace HAT := Lib.hid (HAT.out.carry hbs)
    replace MAT := Lib.hid (MAT.out.carry hbs)
    replace SAT := Lib.hid (SAT.out.carry hbs)
    replace UAT := Lib.hid (UAT.out.carry hbs)
    replace HH := Lib.hid (HH.out.grow hbs)
    replace FP := Lib.hid (FP.out.carry hbs)
    replace hB := hB.trans (hbs.mono hB.size)
    clear hbs
    by_cases ce : C.2 = 0
    ·obtain ⟨vs, vu, hc⟩ := cmpG_valid (by rw [hC]; exact ce)
     rw [hC] at hc
     simp only [hc]
     clear hc ce HCM hC
     obtain ⟨c, hc⟩ : ∃ c, cmpP (s.1 * u.2) (u.1 * s.2) = c := ⟨_, rfl⟩
     simp only [hc]
     by_cases cs : 0 < c
     ·have p2 := decide_eq_true cs
      have vS := vu
      have vT := vs
      have hle : u.1 * s.2 ≤ s.1 * u.2 := cmp_nle (by omega)
      clear vs vu hc cs
      obtain ⟨s0, s1, _, _, _⟩ := SAT.out
      obtain ⟨t0, t1, _, _, _⟩ := UAT.out
      have sl : w.heap.size + 1 + 1 < w6.heap.size := World.block_lt_of_cell? _ _ s0
      have ul : w.heap.size + 1 + 1 + 1 < w6.heap.size := World.block_lt_of_cell? _ _ t0
      go_upto_region 17 with (fail)
      clear s0 s1 t0 t1
      obtain ⟨hB7, FS7, FU7⟩ := swap_keep (n := w.heap.size) rfl hB SAT.out UAT.out (by omega) (by omega) (by omega)
      have HA7 := (HAT.out.other (B := w.heap.size + 1 + 1) (by omega) (.int .i64 u.1) (.int .i64 u.2)).other (B := w.heap.size + 1 + 1 + 1) (by omega) (.int .i64 s.1) (.int .i64 s.2)
      have HM7 := (MAT.out.other (B := w.heap.size + 1 + 1) (by omega) (.int .i64 u.1) (.int .i64 u.2)).other (B := w.heap.size + 1 + 1 + 1) (by omega) (.int .i64 s.1) (.int .i64 s.2)
      have HP7 := (FP.out.other (B := w.heap.size + 1 + 1) (by omega) (.int .i64 u.1) (.int .i64 u.2)).other (B := w.heap.size + 1 + 1 + 1) (by omega) (.int .i64 s.1) (.int .i64 s.2)
      clear hB SAT UAT HAT MAT FP HH sl ul
      generalize (((w6.setCell ⟨w.heap.size + 1 + 1, 0, none⟩ (.int .i64 u.1)).setCell ⟨w.heap.size + 1 + 1, 1, none⟩ (.int .i64 u.2)).setCell ⟨w.heap.size + 1 + 1 + 1, 0, none⟩ (.int .i64 s.1)).setCell ⟨w.heap.size + 1 + 1 + 1, 1, none⟩ (.int .i64 s.2) = V6 at *
      have hB := hB7
      have SAT := Lib.hid FS7
      have UAT := Lib.hid FU7
      have HAT := Lib.hid HA7
      have MAT := Lib.hid HM7
      have FP := Lib.hid HP7
      have HH := Lib.hid (hh1.grow hB7)
      clear hB7 FS7 FU7 HA7 HM7 HP7
      obtain ⟨X, hX⟩ : ∃ X, matP h f m u t = X := ⟨_, rfl⟩
      obtain ⟨Y, hY⟩ : ∃ Y, matP h f m s t = Y := ⟨_, rfl⟩
      have hpair := goes_pair HE0.out HG.out vS vT hle
      rw [hX, hY, HP.out] at hpair
      have HX : Hid (∀ w : World, HouseIn w h → Calls Try.prog 10 #[.agg #[.string h.name, .int .i64 h.height, .slice h.sa h.sets.length h.sc, .slice h.ra h.roofs.length h.rc], .int .i64 f, .agg #[.string m.name, .int .i64 m.to, .int .i64 m.spd, .int .i64 m.rise, .int .i64 m.fall], .agg #[.int .i64 u.1, .int .i64 u.2]] w fun e w' => e = .returned (.tuple #[.agg #[.int .i64 X.1, .int .i64 X.2.1], .int .i64 X.2.2]) ∧ Below w.heap.size w w') := Lib.hid fun w hh => by
       have := HAX.out u w hh
       rwa [hX] at this
      have HY : Hid (∀ w : World, HouseIn w h → Calls Try.prog 10 #[.agg #[.string h.name, .int .i64 h.height, .slice h.sa h.sets.length h.sc, .slice h.ra h.roofs.length h.rc], .int .i64 f, .agg #[.string m.name, .int .i64 m.to, .int .i64 m.spd, .int .i64 m.rise, .int .i64 m.fall], .agg #[.int .i64 s.1, .int .i64 s.2]] w fun e w' => e = .returned (.tuple #[.agg #[.int .i64 Y.1, .int .i64 Y.2.1], .int .i64 Y.2.2]) ∧ Below w.heap.size w w') := Lib.hid fun w hh => by
       have := HAX.out s w hh
       rwa [hY] at this
      have HVT := Lib.hid vT
      clear hX hY vS vT hle
      obtain ⟨k0, k1, k2, k3⟩ := HAT.out
      obtain ⟨m0, m1, m2, m3, m4⟩ := MAT.out
      obtain ⟨s0, s1, _, _, _⟩ := SAT.out
      go_upto_region 18 with (go_at_call 10; (with_reducible refine (HX.out _ HH.out).mono ?_); rintro e w7 ⟨rfl, hbs⟩)
      clear k0 k1 k2 k3 m0 m1 m2 m3 m4 s0 s1
      replace HAT := Lib.hid (HAT.out.carry hbs)
      replace MAT := Lib.hid (MAT.out.carry hbs)
      replace SAT := Lib.hid (SAT.out.carry hbs)
      replace UAT := Lib.hid (UAT.out.carry hbs)
      replace HH := Lib.hid (HH.out.grow hbs)
      replace FP := Lib.hid (FP.out.carry hbs)
      replace hB := hB.trans (hbs.mono hB.size)
      clear hbs
      have hbn := below_new w7 (.cells #[.int .i64 (X.1), .int .i64 (X.2.1)] 29)
      have hF := FI.put w7 (X.1) (X.2.1) 29
      replace HAT := Lib.hid (HAT.out.carry hbn)
      replace MAT := Lib.hid (MAT.out.carry hbn)
      replace SAT := Lib.hid (SAT.out.carry hbn)
      replace UAT := Lib.hid (UAT.out.carry hbn)
      replace HH := Lib.hid (HH.out.grow hbn)
      replace FP := Lib.hid (FP.out.carry hbn)
      replace hB := hB.trans (hbn.mono hB.size)
      clear hbn
      obtain ⟨Bx, hBq⟩ : ∃ b, w7.heap.size = b := ⟨_, rfl⟩
      simp only [hBq] at hF ⊢
      have FX := Lib.hid hF
      clear hF
      generalize w7.alloc (.cells #[.int .i64 (X.1), .int .i64 (X.2.1)] 29) = W7 at *
      clear hBq
      obtain ⟨k0, k1, k2, k3⟩ := HAT.out
      obtain ⟨m0, m1, m2, m3, m4⟩ := MAT.out
      obtain ⟨t0, t1, _, _, _⟩ := UAT.out
      go_upto_region 19 with (go_at_call 10; (with_reducible refine (HY.out _ HH.out).mono ?_); rintro e w8 ⟨rfl, hbs⟩)
      clear k0 k1 k2 k3 m0 m1 m2 m3 m4 t0 t1
      replace HAT := Lib.hid (HAT.out.carry hbs)
      replace MAT := Lib.hid (MAT.out.carry hbs)
      replace SAT := Lib.hid (SAT.out.carry hbs)
      replace UAT := Lib.hid (UAT.out.carry hbs)
      replace HH := Lib.hid (HH.out.grow hbs)
      replace FP := Lib.hid (FP.out.carry hbs)
      replace FX := Lib.hid (FX.out.carry hbs)
      replace hB := hB.trans (hbs.mono hB.size)
      clear hbs
      have hbn := below_new w8 (.cells #[.int .i64 (Y.1), .int .i64 (Y.2.1)] 29)
      have hF := FI.put w8 (Y.1) (Y.2.1) 29
      replace HAT := Lib.hid (HAT.out.carry hbn)
      replace MAT := Lib.hid (MAT.out.carry hbn)
      replace SAT := Lib.hid (SAT.out.carry hbn)
      replace UAT := Lib.hid (UAT.out.carry hbn)
      replace HH := Lib.hid (HH.out.grow hbn)
      replace FP := Lib.hid (FP.out.carry hbn)
      replace FX := Lib.hid (FX.out.carry hbn)
      replace hB := hB.trans (hbn.mono hB.size)
      clear hbn
      obtain ⟨By, hBq⟩ : ∃ b, w8.heap.size = b := ⟨_, rfl⟩
      simp only [hBq] at hF ⊢
      have FY := Lib.hid hF
      clear hF
      generalize w8.alloc (.cells #[.int .i64 (Y.1), .int .i64 (Y.2.1)] 29) = W8 at *
      clear hBq
      rcases hpair with xe | xe | ⟨xe, ye⟩ | ⟨xe, ye, hok⟩
      ·simp only [xe]
       clear xe
       go_wp2_with fail
       go_ret
       exact ⟨rfl, hB⟩
      ·simp only [xe]
       clear xe
       go_wp2_with fail
       go_ret
       exact ⟨rfl, hB⟩
      ·simp only [xe, ye]
       clear xe ye
       go_wp2_with fail
       go_ret
       exact ⟨rfl, hB⟩
      ·simp only [xe, ye]
       clear xe ye
       obtain ⟨d, hd⟩ : ∃ d, cmpP (X.1 * Y.2.1) (Y.1 * X.2.1) = d := ⟨_, rfl⟩
       obtain ⟨o, ho⟩ : ∃ o, cmpP (s.1 * P.2) (P.1 * s.2) = o := ⟨_, rfl⟩
       have HC1 : Hid (∀ w : World, Calls Try.prog 12 #[.agg #[.int .i64 X.1, .int .i64 X.2.1], .agg #[.int .i64 Y.1, .int .i64 Y.2.1]] w fun e w' => e = .returned (.tuple #[.int .i64 d, .int .i64 0]) ∧ Below w.heap.size w w') := Lib.hid fun w => by
        have := cmp_gen (X.1, X.2.1) (Y.1, Y.2.1) w
        rwa [cmpG_ok (a := (X.1, X.2.1)) (b := (Y.1, Y.2.1)) hok.vX hok.vY, hd] at this
       have HC2 : Hid (∀ w : World, Calls Try.prog 12 #[.agg #[.int .i64 s.1, .int .i64 s.2], .agg #[.int .i64 P.1, .int .i64 P.2]] w fun e w' => e = .returned (.tuple #[.int .i64 o, .int .i64 0]) ∧ Below w.heap.size w w') := Lib.hid fun w => by
        have := cmp_gen s P w
        rwa [cmpG_ok HVT.out HVP.out, ho] at this
       have HC3 : Hid (∃ C, decide (0 ≤ C) = true ∧ ∀ w : World, Calls Try.prog 12 #[.agg #[.int .i64 Y.1, .int .i64 Y.2.1], .agg #[.int .i64 (min f m.to), .int .i64 1]] w fun e w' => e = .returned (.tuple #[.int .i64 C, .int .i64 0]) ∧ Below w.heap.size w w') := Lib.hid ⟨cmpP (Y.1 * 1) (min f m.to * Y.2.1), hok.lo, fun w => by
        have := cmp_gen (Y.1, Y.2.1) (min f m.to, 1) w
        rwa [cmpG_ok (a := (Y.1, Y.2.1)) (b := (min f m.to, 1)) hok.vY (valid_one (by have := HG.out.f0; have := HG.out.t0; omega) (by have := HG.out.f0; have := HG.out.t0; omega))] at this⟩
       have HC4 : Hid (∃ C, decide (C ≤ 0) = true ∧ ∀ w : World, Calls Try.prog 12 #[.agg #[.int .i64 Y.1, .int .i64 Y.2.1], .agg #[.int .i64 (max f m.to), .int .i64 1]] w fun e w' => e = .returned (.tuple #[.int .i64 C, .int .i64 0]) ∧ Below w.heap.size w w') := Lib.hid ⟨cmpP (Y.1 * 1) (max f m.to * Y.2.1), hok.hi, fun w => by
        have := cmp_gen (Y.1, Y.2.1) (max f m.to, 1) w
        rwa [cmpG_ok (a := (Y.1, Y.2.1)) (b := (max f m.to, 1)) hok.vY (valid_one (by have := HG.out.f0; have := HG.out.t0; omega) (by have := HG.out.f0; have := HG.out.t0; omega))] at this⟩
       have hu := hok.up
       have hdn := hok.down
       have hlt := hok.late
       rw [hd] at hu hdn
       rw [ho] at hlt
       clear hd ho hok
       obtain ⟨x0, x1, _, _, _⟩ := FX.out
       obtain ⟨y0, y1, _, _, _⟩ := FY.out
       go_upto_region 22 with (go_at_call 12; (with_reducible refine (HC1.out _).mono ?_); rintro e w9 ⟨rfl, hbs⟩)
       clear x0 x1 y0 y1
       replace HAT := Lib.hid (HAT.out.carry hbs)
       replace MAT := Lib.hid (MAT.out.carry hbs)
       replace SAT := Lib.hid (SAT.out.carry hbs)
       replace UAT := Lib.hid (UAT.out.carry hbs)
       replace HH := Lib.hid (HH.out.grow hbs)
       replace FP := Lib.hid (FP.out.carry hbs)
       replace FX := Lib.hid (FX.out.carry hbs)
       replace FY := Lib.hid (FY.out.carry hbs)
       replace hB := hB.trans (hbs.mono hB.size)
       clear hbs
       obtain ⟨t0, t1, _, _, _⟩ := UAT.out
       obtain ⟨p0, p1, _, _, _⟩ := FP.out
       go_upto_region 23 with (go_at_call 12; (with_reducible refine (HC2.out _).mono ?_); rintro e w10 ⟨rfl, hbs⟩)
       clear t0 t1 p0 p1
       replace HAT := Lib.hid (HAT.out.carry hbs)
       replace MAT := Lib.hid (MAT.out.carry hbs)
       replace SAT := Lib.hid (SAT.out.carry hbs)
       replace UAT := Lib.hid (UAT.out.carry hbs)
       replace HH := Lib.hid (HH.out.grow hbs)
       replace FP := Lib.hid (FP.out.carry hbs)
       replace FX := Lib.hid (FX.out.carry hbs)
       replace FY := Lib.hid (FY.out.carry hbs)
       replace hB := hB.trans (hbs.mono hB.size)
       clear hbs
       by_cases ol : 0 ≤ o
       ·have hdo : decide (0 ≤ o) = true := decide_eq_true ol
        obtain rfl := hlt ol
        clear ol hlt
        have HS : Hid (∀ w', Below w10.heap.size w10 w' → w'.cell? ⟨By, 0, none⟩ = some (.int .i64 m.to) ∧ w'.cell? ⟨By, 1, none⟩ = some (.int .i64 1) ∧ w'.cell? ⟨w.heap.size + 1, 1, none⟩ = some (.int .i64 m.to)) := Lib.hid fun w' hb => by
         obtain ⟨y0, y1, _⟩ := FY.out.carry hb
         obtain ⟨_, m1, _⟩ := MAT.out.carry hb
         exact ⟨y0, y1, m1⟩
        refine goR23a hu hdn hdo r2 HS ?_
        intro v148 v149 v150 v151 v152 v153 v154 v155 v156 v157 v158 v159 v160 v161 v162 v163 v164 v165 v166 v167 v168 v169 v170 v171 v172 v173 v174 v175 v176 v177 v178 v179 v180 v181 v182 v183 v184 W11 hcut
        obtain ⟨rfl, hbs⟩ := hcut
        clear HS hdo hu hdn
        replace HAT := Lib.hid (HAT.out.carry hbs)
        replace MAT := Lib.hid (MAT.out.carry hbs)
        replace SAT := Lib.hid (SAT.out.carry hbs)
        replace UAT := Lib.hid (UAT.out.carry hbs)
        replace HH := Lib.hid (HH.out.grow hbs)
        replace FP := Lib.hid (FP.out.carry hbs)
        replace FX := Lib.hid (FX.out.carry hbs)
        replace FY := Lib.hid (FY.out.carry hbs)
        replace hB := hB.trans (hbs.mono hB.size)
        clear hbs
        obtain ⟨C3, g3, HC3⟩ := HC3.out
        obtain ⟨C4, g4, HC4⟩ := HC4.out
        have HC3 := Lib.hid HC3
        have HC4 := Lib.hid HC4
        go_upto_region 25 with (fail)
        have HS : Hid (∀ w', Below W11.heap.size W11 w' → w'.cell? ⟨By, 0, none⟩ = some (.int .i64 m.to) ∧ w'.cell? ⟨By, 1, none⟩ = some (.int .i64 1) ∧ w'.cell? ⟨w.heap.size + 1, 1, none⟩ = some (.int .i64 m.to)) := Lib.hid fun w' hb => by
         obtain ⟨y0, y1, _⟩ := FY.out.carry hb
         obtain ⟨_, m1, _⟩ := MAT.out.carry hb
         exact ⟨y0, y1, m1⟩
        refine goR25 (Y := (m.to, 1, 0)) HC3 HS ?_
        intro v27 v28 v185 v186 v187 v188 v189 v190 v191 v192 v193 v194 W12 hcut
        obtain ⟨rfl, rfl, hbs⟩ := hcut
        clear HS
        replace HAT := Lib.hid (HAT.out.carry hbs)
        replace MAT := Lib.hid (MAT.out.carry hbs)
        replace SAT := Lib.hid (SAT.out.carry hbs)
        replace UAT := Lib.hid (UAT.out.carry hbs)
        replace HH := Lib.hid (HH.out.grow hbs)
        replace FP := Lib.hid (FP.out.carry hbs)
        replace FX := Lib.hid (FX.out.carry hbs)
        replace FY := Lib.hid (FY.out.carry hbs)
        replace hB := hB.trans (hbs.mono hB.size)
        clear hbs
        go_upto_region 26 with (fail)
        have HS : Hid (∀ w', Below W12.heap.size W12 w' → w'.cell? ⟨By, 0, none⟩ = some (.int .i64 m.to) ∧ w'.cell? ⟨By, 1, none⟩ = some (.int .i64 1) ∧ w'.cell? ⟨w.heap.size + 1, 1, none⟩ = some (.int .i64 m.to)) := Lib.hid fun w' hb => by
         obtain ⟨y0, y1, _⟩ := FY.out.carry hb
         obtain ⟨_, m1, _⟩ := MAT.out.carry hb
         exact ⟨y0, y1, m1⟩
        refine goR26 (Y := (m.to, 1, 0)) HC4 HS ?_
        intro v29 v30 v195 v196 v197 v198 v199 v200 v201 v202 v203 v204 W13 hcut
        obtain ⟨rfl, rfl, hbs⟩ := hcut
        clear HS
        replace HAT := Lib.hid (HAT.out.carry hbs)
        replace MAT := Lib.hid (MAT.out.carry hbs)
        replace SAT := Lib.hid (SAT.out.carry hbs)
        replace UAT := Lib.hid (UAT.out.carry hbs)
        replace HH := Lib.hid (HH.out.grow hbs)
        replace FP := Lib.hid (FP.out.carry hbs)
        replace FX := Lib.hid (FX.out.carry hbs)
        replace FY := Lib.hid (FY.out.carry hbs)
        replace hB := hB.trans (hbs.mono hB.size)
        clear hbs
        go_wp2_with fail
        go_ret
        exact ⟨rfl, hB⟩
       ·have hdo : decide (0 ≤ o) = false := decide_eq_false ol
        clear ol hlt
        have HS : Hid (∀ w', Below w10.heap.size w10 w' → w'.cell? ⟨w.heap.size + 1, 1, none⟩ = some (.int .i64 m.to)) := Lib.hid fun w' hb => by
         obtain ⟨y0, y1, _⟩ := FY.out.carry hb
         obtain ⟨_, m1, _⟩ := MAT.out.carry hb
         exact m1
        refine goR23b hu hdn hdo HS ?_
        intro v148 v149 v150 v151 v152 v153 v154 v155 v156 v157 v158 v159 v160 v161 v162 v163 v164 v165 v166 v167 v168 v169 v170 v171 v172 v173 v174 v175 v176 v177 v178 v179 v180 v181 v182 v183 v184 W11 hcut
        obtain ⟨rfl, hbs⟩ := hcut
        clear HS hdo hu hdn
        replace HAT := Lib.hid (HAT.out.carry hbs)
        replace MAT := Lib.hid (MAT.out.carry hbs)
        replace SAT := Lib.hid (SAT.out.carry hbs)
        replace UAT := Lib.hid (UAT.out.carry hbs)
        replace HH := Lib.hid (HH.out.grow hbs)
        replace FP := Lib.hid (FP.out.carry hbs)
        replace FX := Lib.hid (FX.out.carry hbs)
        replace FY := Lib.hid (FY.out.carry hbs)
        replace hB := hB.trans (hbs.mono hB.size)
        clear hbs
        obtain ⟨C3, g3, HC3⟩ := HC3.out
        obtain ⟨C4, g4, HC4⟩ := HC4.out
        have HC3 := Lib.hid HC3
        have HC4 := Lib.hid HC4
        go_upto_region 25 with (fail)
        have HS : Hid (∀ w', Below W11.heap.size W11 w' → w'.cell? ⟨By, 0, none⟩ = some (.int .i64 Y.1) ∧ w'.cell? ⟨By, 1, none⟩ = some (.int .i64 Y.2.1) ∧ w'.cell? ⟨w.heap.size + 1, 1, none⟩ = some (.int .i64 m.to)) := Lib.hid fun w' hb => by
         obtain ⟨y0, y1, _⟩ := FY.out.carry hb
         obtain ⟨_, m1, _⟩ := MAT.out.carry hb
         exact ⟨y0, y1, m1⟩
        refine goR25 (Y := Y) HC3 HS ?_
        intro v27 v28 v185 v186 v187 v188 v189 v190 v191 v192 v193 v194 W12 hcut
        obtain ⟨rfl, rfl, hbs⟩ := hcut
        clear HS
        replace HAT := Lib.hid (HAT.out.carry hbs)
        replace MAT := Lib.hid (MAT.out.carry hbs)
        replace SAT := Lib.hid (SAT.out.carry hbs)
        replace UAT := Lib.hid (UAT.out.carry hbs)
        replace HH := Lib.hid (HH.out.grow hbs)
        replace FP := Lib.hid (FP.out.carry hbs)
        replace FX := Lib.hid (FX.out.carry hbs)
        replace FY := Lib.hid (FY.out.carry hbs)
        replace hB := hB.trans (hbs.mono hB.size)
        clear hbs
        go_upto_region 26 with (fail)
        have HS : Hid (∀ w', Below W12.heap.size W12 w' → w'.cell? ⟨By, 0, none⟩ = some (.int .i64 Y.1) ∧ w'.cell? ⟨By, 1, none⟩ = some (.int .i64 Y.2.1) ∧ w'.cell? ⟨w.heap.size + 1, 1, none⟩ = some (.int .i64 m.to)) := Lib.hid fun w' hb => by
         obtain ⟨y0, y1, _⟩ := FY.out.carry hb
         obtain ⟨_, m1, _⟩ := MAT.out.carry hb
         exact ⟨y0, y1, m1⟩
        refine goR26 (Y := Y) HC4 HS ?_
        intro v29 v30 v195 v196 v197 v198 v199 v200 v201 v202 v203 v204 W13 hcut
        obtain ⟨rfl, rfl, hbs⟩ := hcut
        clear HS
        replace HAT := Lib.hid (HAT.out.carry hbs)
        replace MAT := Lib.hid (MAT.out.carry hbs)
        replace SAT := Lib.hid (SAT.out.carry hbs)
        replace UAT := Lib.hid (UAT.out.carry hbs)
        replace HH := Lib.hid (HH.out.grow hbs)
        replace FP := Lib.hid (FP.out.carry hbs)
        replace FX := Lib.hid (FX.out.carry hbs)
        replace FY := Lib.hid (FY.out.carry hbs)
        replace hB := hB.trans (hbs.mono hB.size)
        clear hbs
        go_wp2_with fail
        go_ret
        exact ⟨rfl, hB⟩
     ·have p2 := decide_eq_false cs
      have vS := vs
      have vT := vu
      have hle : s.1 * u.2 ≤ u.1 * s.2 := cmp_nge (by omega)
      clear vs vu hc cs
      go_upto_region 17 with (fail)
      obtain ⟨X, hX⟩ : ∃ X, matP h f m s t = X := ⟨_, rfl⟩
      obtain ⟨Y, hY⟩ : ∃ Y, matP h f m u t = Y := ⟨_, rfl⟩
      have hpair := goes_pair HE0.out HG.out vS vT hle
      rw [hX, hY, HP.out] at hpair
      have HX : Hid (∀ w : World, HouseIn w h → Calls Try.prog 10 #[.agg #[.string h.name, .int .i64 h.height, .slice h.sa h.sets.length h.sc, .slice h.ra h.roofs.length h.rc], .int .i64 f, .agg #[.string m.name, .int .i64 m.to, .int .i64 m.spd, .int .i64 m.rise, .int .i64 m.fall], .agg #[.int .i64 s.1, .int .i64 s.2]] w fun e w' => e = .returned (.tuple #[.agg #[.int .i64 X.1, .int .i64 X.2.1], .int .i64 X.2.2]) ∧ Below w.heap.size w w') := Lib.hid fun w hh => by
       have := HAX.out s w hh
       rwa [hX] at this
      have HY : Hid (∀ w : World, HouseIn w h → Calls Try.prog 10 #[.agg #[.string h.name, .int .i64 h.height, .slice h.sa h.sets.length h.sc, .slice h.ra h.roofs.length h.rc], .int .i64 f, .agg #[.string m.name, .int .i64 m.to, .int .i64 m.spd, .int .i64 m.rise, .int .i64 m.fall], .agg #[.int .i64 u.1, .int .i64 u.2]] w fun e w' => e = .returned (.tuple #[.agg #[.int .i64 Y.1, .int .i64 Y.2.1], .int .i64 Y.2.2]) ∧ Below w.heap.size w w') := Lib.hid fun w hh => by
       have := HAX.out u w hh
       rwa [hY] at this
      have HVT := Lib.hid vT
      clear hX hY vS vT hle
      obtain ⟨k0, k1, k2, k3⟩ := HAT.out
      obtain ⟨m0, m1, m2, m3, m4⟩ := MAT.out
      obtain ⟨s0, s1, _, _, _⟩ := SAT.out
      go_upto_region 18 with (go_at_call 10; (with_reducible refine (HX.out _ HH.out).mono ?_); rintro e w7 ⟨rfl, hbs⟩)
      clear k0 k1 k2 k3 m0 m1 m2 m3 m4 s0 s1
      replace HAT := Lib.hid (HAT.out.carry hbs)
      replace MAT := Lib.hid (MAT.out.carry hbs)
      replace SAT := Lib.hid (SAT.out.carry hbs)
      replace UAT := Lib.hid (UAT.out.carry hbs)
      replace HH := Lib.hid (HH.out.grow hbs)
      replace FP := Lib.hid (FP.out.carry hbs)
      replace hB := hB.trans (hbs.mono hB.size)
      clear hbs
      have hbn := below_new w7 (.cells #[.int .i64 (X.1), .int .i64 (X.2.1)] 29)
      have hF := FI.put w7 (X.1) (X.2.1) 29
      replace HAT := Lib.hid (HAT.out.carry hbn)
      replace MAT := Lib.hid (MAT.out.carry hbn)
      replace SAT := Lib.hid (SAT.out.carry hbn)
      replace UAT := Lib.hid (UAT.out.carry hbn)
      replace HH := Lib.hid (HH.out.grow hbn)
      replace FP := Lib.hid (FP.out.carry hbn)
      replace hB := hB.trans (hbn.mono hB.size)
      clear hbn
      obtain ⟨Bx, hBq⟩ : ∃ b, w7.heap.size = b := ⟨_, rfl⟩
      simp only [hBq] at hF ⊢
      have FX := Lib.hid hF
      clear hF
      generalize w7.alloc (.cells #[.int .i64 (X.1), .int .i64 (X.2.1)] 29) = W7 at *
      clear hBq
      obtain ⟨k0, k1, k2, k3⟩ := HAT.out
      obtain ⟨m0, m1, m2, m3, m4⟩ := MAT.out
      obtain ⟨t0, t1, _, _, _⟩ := UAT.out
      go_upto_region 19 with (go_at_call 10; (with_reducible refine (HY.out _ HH.out).mono ?_); rintro e w8 ⟨rfl, hbs⟩)
      clear k0 k1 k2 k3 m0 m1 m2 m3 m4 t0 t1
      replace HAT := Lib.hid (HAT.out.carry hbs)
      replace MAT := Lib.hid (MAT.out.carry hbs)
      replace SAT := Lib.hid (SAT.out.carry hbs)
      replace UAT := Lib.hid (UAT.out.carry hbs)
      replace HH := Lib.hid (HH.out.grow hbs)
      replace FP := Lib.hid (FP.out.carry hbs)
      replace FX := Lib.hid (FX.out.carry hbs)
      replace hB := hB.trans (hbs.mono hB.size)
      clear hbs
      have hbn := below_new w8 (.cells #[.int .i64 (Y.1), .int .i64 (Y.2.1)] 29)
      have hF := FI.put w8 (Y.1) (Y.2.1) 29
      replace HAT := Lib.hid (HAT.out.carry hbn)
      replace MAT := Lib.hid (MAT.out.carry hbn)
      replace SAT := Lib.hid (SAT.out.carry hbn)
      replace UAT := Lib.hid (UAT.out.carry hbn)
      replace HH := Lib.hid (HH.out.grow hbn)
      replace FP := Lib.hid (FP.out.carry hbn)
      replace FX := Lib.hid (FX.out.carry hbn)
      replace hB := hB.trans (hbn.mono hB.size)
      clear hbn
      obtain ⟨By, hBq⟩ : ∃ b, w8.heap.size = b := ⟨_, rfl⟩
      simp only [hBq] at hF ⊢
      have FY := Lib.hid hF
      clear hF
      generalize w8.alloc (.cells #[.int .i64 (Y.1), .int .i64 (Y.2.1)] 29) = W8 at *
      clear hBq
      rcases hpair with xe | xe | ⟨xe, ye⟩ | ⟨xe, ye, hok⟩
      ·simp only [xe]
       clear xe
       go_wp2_with fail
       go_ret
       exact ⟨rfl, hB⟩
      ·simp only [xe]
       clear xe
       go_wp2_with fail
       go_ret
       exact ⟨rfl, hB⟩
      ·simp only [xe, ye]
       clear xe ye
       go_wp2_with fail
       go_ret
       exact ⟨rfl, hB⟩
      ·simp only [xe, ye]
       clear xe ye
       obtain ⟨d, hd⟩ : ∃ d, cmpP (X.1 * Y.2.1) (Y.1 * X.2.1) = d := ⟨_, rfl⟩
       obtain ⟨o, ho⟩ : ∃ o, cmpP (u.1 * P.2) (P.1 * u.2) = o := ⟨_, rfl⟩
       have HC1 : Hid (∀ w : World, Calls Try.prog 12 #[.agg #[.int .i64 X.1, .int .i64 X.2.1], .agg #[.int .i64 Y.1, .int .i64 Y.2.1]] w fun e w' => e = .returned (.tuple #[.int .i64 d, .int .i64 0]) ∧ Below w.heap.size w w') := Lib.hid fun w => by
        have := cmp_gen (X.1, X.2.1) (Y.1, Y.2.1) w
        rwa [cmpG_ok (a := (X.1, X.2.1)) (b := (Y.1, Y.2.1)) hok.vX hok.vY, hd] at this
       have HC2 : Hid (∀ w : World, Calls Try.prog 12 #[.agg #[.int .i64 u.1, .int .i64 u.2], .agg #[.int .i64 P.1, .int .i64 P.2]] w fun e w' => e = .returned (.tuple #[.int .i64 o, .int .i64 0]) ∧ Below w.heap.size w w') := Lib.hid fun w => by
        have := cmp_gen u P w
        rwa [cmpG_ok HVT.out HVP.out, ho] at this
       have HC3 : Hid (∃ C, decide (0 ≤ C) = true ∧ ∀ w : World, Calls Try.prog 12 #[.agg #[.int .i64 Y.1, .int .i64 Y.2.1], .agg #[.int .i64 (min f m.to), .int .i64 1]] w fun e w' => e = .returned (.tuple #[.int .i64 C, .int .i64 0]) ∧ Below w.heap.size w w') := Lib.hid ⟨cmpP (Y.1 * 1) (min f m.to * Y.2.1), hok.lo, fun w => by
        have := cmp_gen (Y.1, Y.2.1) (min f m.to, 1) w
        rwa [cmpG_ok (a := (Y.1, Y.2.1)) (b := (min f m.to, 1)) hok.vY (valid_one (by have := HG.out.f0; have := HG.out.t0; omega) (by have := HG.out.f0; have := HG.out.t0; omega))] at this⟩
       have HC4 : Hid (∃ C, decide (C ≤ 0) = true ∧ ∀ w : World, Calls Try.prog 12 #[.agg #[.int .i64 Y.1, .int .i64 Y.2.1], .agg #[.int .i64 (max f m.to), .int .i64 1]] w fun e w' => e = .returned (.tuple #[.int .i64 C, .int .i64 0]) ∧ Below w.heap.size w w') := Lib.hid ⟨cmpP (Y.1 * 1) (max f m.to * Y.2.1), hok.hi, fun w => by
        have := cmp_gen (Y.1, Y.2.1) (max f m.to, 1) w
        rwa [cmpG_ok (a := (Y.1, Y.2.1)) (b := (max f m.to, 1)) hok.vY (valid_one (by have := HG.out.f0; have := HG.out.t0; omega) (by have := HG.out.f0; have := HG.out.t0; omega))] at this⟩
       have hu := hok.up
       have hdn := hok.down
       have hlt := hok.late
       rw [hd] at hu hdn
       rw [ho] at hlt
       clear hd ho hok
       obtain ⟨x0, x1, _, _, _⟩ := FX.out
       obtain ⟨y0, y1, _, _, _⟩ := FY.out
       go_upto_region 22 with (go_at_call 12; (with_reducible refine (HC1.out _).mono ?_); rintro e w9 ⟨rfl, hbs⟩)
       clear x0 x1 y0 y1
       replace HAT := Lib.hid (HAT.out.carry hbs)
       replace MAT := Lib.hid (MAT.out.carry hbs)
       replace SAT := Lib.hid (SAT.out.carry hbs)
       replace UAT := Lib.hid (UAT.out.carry hbs)
       replace HH := Lib.hid (HH.out.grow hbs)
       replace FP := Lib.hid (FP.out.carry hbs)
       replace FX := Lib.hid (FX.out.carry hbs)
       replace FY := Lib.hid (FY.out.carry hbs)
       replace hB := hB.trans (hbs.mono hB.size)
       clear hbs
       obtain ⟨t0, t1, _, _, _⟩ := UAT.out
       obtain ⟨p0, p1, _, _, _⟩ := FP.out
       go_upto_region 23 with (go_at_call 12; (with_reducible refine (HC2.out _).mono ?_); rintro e w10 ⟨rfl, hbs⟩)
       clear t0 t1 p0 p1
       replace HAT := Lib.hid (HAT.out.carry hbs)
       replace MAT := Lib.hid (MAT.out.carry hbs)
       replace SAT := Lib.hid (SAT.out.carry hbs)
       replace UAT := Lib.hid (UAT.out.carry hbs)
       replace HH := Lib.hid (HH.out.grow hbs)
       replace FP := Lib.hid (FP.out.carry hbs)
       replace FX := Lib.hid (FX.out.carry hbs)
       replace FY := Lib.hid (FY.out.carry hbs)
       replace hB := hB.trans (hbs.mono hB.size)
       clear hbs
       by_cases ol : 0 ≤ o
       ·have hdo : decide (0 ≤ o) = true := decide_eq_true ol
        obtain rfl := hlt ol
        clear ol hlt
        have HS : Hid (∀ w', Below w10.heap.size w10 w' → w'.cell? ⟨By, 0, none⟩ = some (.int .i64 m.to) ∧ w'.cell? ⟨By, 1, none⟩ = some (.int .i64 1) ∧ w'.cell? ⟨w.heap.size + 1, 1, none⟩ = some (.int .i64 m.to)) := Lib.hid fun w' hb => by
         obtain ⟨y0, y1, _⟩ := FY.out.carry hb
         obtain ⟨_, m1, _⟩ := MAT.out.carry hb
         exact ⟨y0, y1, m1⟩
        refine goR23a hu hdn hdo r2 HS ?_
        intro v148 v149 v150 v151 v152 v153 v154 v155 v156 v157 v158 v159 v160 v161 v162 v163 v164 v165 v166 v167 v168 v169 v170 v171 v172 v173 v174 v175 v176 v177 v178 v179 v180 v181 v182 v183 v184 W11 hcut
        obtain ⟨rfl, hbs⟩ := hcut
        clear HS hdo hu hdn
        replace HAT := Lib.hid (HAT.out.carry hbs)
        replace MAT := Lib.hid (MAT.out.carry hbs)
        replace SAT := Lib.hid (SAT.out.carry hbs)
        replace UAT := Lib.hid (UAT.out.carry hbs)
        replace HH := Lib.hid (HH.out.grow hbs)
        replace FP := Lib.hid (FP.out.carry hbs)
        replace FX := Lib.hid (FX.out.carry hbs)
        replace FY := Lib.hid (FY.out.carry hbs)
        replace hB := hB.trans (hbs.mono hB.size)
        clear hbs
        obtain ⟨C3, g3, HC3⟩ := HC3.out
        obtain ⟨C4, g4, HC4⟩ := HC4.out
        have HC3 := Lib.hid HC3
        have HC4 := Lib.hid HC4
        go_upto_region 25 with (fail)
        have HS : Hid (∀ w', Below W11.heap.size W11 w' → w'.cell? ⟨By, 0, none⟩ = some (.int .i64 m.to) ∧ w'.cell? ⟨By, 1, none⟩ = some (.int .i64 1) ∧ w'.cell? ⟨w.heap.size + 1, 1, none⟩ = some (.int .i64 m.to)) := Lib.hid fun w' hb => by
         obtain ⟨y0, y1, _⟩ := FY.out.carry hb
         obtain ⟨_, m1, _⟩ := MAT.out.carry hb
         exact ⟨y0, y1, m1⟩
        refine goR25 (Y := (m.to, 1, 0)) HC3 HS ?_
        intro v27 v28 v185 v186 v187 v188 v189 v190 v191 v192 v193 v194 W12 hcut
        obtain ⟨rfl, rfl, hbs⟩ := hcut
        clear HS
        replace HAT := Lib.hid (HAT.out.carry hbs)
        replace MAT := Lib.hid (MAT.out.carry hbs)
        replace SAT := Lib.hid (SAT.out.carry hbs)
        replace UAT := Lib.hid (UAT.out.carry hbs)
        replace HH := Lib.hid (HH.out.grow hbs)
        replace FP := Lib.hid (FP.out.carry hbs)
        replace FX := Lib.hid (FX.out.carry hbs)
        replace FY := Lib.hid (FY.out.carry hbs)
        replace hB := hB.trans (hbs.mono hB.size)
        clear hbs
        go_upto_region 26 with (fail)
        have HS : Hid (∀ w', Below W12.heap.size W12 w' → w'.cell? ⟨By, 0, none⟩ = some (.int .i64 m.to) ∧ w'.cell? ⟨By, 1, none⟩ = some (.int .i64 1) ∧ w'.cell? ⟨w.heap.size + 1, 1, none⟩ = some (.int .i64 m.to)) := Lib.hid fun w' hb => by
         obtain ⟨y0, y1, _⟩ := FY.out.carry hb
         obtain ⟨_, m1, _⟩ := MAT.out.carry hb
         exact ⟨y0, y1, m1⟩
        refine goR26 (Y := (m.to, 1, 0)) HC4 HS ?_
        intro v29 v30 v195 v196 v197 v198 v199 v200 v201 v202 v203 v204 W13 hcut
        obtain ⟨rfl, rfl, hbs⟩ := hcut
        clear HS
        replace HAT := Lib.hid (HAT.out.carry hbs)
        replace MAT := Lib.hid (MAT.out.carry hbs)
        replace SAT := Lib.hid (SAT.out.carry hbs)
        replace UAT := Lib.hid (UAT.out.carry hbs)
        replace HH := Lib.hid (HH.out.grow hbs)
        replace FP := Lib.hid (FP.out.carry hbs)
        replace FX := Lib.hid (FX.out.carry hbs)
        replace FY := Lib.hid (FY.out.carry hbs)
        replace hB := hB.trans (hbs.mono hB.size)
        clear hbs
        go_wp2_with fail
        go_ret
        exact ⟨rfl, hB⟩
       ·have hdo : decide (0 ≤ o) = false := decide_eq_false ol
        clear ol hlt
        have HS : Hid (∀ w', Below w10.heap.size w10 w' → w'.cell? ⟨w.heap.size + 1, 1, none⟩ = some (.int .i64 m.to)) := Lib.hid fun w' hb => by
         obtain ⟨y0, y1, _⟩ := FY.out.carry hb
         obtain ⟨_, m1, _⟩ := MAT.out.carry hb
         exact m1
        refine goR23b hu hdn hdo HS ?_
        intro v148 v149 v150 v151 v152 v153 v154 v155 v156 v157 v158 v159 v160 v161 v162 v163 v164 v165 v166 v167 v168 v169 v170 v171 v172 v173 v174 v175 v176 v177 v178 v179 v180 v181 v182 v183 v184 W11 hcut
        obtain ⟨rfl, hbs⟩ := hcut
        clear HS hdo hu hdn
        replace HAT := Lib.hid (HAT.out.carry hbs)
        replace MAT := Lib.hid (MAT.out.carry hbs)
        replace SAT := Lib.hid (SAT.out.carry hbs)
        replace UAT := Lib.hid (UAT.out.carry hbs)
        replace HH := Lib.hid (HH.out.grow hbs)
        replace FP := Lib.hid (FP.out.carry hbs)
        replace FX := Lib.hid (FX.out.carry hbs)
        replace FY := Lib.hid (FY.out.carry hbs)
        replace hB := hB.trans (hbs.mono hB.size)
        clear hbs
        obtain ⟨C3, g3, HC3⟩ := HC3.out
        obtain ⟨C4, g4, HC4⟩ := HC4.out
        have HC3 := Lib.hid HC3
        have HC4 := Lib.hid HC4
        go_upto_region 25 with (fail)
        have HS : Hid (∀ w', Below W11.heap.size W11 w' → w'.cell? ⟨By, 0, none⟩ = some (.int .i64 Y.1) ∧ w'.cell? ⟨By, 1, none⟩ = some (.int .i64 Y.2.1) ∧ w'.cell? ⟨w.heap.size + 1, 1, none⟩ = some (.int .i64 m.to)) := Lib.hid fun w' hb => by
         obtain ⟨y0, y1, _⟩ := FY.out.carry hb
         obtain ⟨_, m1, _⟩ := MAT.out.carry hb
         exact ⟨y0, y1, m1⟩
        refine goR25 (Y := Y) HC3 HS ?_
        intro v27 v28 v185 v186 v187 v188 v189 v190 v191 v192 v193 v194 W12 hcut
        obtain ⟨rfl, rfl, hbs⟩ := hcut
        clear HS
        replace HAT := Lib.hid (HAT.out.carry hbs)
        replace MAT := Lib.hid (MAT.out.carry hbs)
        replace SAT := Lib.hid (SAT.out.carry hbs)
        replace UAT := Lib.hid (UAT.out.carry hbs)
        replace HH := Lib.hid (HH.out.grow hbs)
        replace FP := Lib.hid (FP.out.carry hbs)
        replace FX := Lib.hid (FX.out.carry hbs)
        replace FY := Lib.hid (FY.out.carry hbs)
        replace hB := hB.trans (hbs.mono hB.size)
        clear hbs
        go_upto_region 26 with (fail)
        have HS : Hid (∀ w', Below W12.heap.size W12 w' → w'.cell? ⟨By, 0, none⟩ = some (.int .i64 Y.1) ∧ w'.cell? ⟨By, 1, none⟩ = some (.int .i64 Y.2.1) ∧ w'.cell? ⟨w.heap.size + 1, 1, none⟩ = some (.int .i64 m.to)) := Lib.hid fun w' hb => by
         obtain ⟨y0, y1, _⟩ := FY.out.carry hb
         obtain ⟨_, m1, _⟩ := MAT.out.carry hb
         exact ⟨y0, y1, m1⟩
        refine goR26 (Y := Y) HC4 HS ?_
        intro v29 v30 v195 v196 v197 v198 v199 v200 v201 v202 v203 v204 W13 hcut
        obtain ⟨rfl, rfl, hbs⟩ := hcut
        clear HS
        replace HAT := Lib.hid (HAT.out.carry hbs)
        replace MAT := Lib.hid (MAT.out.carry hbs)
        replace SAT := Lib.hid (SAT.out.carry hbs)
        replace UAT := Lib.hid (UAT.out.carry hbs)
        replace HH := Lib.hid (HH.out.grow hbs)
        replace FP := Lib.hid (FP.out.carry hbs)
        replace FX := Lib.hid (FX.out.carry hbs)
        replace FY := Lib.hid (FY.out.carry hbs)
        replace hB := hB.trans (hbs.mono hB.size)
        clear hbs
        go_wp2_with fail
        go_ret
        exact ⟨rfl, hB⟩
    ·have p1 : (C.2 != 0) = true := by simpa using ce
     clear ce HCM hC
     go_wp2_with fail
     go_ret
     exact ⟨rfl, hB⟩
  ·obtain ⟨E, hE⟩ : ∃ E, mgE h f m = E := ⟨_, rfl⟩
   have HE1 : Hid (∀ w : World, HouseIn w h → Calls Try.prog 9 #[.agg #[.string h.name, .int .i64 h.height, .slice h.sa h.sets.length h.sc, .slice h.ra h.roofs.length h.rc], .int .i64 f, .agg #[.string m.name, .int .i64 m.to, .int .i64 m.spd, .int .i64 m.rise, .int .i64 m.fall]] w fun e w' => e = .returned (.tuple #[.agg #[.int .i64 0, .int .i64 0], .int .i64 E]) ∧ Below w.heap.size w w') := Lib.hid fun w hh => by
    have := mend_any h f m t ht w hh
    rwa [hE, show endP h f m t = (0, 0) by unfold endP; rw [if_neg e0]] at this
   rw [hE] at e0
   have p1 : (E != 0) = true := by simpa using e0
   clear e0 hE ht
   go_enter Try.func3, Try.ntmps3
   go_upto_region 1 with (fail)
   have hat1 := ((((HouseAt.new w h 25).carry (below_new (w.alloc (.cells #[.string h.name, .int .i64 h.height, .slice h.sa h.sets.length h.sc, .slice h.ra h.roofs.length h.rc] 25)) (.cells #[.string m.name, .int .i64 m.to, .int .i64 m.spd, .int .i64 m.rise, .int .i64 m.fall] 27))).carry (below_new ((w.alloc (.cells #[.string h.name, .int .i64 h.height, .slice h.sa h.sets.length h.sc, .slice h.ra h.roofs.length h.rc] 25)).alloc (.cells #[.string m.name, .int .i64 m.to, .int .i64 m.spd, .int .i64 m.rise, .int .i64 m.fall] 27)) (.cells #[.int .i64 s.1, .int .i64 s.2] 29))).carry (below_new (((w.alloc (.cells #[.string h.name, .int .i64 h.height, .slice h.sa h.sets.length h.sc, .slice h.ra h.roofs.length h.rc] 25)).alloc (.cells #[.string m.name, .int .i64 m.to, .int .i64 m.spd, .int .i64 m.rise, .int .i64 m.fall] 27)).alloc (.cells #[.int .i64 s.1, .int .i64 s.2] 29)) (.cells #[.int .i64 u.1, .int .i64 u.2] 29)))
   have mat1 := (((MvAt.new (w.alloc (.cells #[.string h.name, .int .i64 h.height, .slice h.sa h.sets.length h.sc, .slice h.ra h.roofs.length h.rc] 25)) m 27).carry (below_new ((w.alloc (.cells #[.string h.name, .int .i64 h.height, .slice h.sa h.sets.length h.sc, .slice h.ra h.roofs.length h.rc] 25)).alloc (.cells #[.string m.name, .int .i64 m.to, .int .i64 m.spd, .int .i64 m.rise, .int .i64 m.fall] 27)) (.cells #[.int .i64 s.1, .int .i64 s.2] 29))).carry (below_new (((w.alloc (.cells #[.string h.name, .int .i64 h.height, .slice h.sa h.sets.length h.sc, .slice h.ra h.roofs.length h.rc] 25)).alloc (.cells #[.string m.name, .int .i64 m.to, .int .i64 m.spd, .int .i64 m.rise, .int .i64 m.fall] 27)).alloc (.cells #[.int .i64 s.1, .int .i64 s.2] 29)) (.cells #[.int .i64 u.1, .int .i64 u.2] 29)))
   have fat0 := ((FI.put ((w.alloc (.cells #[.string h.name, .int .i64 h.height, .slice h.sa h.sets.length h.sc, .slice h.ra h.roofs.length h.rc] 25)).alloc (.cells #[.string m.name, .int .i64 m.to, .int .i64 m.spd, .int .i64 m.rise, .int .i64 m.fall] 27)) s.1 s.2 29).carry (below_new (((w.alloc (.cells #[.string h.name, .int .i64 h.height, .slice h.sa h.sets.length h.sc, .slice h.ra h.roofs.length h.rc] 25)).alloc (.cells #[.string m.name, .int .i64 m.to, .int .i64 m.spd, .int .i64 m.rise, .int .i64 m.fall] 27)).alloc (.cells #[.int .i64 s.1, .int .i64 s.2] 29)) (.cells #[.int .i64 u.1, .int .i64 u.2] 29)))
   have fat1 := (FI.put (((w.alloc (.cells #[.string h.name, .int .i64 h.height, .slice h.sa h.sets.length h.sc, .slice h.ra h.roofs.length h.rc] 25)).alloc (.cells #[.string m.name, .int .i64 m.to, .int .i64 m.spd, .int .i64 m.rise, .int .i64 m.fall] 27)).alloc (.cells #[.int .i64 s.1, .int .i64 s.2] 29)) u.1 u.2 29)
   have hB := ((((below_new w (.cells #[.string h.name, .int .i64 h.height, .slice h.sa h.sets.length h.sc, .slice h.ra h.roofs.length h.rc] 25)).alloc (by simp) (.cells #[.string m.name, .int .i64 m.to, .int .i64 m.spd, .int .i64 m.rise, .int .i64 m.fall] 27)).alloc (by simp <;> omega) (.cells #[.int .i64 s.1, .int .i64 s.2] 29)).alloc (by simp <;> omega) (.cells #[.int .i64 u.1, .int .i64 u.2] 29))
   have HH := Lib.hid (hh1.grow hB)
   have hm1 : (w.alloc (.cells #[.string h.name, .int .i64 h.height, .slice h.sa h.sets.length h.sc, .slice h.ra h.roofs.length h.rc] 25)).heap.size = w.heap.size + 1 := by simp
   rw [hm1] at mat1
   have hm2 : ((w.alloc (.cells #[.string h.name, .int .i64 h.height, .slice h.sa h.sets.length h.sc, .slice h.ra h.roofs.length h.rc] 25)).alloc (.cells #[.string m.name, .int .i64 m.to, .int .i64 m.spd, .int .i64 m.rise, .int .i64 m.fall] 27)).heap.size = w.heap.size + 1 + 1 := by simp
   rw [hm2] at fat0
   have hm3 : (((w.alloc (.cells #[.string h.name, .int .i64 h.height, .slice h.sa h.sets.length h.sc, .slice h.ra h.roofs.length h.rc] 25)).alloc (.cells #[.string m.name, .int .i64 m.to, .int .i64 m.spd, .int .i64 m.rise, .int .i64 m.fall] 27)).alloc (.cells #[.int .i64 s.1, .int .i64 s.2] 29)).heap.size = w.heap.size + 1 + 1 + 1 := by simp
   rw [hm3] at fat1
   clear hm1 hm2 hm3
   generalize ((((w.alloc (.cells #[.string h.name, .int .i64 h.height, .slice h.sa h.sets.length h.sc, .slice h.ra h.roofs.length h.rc] 25)).alloc (.cells #[.string m.name, .int .i64 m.to, .int .i64 m.spd, .int .i64 m.rise, .int .i64 m.fall] 27)).alloc (.cells #[.int .i64 s.1, .int .i64 s.2] 29)).alloc (.cells #[.int .i64 u.1, .int .i64 u.2] 29)) = W0 at *
   have HAT := Lib.hid hat1
   have MAT := Lib.hid mat1
   have SAT := Lib.hid fat0
   have UAT := Lib.hid fat1
   clear hat1 mat1 fat0 fat1
   go_upto_region 3 with (go_at_call 7; (with_reducible refine (awake_any _).mono ?_); rintro e w1 ⟨rfl, hbs⟩)
   replace HAT := Lib.hid (HAT.out.carry hbs)
   replace MAT := Lib.hid (MAT.out.carry hbs)
   replace SAT := Lib.hid (SAT.out.carry hbs)
   replace UAT := Lib.hid (UAT.out.carry hbs)
   replace HH := Lib.hid (HH.out.grow hbs)
   replace hB := hB.trans (hbs.mono hB.size)
   clear hbs
   obtain ⟨k0, k1, k2, k3⟩ := HAT.out
   obtain ⟨m0, m1, m2, m3, m4⟩ := MAT.out
   go_upto_region 5 with (go_at_call 8; (with_reducible refine (HFE.out _ HH.out.toHouseIn0).mono ?_); rintro e w2 ⟨rfl, hbs⟩)
   clear k0 k1 k2 k3 m0 m1 m2 m3 m4
   replace HAT := Lib.hid (HAT.out.carry hbs)
   replace MAT := Lib.hid (MAT.out.carry hbs)
   replace SAT := Lib.hid (SAT.out.carry hbs)
   replace UAT := Lib.hid (UAT.out.carry hbs)
   replace HH := Lib.hid (HH.out.grow hbs)
   replace hB := hB.trans (hbs.mono hB.size)
   clear hbs
   obtain ⟨k0, k1, k2, k3⟩ := HAT.out
   obtain ⟨m0, m1, m2, m3, m4⟩ := MAT.out
   go_wp2_with (go_at_call 9; (with_reducible refine (HE1.out _ HH.out).mono ?_); rintro e w3 ⟨rfl, hbs⟩)
   go_ret
   exact ⟨rfl, hB.trans ((below_a _ hbs).mono hB.size)⟩
end Go.Proofs.Ytbgkgahmicepdaa
