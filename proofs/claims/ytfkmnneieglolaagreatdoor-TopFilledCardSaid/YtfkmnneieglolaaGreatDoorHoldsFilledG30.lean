/-
  THE WALK of source.Text at the house of the law, and no cues.
  A line of two words and numbers that are laid out ahead of the call.
  THE WALK of a region of source.Text (the line of a set), over a frame of letters.
  THE WALK of a region of source.Text (the line of a set), over a frame of letters.
  THE WALK of source.Text at the house of the law.
  THE WALK of the law's writtenAwake.
  What the windows tell (layer 26).
  THE WALK of arbor's Weight.
-/
import Derived.Test.YtfkmnneieglolaaGreatDoorHoldsFilledG29
import Derived.Test.YtfkmnneieglolaaGreatDoorHoldsFilledG27
namespace Go.Proofs.YtfkmnneieglolaaGreatDoor
open Go.RowKit Go.Shelf
attribute [local go_sem] Oper.semAt_some
def hW (sa la ba : Option Addr) : HouseR := ⟨⟨#[104]⟩, 8000, sa, [rW la ba], 1, none, [], 0⟩
theorem hW_ok (sa la ba : Option Addr) : houseB (hW sa la ba) = true := by
  refine houseB_iff.2 ⟨by rfl, by show (1 : Int) ≤ 8000; decide, by show (8000 : Int) ≤ 1048576; decide, by show 1 ≤ 60; decide, ⟨by show 0 ≤ 20; decide, fun k hk => absurd hk (Nat.not_lt_zero _)⟩, fun k hk => ?_⟩
  obtain rfl : k = 0 := Nat.lt_one_iff.1 hk
  exact ⟨rW_ok la ba, by show (8000 : Int) ≤ 8000; decide, fun j hj => absurd hj (Nat.not_lt_zero _)⟩
theorem hW_in (w : World) (b2 : Nat) (la ba : Option Addr) (l2 : b2 < w.heap.size) (hs : SetIn w (rW la ba)) (s : SetAt w b2 (rW la ba)) : HouseIn w (hW (some ⟨b2, 0, none⟩) la ba) := by
  refine ⟨⟨fun _ => ⟨b2, 0, rfl, l2, fun i hi => ?_⟩, Roofs.nil, fun i hi => ?_, by show 1 ≤ 1; decide, by show 0 ≤ 0; decide, fun e => (by cases e), fun _ => rfl⟩, fun i hi => ?_, by show 1 ≤ 1000; decide, by show 0 ≤ 1000; decide⟩
  · obtain rfl : i = 0 := Nat.lt_one_iff.1 hi
    exact s
  · obtain rfl : i = 0 := Nat.lt_one_iff.1 hi
    exact hs.toSetIn0
  · obtain rfl : i = 0 := Nat.lt_one_iff.1 hi
    exact hs
abbrev ShZ : Value := .agg #[.slice none 0 0, .slice none 0 0]
set_option maxRecDepth 100000 in
set_option maxHeartbeats 4000000 in
theorem apart_none (w : World) : Calls Tryz.prog 64 #[.slice none 0 0, .func (.func 65) #[] #[]] w fun e w' => e = .returned (.bool false) ∧ Below w.heap.size w w' := by
  have H : Hid (Calls Tryz.prog 95 #[.slice none 0 0, .func (.func 65) #[] #[]] w fun e w' => e = .returned (.int .i64 (-1)) ∧ Below w.heap.size w w') := Lib.hid (by
    go_enter Tryz.func95, Tryz.ntmps95
    go_wp2_with fail
    refine wp_loop_rounds 1 ?_
    rw [rounds_succ]
    go_wp2_with fail
    go_ret
    exact ⟨rfl, Below.refl _ _⟩)
  go_enter Tryz.func64, Tryz.ntmps64
  go_wp2_with (go_at_call 95; (with_reducible refine H.out.mono ?_); rintro e w1 ⟨rfl, hb1⟩)
  go_ret
  exact ⟨rfl, hb1⟩
set_option maxRecDepth 100000 in
set_option maxHeartbeats 4000000 in
theorem writable_none (w : World) : Calls Tryz.prog 36 #[ShZ] w fun e w' => e = .returned (.bool true) ∧ Below w.heap.size w w' := by
  have hb0 := below_new w (.cells #[.slice none 0 0, .slice none 0 0] 56)
  have HC := Lib.hid apart_none
  go_enter Tryz.func36, Tryz.ntmps36
  go_wp2_with fail
  refine wp_loop_rounds 1 ?_
  rw [rounds_succ]
  go_wp2_with (go_at_call 64; (with_reducible refine (HC.out _).mono ?_); rintro e w1 ⟨rfl, hb1⟩)
  go_ret
  exact ⟨rfl, hb0.trans (hb1.mono (by simp))⟩
end Go.Proofs.YtfkmnneieglolaaGreatDoor
namespace Go.Proofs.YtfkmnneieglolaaGreatDoor
open Go.RowKit Go.Shelf
attribute [local go_sem] Oper.semAt_some
theorem isB_new (w : World) : IsB w.heap.size w.heap.size (Lib.byteCells []) (w.alloc (.cells #[.pointer none, .slice none 0 0] 88)) :=
  Or.inl ⟨Nat.le_refl _, .slice none 0 0, heap_new _ _, World.ownsRow_nil _ _ _ _, by simp [Value.ownBlock]⟩
theorem bat_kept {B b : Nat} {p : Value} {bs : List Value} {w w' : World} (h : Lib.BuilderAt 88 5 B b p bs w) (hb : Below w.heap.size w w') : Lib.BuilderAt 88 5 B b p bs w' := by
  have hl := h.lt
  obtain ⟨h1, v, h2, h3, h4⟩ := h
  exact ⟨h1, v, (hb.block b hl).trans h2, ownsRow_below h3 hb, h4⟩
theorem isB_kept {B b : Nat} {bs : List Value} {w w' : World} (h : IsB B b bs w) (hb : Below w.heap.size w w') : IsB B b bs w' := h.imp (fun h => bat_kept h hb) (fun h => bat_kept h hb)
def lineS (x y : ByteArray) (N : List Int) : List UInt8 := (joinS (lineW [x, y] N N.length)).data.toList ++ [10]
theorem line_lit (B b : Nat) (l : List UInt8) (x y : ByteArray) (N : List Int) (n : Nat) (w : World) (hNn : N.length = n) (h : IsB B b (Lib.byteCells l) w) (hB : B ≤ w.heap.size) (ht : TabP w)
    (hn : N.length ≤ 20) (hnr : ∀ k, k < N.length → -1000000000000 ≤ ig N k ∧ ig N k ≤ 1000000000000) (hbs : l.length ≤ 900000) (hj : (joinS (lineW [x, y] N N.length)).size ≤ 900) :
    Calls Tryz.prog 37 #[.pointer (some ⟨b, 0, none⟩), .slice (some ⟨w.heap.size, 0, none⟩) 2 2, .slice (some ⟨w.heap.size + 1, 0, none⟩) n n] ((w.alloc (.cells #[.string x, .string y] 9)).alloc (.cells (nflat N).toArray 3)) fun e w' => e = .returned (.tuple #[]) ∧ Hid (IsB B b (Lib.byteCells (l ++ lineS x y N)) w') ∧ Below B w w' ∧ Hid (∀ c cs T m, c < w.heap.size → w.heap[c]? = some (.cells cs T m) → T ≠ 5 → c ≠ b → w'.heap[c]? = w.heap[c]?) := by
  subst hNn
  have hb : Below w.heap.size w ((w.alloc (.cells #[.string x, .string y] 9)).alloc (.cells (nflat N).toArray 3)) := below_two w _ _
  have e1 : (w.alloc (.cells #[.string x, .string y] 9)).heap.size = w.heap.size + 1 := by simp
  have hw := (World.ownsRow_lit (base := w.heap.size) (e := 9) (size := 1) w #[.string x, .string y] 2 (Nat.le_refl _) (by unfold maxLen; omega) (by simp)).alloc (.cells (nflat N).toArray 3)
  have hnb := heap_new (w.alloc (.cells #[.string x, .string y] 9)) (.cells (nflat N).toArray 3)
  rw [e1] at hnb
  refine (line_any B b w.heap.size (w.heap.size + 1) l [x, y] (.slice (some ⟨w.heap.size, 0, none⟩) 2 2) N N.length (nflat N).toArray (0, 0) _ hB hb.size (fun w' z => isB_kept h (hb.trans z)) (fun w' z => tab_below ht (hb.trans z)) hw hnb (fun k hk => ?_) (by simp) (by simp) hn hnr hbs hj).mono ?_
  · rw [List.getElem?_toArray]
    exact nflat_at N k hk
  · rintro e w' ⟨he, hI, hb', hkk⟩
    refine ⟨he, Lib.hid ?_, (hb.mono hB).trans hb', Lib.hid fun c cs T m hc e hT hcb => (hkk c cs T m hc ((hb.block c hc).trans e) hT hcb).trans (hb.block c hc)⟩
    rw [List.append_assoc] at hI
    exact hI
end Go.Proofs.YtfkmnneieglolaaGreatDoor
namespace Go.Proofs.YtfkmnneieglolaaGreatDoor
open Go.RowKit Go.Shelf
attribute [local go_sem] Oper.semAt_some
noncomputable def txCode (n : Nat) : Code := ((Tryz.f15.body.bind (regionAt n)).getD .skip)
def nW : List Int := [0, 0, 8000, 1000, 60, 40, 1, 100, 10] ++ [0, 1000]
def tA : List UInt8 := lineS ⟨#[104, 111, 117, 115, 101]⟩ ⟨#[104]⟩ [8000]
def tB : List UInt8 := lineS ⟨#[115, 101, 116]⟩ ⟨#[115]⟩ nW
theorem nrow_cells {w : World} {n₀ n g cap : Nat} {N : List Int} (h : w.ownsRow n₀ 3 1 (.slice (some ⟨g, 0, none⟩) n cap) n (nflat N)) (hn : N.length = n) : ∃ cur, w.heap[g]? = some (.cells cur 3 (0, 0)) ∧ ∀ k, k < N.length → cur[k]? = some (.int .i64 (ig N k)) := by
  rcases h.2 with ⟨e, _⟩ | ⟨g', cap', cur, e, _, hg, _, _, _, ht⟩
  · cases e
  · cases e
    refine ⟨cur, hg, fun k hk => ?_⟩
    have := nflat_at N k hk
    rw [← ht, List.getElem?_take, if_pos (by omega)] at this
    simpa using this
/-- The call of line behind the append. -/
theorem tx_call {B Bs g cap bw : Nat} {w3 wf : World} (hI : IsB B B (Lib.byteCells tA) w3) (hLT : Bs < w3.heap.size ∧ B ≤ Bs) (hb : Below w3.heap.size w3 wf)
    (hw : wf.ownsRow w3.heap.size 9 1 (.slice (some ⟨bw, 0, none⟩) 2 2) 2 (sflat [⟨#[115, 101, 116]⟩, ⟨#[115]⟩])) (hr : wf.ownsRow w3.heap.size 3 1 (.slice (some ⟨g, 0, none⟩) 11 cap) 11 (nflat nW)) (hti : ∀ w', Below w3.heap.size w3 w' → TabP w') :
    Calls Tryz.prog 37 #[.pointer (some ⟨B, 0, none⟩), .slice (some ⟨bw, 0, none⟩) 2 2, .slice (some ⟨g, 0, none⟩) 11 cap] wf fun e w' => e = .returned (.tuple #[]) ∧ Hid (IsB B B (Lib.byteCells (tA ++ tB)) w') ∧ Below B w3 w' ∧ Hid (∀ c cs T m, c < w3.heap.size → w3.heap[c]? = some (.cells cs T m) → T ≠ 5 → c ≠ B → w'.heap[c]? = w3.heap[c]?) := by
  obtain ⟨cur, hg, hc⟩ := nrow_cells (N := nW) hr rfl
  refine (line_any B B w3.heap.size g tA [⟨#[115, 101, 116]⟩, ⟨#[115]⟩] (.slice (some ⟨bw, 0, none⟩) 2 2) nW cap cur (0, 0) wf (by omega) hb.size (fun w' z => isB_kept hI (hb.trans z)) (fun w' z => hti w' (hb.trans z)) hw hg hc (by simp) (by simp) (by decide) (fun k hk => ?_) (by decide +kernel) (by decide +kernel)).mono ?_
  · have hk' : k < 11 := hk
    rcases (show k = 0 ∨ k = 1 ∨ k = 2 ∨ k = 3 ∨ k = 4 ∨ k = 5 ∨ k = 6 ∨ k = 7 ∨ k = 8 ∨ k = 9 ∨ k = 10 by omega) with h | h | h | h | h | h | h | h | h | h | h <;> subst h <;> decide
  · rintro e w' ⟨he, hI, hb', hkk⟩
    refine ⟨he, Lib.hid ?_, (hb.mono (by omega)).trans hb', Lib.hid fun c cs T m hc e hT hcb => (hkk c cs T m hc ((hb.block c hc).trans e) hT hcb).trans (hb.block c hc)⟩
    rw [List.append_assoc] at hI
    exact hI
end Go.Proofs.YtfkmnneieglolaaGreatDoor
namespace Go.Proofs.YtfkmnneieglolaaGreatDoor
set_option linter.unusedSimpArgs false
open Go.RowKit Go.Shelf
attribute [local go_sem] Oper.semAt_some
set_option maxRecDepth 100000 in
set_option maxHeartbeats 32000000 in
theorem tx13 {la ba : Option Addr} {B Bs : Nat} {w3 : World} {u0 u1 u2 u3 u4 u5 u7 u8 u9 u11 u12 u13 u14 u15 u16 u17 u18 u19 u20 u21 u22 u23 u24 u25 u26 u27 u28 u29 u30 u31 u32 u33 u34 u35 u36 u37 u38 u39 u40 u41 u42 u43 u44 u45 u46 u47 u48 u49 u50 u51 u52 u53 u54 u55 u56 u57 u58 u59 u60 u61 u62 u63 u64 u65 u66 u67 u68 u69 u70 u71 u72 u73 u74 u75 u76 u77 u78 u79 u80 u81 u82 u83 u84 u85 u86 u87 u88 u89 u90 u91 u92 u93 u94 u95 u96 u97 u98 u99 u100 u101 u102 u103 u104 u105 u106 u107 u108 u109 u110 u111 u112 u113 u114 u115 u116 u117 u118 u119 u120 u121 u122 u123 u124 u125 u126 u127 u128 u129 u130 u131 u132 u133 u134 u135 u136 u137 u138 u139 u140 u141 u142 u143 u144 u145 u146 u147 u148 u149 u150 u151 u152 u153 u154 u155 u156 u157 u158 u159 u160 u161 u162 u163 u164 u165 u166 u167 u168 u169 u170 u171 u172 u173 u174 u175 u176 u177 u178 u179 u180 u181 u182 u183 u184 u185 u186 u187 u188 u189 u190 u191 u192 u193 u194 u195 u196 u197 u198 u199 u200 u201 u202 u203 u204 u205 u206 u207 u208 u209 u210 : Value} {K : Act → World → Prop} {Q0 : Exit → Act → World → Prop}
    (h13 : w3.heap[Bs]? = some (SC (rW la ba))) (hLT : Bs < w3.heap.size ∧ B < Bs) (hN : Nums w3.heap.size w3 la [0, 1000]) (hIB : IsB B B (Lib.byteCells tA) w3) (hti : ∀ w', Below w3.heap.size w3 w' → TabP w')
    (hK : ∀ (v63 v64 v65 v66 v67 v68 v69 v70 v71 v72 v73 v74 v75 v76 v77 v78 v79 v80 v81 v82 v83 v84 v85 v86 v87 v88 : Value) (wx : World), (Hid (IsB B B (Lib.byteCells (tA ++ tB)) wx) ∧ Hid (Below B w3 wx) ∧ Hid (wx.heap[Bs]? = some (SC (rW la ba)))) → K ⟨List.toArray (u0 :: u1 :: u2 :: u3 :: u4 :: u5 :: .pointer (some ⟨B, 0, none⟩) :: u7 :: u8 :: u9 :: .pointer (some ⟨Bs, 0, none⟩) :: u11 :: u12 :: u13 :: u14 :: u15 :: u16 :: u17 :: u18 :: u19 :: u20 :: u21 :: u22 :: u23 :: u24 :: u25 :: u26 :: u27 :: u28 :: u29 :: u30 :: u31 :: u32 :: u33 :: u34 :: u35 :: u36 :: u37 :: u38 :: u39 :: u40 :: u41 :: u42 :: u43 :: u44 :: u45 :: u46 :: u47 :: u48 :: u49 :: u50 :: u51 :: u52 :: u53 :: u54 :: u55 :: u56 :: u57 :: u58 :: u59 :: u60 :: u61 :: u62 :: v63 :: v64 :: v65 :: v66 :: v67 :: v68 :: v69 :: v70 :: v71 :: v72 :: v73 :: v74 :: v75 :: v76 :: v77 :: v78 :: v79 :: v80 :: v81 :: v82 :: v83 :: v84 :: v85 :: v86 :: v87 :: v88 :: u89 :: u90 :: u91 :: u92 :: u93 :: u94 :: u95 :: u96 :: u97 :: u98 :: u99 :: u100 :: u101 :: u102 :: u103 :: u104 :: u105 :: u106 :: u107 :: u108 :: u109 :: u110 :: u111 :: u112 :: u113 :: u114 :: u115 :: u116 :: u117 :: u118 :: u119 :: u120 :: u121 :: u122 :: u123 :: u124 :: u125 :: u126 :: u127 :: u128 :: u129 :: u130 :: u131 :: u132 :: u133 :: u134 :: u135 :: u136 :: u137 :: u138 :: u139 :: u140 :: u141 :: u142 :: u143 :: u144 :: u145 :: u146 :: u147 :: u148 :: u149 :: u150 :: u151 :: u152 :: u153 :: u154 :: u155 :: u156 :: u157 :: u158 :: u159 :: u160 :: u161 :: u162 :: u163 :: u164 :: u165 :: u166 :: u167 :: u168 :: u169 :: u170 :: u171 :: u172 :: u173 :: u174 :: u175 :: u176 :: u177 :: u178 :: u179 :: u180 :: u181 :: u182 :: u183 :: u184 :: u185 :: u186 :: u187 :: u188 :: u189 :: u190 :: u191 :: u192 :: u193 :: u194 :: u195 :: u196 :: u197 :: u198 :: u199 :: u200 :: u201 :: u202 :: u203 :: u204 :: u205 :: u206 :: u207 :: u208 :: u209 :: u210 :: []), []⟩ wx) :
    Code.wp Tryz.prog (txCode 13) (Exit.then K Q0) ⟨List.toArray (u0 :: u1 :: u2 :: u3 :: u4 :: u5 :: .pointer (some ⟨B, 0, none⟩) :: u7 :: u8 :: u9 :: .pointer (some ⟨Bs, 0, none⟩) :: u11 :: u12 :: u13 :: u14 :: u15 :: u16 :: u17 :: u18 :: u19 :: u20 :: u21 :: u22 :: u23 :: u24 :: u25 :: u26 :: u27 :: u28 :: u29 :: u30 :: u31 :: u32 :: u33 :: u34 :: u35 :: u36 :: u37 :: u38 :: u39 :: u40 :: u41 :: u42 :: u43 :: u44 :: u45 :: u46 :: u47 :: u48 :: u49 :: u50 :: u51 :: u52 :: u53 :: u54 :: u55 :: u56 :: u57 :: u58 :: u59 :: u60 :: u61 :: u62 :: u63 :: u64 :: u65 :: u66 :: u67 :: u68 :: u69 :: u70 :: u71 :: u72 :: u73 :: u74 :: u75 :: u76 :: u77 :: u78 :: u79 :: u80 :: u81 :: u82 :: u83 :: u84 :: u85 :: u86 :: u87 :: u88 :: u89 :: u90 :: u91 :: u92 :: u93 :: u94 :: u95 :: u96 :: u97 :: u98 :: u99 :: u100 :: u101 :: u102 :: u103 :: u104 :: u105 :: u106 :: u107 :: u108 :: u109 :: u110 :: u111 :: u112 :: u113 :: u114 :: u115 :: u116 :: u117 :: u118 :: u119 :: u120 :: u121 :: u122 :: u123 :: u124 :: u125 :: u126 :: u127 :: u128 :: u129 :: u130 :: u131 :: u132 :: u133 :: u134 :: u135 :: u136 :: u137 :: u138 :: u139 :: u140 :: u141 :: u142 :: u143 :: u144 :: u145 :: u146 :: u147 :: u148 :: u149 :: u150 :: u151 :: u152 :: u153 :: u154 :: u155 :: u156 :: u157 :: u158 :: u159 :: u160 :: u161 :: u162 :: u163 :: u164 :: u165 :: u166 :: u167 :: u168 :: u169 :: u170 :: u171 :: u172 :: u173 :: u174 :: u175 :: u176 :: u177 :: u178 :: u179 :: u180 :: u181 :: u182 :: u183 :: u184 :: u185 :: u186 :: u187 :: u188 :: u189 :: u190 :: u191 :: u192 :: u193 :: u194 :: u195 :: u196 :: u197 :: u198 :: u199 :: u200 :: u201 :: u202 :: u203 :: u204 :: u205 :: u206 :: u207 :: u208 :: u209 :: u210 :: []), []⟩ w3 := by
  conv => arg 2; whnf
  refine wp_region_noPanic ?_
  obtain ⟨i0, hi, hz0, hz1, hz2⟩ := info_parts num_info
  obtain ⟨b1, o1, hla, hb1, hc1⟩ := hN (by simp)
  subst hla
  have HIB := Lib.hid hIB
  have HLT := Lib.hid hLT
  have HTI := Lib.hid hti
  have HK := Lib.hid hK
  have HCL1 : Hid (∀ w', Below w3.heap.size w3 w' → ∀ (j : Nat) u, ([.int .i64 0, .int .i64 1000] : List Value)[j]? = some u → w'.cell? ((⟨b1, o1, none⟩ : Addr).add j) = some u) := Lib.hid fun w' z j u hj => by
    have q0 := (z.cell (p := ⟨b1, o1 + 0, none⟩) hb1).trans (hc1 0 (by simp))
    have q1 := (z.cell (p := ⟨b1, o1 + 1, none⟩) hb1).trans (hc1 1 (by simp))
    rw [Go.WideShapes.add_plain]
    match j, hj with
    | 0, hj => simp at hj; subst hj; exact q0
    | 1, hj => simp at hj; subst hj; exact q1
  have x0 : ∀ w' : World, w'.heap[Bs]? = some (.cells #[.string ⟨#[115]⟩, .int .i64 0, .int .i64 0, .int .i64 8000, .int .i64 1000, .slice (some ⟨b1, o1, none⟩) 2 2, .int .i64 60, .int .i64 40, .int .i64 1, .int .i64 100, .int .i64 10, .slice none 0 0, .slice ba 1 1] 26) → w'.cell? ⟨Bs, 0, none⟩ = some (.string ⟨#[115]⟩) := fun w' z => by rw [Lib.cell_of_heap z]; rfl
  have x1 : ∀ w' : World, w'.heap[Bs]? = some (.cells #[.string ⟨#[115]⟩, .int .i64 0, .int .i64 0, .int .i64 8000, .int .i64 1000, .slice (some ⟨b1, o1, none⟩) 2 2, .int .i64 60, .int .i64 40, .int .i64 1, .int .i64 100, .int .i64 10, .slice none 0 0, .slice ba 1 1] 26) → w'.cell? ⟨Bs, 1, none⟩ = some (.int .i64 0) := fun w' z => by rw [Lib.cell_of_heap z]; rfl
  have x2 : ∀ w' : World, w'.heap[Bs]? = some (.cells #[.string ⟨#[115]⟩, .int .i64 0, .int .i64 0, .int .i64 8000, .int .i64 1000, .slice (some ⟨b1, o1, none⟩) 2 2, .int .i64 60, .int .i64 40, .int .i64 1, .int .i64 100, .int .i64 10, .slice none 0 0, .slice ba 1 1] 26) → w'.cell? ⟨Bs, 2, none⟩ = some (.int .i64 0) := fun w' z => by rw [Lib.cell_of_heap z]; rfl
  have x3 : ∀ w' : World, w'.heap[Bs]? = some (.cells #[.string ⟨#[115]⟩, .int .i64 0, .int .i64 0, .int .i64 8000, .int .i64 1000, .slice (some ⟨b1, o1, none⟩) 2 2, .int .i64 60, .int .i64 40, .int .i64 1, .int .i64 100, .int .i64 10, .slice none 0 0, .slice ba 1 1] 26) → w'.cell? ⟨Bs, 3, none⟩ = some (.int .i64 8000) := fun w' z => by rw [Lib.cell_of_heap z]; rfl
  have x4 : ∀ w' : World, w'.heap[Bs]? = some (.cells #[.string ⟨#[115]⟩, .int .i64 0, .int .i64 0, .int .i64 8000, .int .i64 1000, .slice (some ⟨b1, o1, none⟩) 2 2, .int .i64 60, .int .i64 40, .int .i64 1, .int .i64 100, .int .i64 10, .slice none 0 0, .slice ba 1 1] 26) → w'.cell? ⟨Bs, 4, none⟩ = some (.int .i64 1000) := fun w' z => by rw [Lib.cell_of_heap z]; rfl
  have x5 : ∀ w' : World, w'.heap[Bs]? = some (.cells #[.string ⟨#[115]⟩, .int .i64 0, .int .i64 0, .int .i64 8000, .int .i64 1000, .slice (some ⟨b1, o1, none⟩) 2 2, .int .i64 60, .int .i64 40, .int .i64 1, .int .i64 100, .int .i64 10, .slice none 0 0, .slice ba 1 1] 26) → w'.cell? ⟨Bs, 5, none⟩ = some (.slice (some ⟨b1, o1, none⟩) 2 2) := fun w' z => by rw [Lib.cell_of_heap z]; rfl
  have x6 : ∀ w' : World, w'.heap[Bs]? = some (.cells #[.string ⟨#[115]⟩, .int .i64 0, .int .i64 0, .int .i64 8000, .int .i64 1000, .slice (some ⟨b1, o1, none⟩) 2 2, .int .i64 60, .int .i64 40, .int .i64 1, .int .i64 100, .int .i64 10, .slice none 0 0, .slice ba 1 1] 26) → w'.cell? ⟨Bs, 6, none⟩ = some (.int .i64 60) := fun w' z => by rw [Lib.cell_of_heap z]; rfl
  have x7 : ∀ w' : World, w'.heap[Bs]? = some (.cells #[.string ⟨#[115]⟩, .int .i64 0, .int .i64 0, .int .i64 8000, .int .i64 1000, .slice (some ⟨b1, o1, none⟩) 2 2, .int .i64 60, .int .i64 40, .int .i64 1, .int .i64 100, .int .i64 10, .slice none 0 0, .slice ba 1 1] 26) → w'.cell? ⟨Bs, 7, none⟩ = some (.int .i64 40) := fun w' z => by rw [Lib.cell_of_heap z]; rfl
  have x8 : ∀ w' : World, w'.heap[Bs]? = some (.cells #[.string ⟨#[115]⟩, .int .i64 0, .int .i64 0, .int .i64 8000, .int .i64 1000, .slice (some ⟨b1, o1, none⟩) 2 2, .int .i64 60, .int .i64 40, .int .i64 1, .int .i64 100, .int .i64 10, .slice none 0 0, .slice ba 1 1] 26) → w'.cell? ⟨Bs, 8, none⟩ = some (.int .i64 1) := fun w' z => by rw [Lib.cell_of_heap z]; rfl
  have x9 : ∀ w' : World, w'.heap[Bs]? = some (.cells #[.string ⟨#[115]⟩, .int .i64 0, .int .i64 0, .int .i64 8000, .int .i64 1000, .slice (some ⟨b1, o1, none⟩) 2 2, .int .i64 60, .int .i64 40, .int .i64 1, .int .i64 100, .int .i64 10, .slice none 0 0, .slice ba 1 1] 26) → w'.cell? ⟨Bs, 9, none⟩ = some (.int .i64 100) := fun w' z => by rw [Lib.cell_of_heap z]; rfl
  have x10 : ∀ w' : World, w'.heap[Bs]? = some (.cells #[.string ⟨#[115]⟩, .int .i64 0, .int .i64 0, .int .i64 8000, .int .i64 1000, .slice (some ⟨b1, o1, none⟩) 2 2, .int .i64 60, .int .i64 40, .int .i64 1, .int .i64 100, .int .i64 10, .slice none 0 0, .slice ba 1 1] 26) → w'.cell? ⟨Bs, 10, none⟩ = some (.int .i64 10) := fun w' z => by rw [Lib.cell_of_heap z]; rfl
  have x11 : ∀ w' : World, w'.heap[Bs]? = some (.cells #[.string ⟨#[115]⟩, .int .i64 0, .int .i64 0, .int .i64 8000, .int .i64 1000, .slice (some ⟨b1, o1, none⟩) 2 2, .int .i64 60, .int .i64 40, .int .i64 1, .int .i64 100, .int .i64 10, .slice none 0 0, .slice ba 1 1] 26) → w'.cell? ⟨Bs, 11, none⟩ = some (.slice none 0 0) := fun w' z => by rw [Lib.cell_of_heap z]; rfl
  have x12 : ∀ w' : World, w'.heap[Bs]? = some (.cells #[.string ⟨#[115]⟩, .int .i64 0, .int .i64 0, .int .i64 8000, .int .i64 1000, .slice (some ⟨b1, o1, none⟩) 2 2, .int .i64 60, .int .i64 40, .int .i64 1, .int .i64 100, .int .i64 10, .slice none 0 0, .slice ba 1 1] 26) → w'.cell? ⟨Bs, 12, none⟩ = some (.slice ba 1 1) := fun w' z => by rw [Lib.cell_of_heap z]; rfl
  have HS3 : Hid (∀ w', Below w3.heap.size w3 w' → (fun w' => w'.heap[Bs]? = some (.cells #[.string ⟨#[115]⟩, .int .i64 0, .int .i64 0, .int .i64 8000, .int .i64 1000, .slice (some ⟨b1, o1, none⟩) 2 2, .int .i64 60, .int .i64 40, .int .i64 1, .int .i64 100, .int .i64 10, .slice none 0 0, .slice ba 1 1] 26)) w') := Lib.hid fun w' z => (z.block Bs hLT.1).trans h13
  clear h13 hLT hN hIB hti hK hc1 hb1
  refine wp_region_held_drew (S := (fun w' => w'.heap[Bs]? = some (.cells #[.string ⟨#[115]⟩, .int .i64 0, .int .i64 0, .int .i64 8000, .int .i64 1000, .slice (some ⟨b1, o1, none⟩) 2 2, .int .i64 60, .int .i64 40, .int .i64 1, .int .i64 100, .int .i64 10, .slice none 0 0, .slice ba 1 1] 26))) (by kernel_rfl) (HS3.out _ (Below.refl _ _).drew) (fun hHeld => ?_)
  have hA := (Below.refl w3.heap.size w3).drew
  obtain ⟨wa, hwa⟩ : ∃ x, w3.drew = x := ⟨_, rfl⟩
  simp only [hwa] at hA hHeld ⊢
  clear hwa
  refine tk 0 ?_; refine tk 1 ?_; refine tk 3 ?_; refine tk 4 ?_; refine tk 5 ?_; refine tk 6 ?_; refine tk 7 ?_; refine tk 8 ?_; refine tk 9 ?_; refine tk 10 ?_; refine tk 11 ?_; refine tk 12 ?_; refine tk 13 ?_; refine tk 14 ?_; refine tk 15 ?_; refine tk 16 ?_; refine tk 17 ?_; refine tk 18 ?_; refine tk 19 ?_; refine tk 20 ?_; refine tk 22 ?_; refine tk 23 ?_
  refine wpAnyH_ready (rs := [2, 21]) (by kernel_rfl) (by simp) ?_
  refine AllReadyH.cons (o := _) (by simp only [List.getElem?_toArray, List.getElem?_cons_succ, List.getElem?_cons_zero]; rfl) (fun K1 hK1 => ?_) (AllReadyH.cons (o := _) (by simp only [List.getElem?_toArray, List.getElem?_cons_succ, List.getElem?_cons_zero]; rfl) (fun K1 hK1 => ?_) (AllReadyH.nil))
  · skip
    try simp only [List.getElem_toArray, List.getElem_cons_succ, List.getElem_cons_zero]
    rw [if_pos (by rfl)]
    go_wp2_with fail
    have hA2 := belA (.cells #[.string ⟨#[115, 101, 116]⟩, .string ⟨#[115]⟩] 9) hA
    have hohA2 := World.ownsRow_lit (base := w3.heap.size) (e := 9) (size := 1) wa #[.string ⟨#[115, 101, 116]⟩, .string ⟨#[115]⟩] 2 hA.size (by unfold maxLen; omega) (by simp)
    refine hK1.out _ _ (HS3.out _ hA2) (fun hHeld => ?_)
    clear hK1 K1
    try simp only [Act.put, List.setIfInBounds_toArray, List.set_cons_zero, List.set_cons_succ, List.getElem_toArray, List.getElem_cons_succ, List.getElem_cons_zero]
    refine wpAnyH_ready (rs := [21]) (by kernel_rfl) (by simp) ?_
    refine AllReadyH.cons (o := _) (by simp only [List.getElem?_toArray, List.getElem?_cons_succ, List.getElem?_cons_zero]; rfl) (fun K1 hK1 => ?_) (AllReadyH.nil)
    try simp only [List.getElem_toArray, List.getElem_cons_succ, List.getElem_cons_zero]
    rw [if_pos (by rfl)]
    go_wp2_with fail
    have hA3 := belA (.cells #[.int .i64 0, .int .i64 0, .int .i64 8000, .int .i64 1000, .int .i64 60, .int .i64 40, .int .i64 1, .int .i64 100, .int .i64 10] 3) hA2
    have hohA3 := World.ownsRow_lit (base := w3.heap.size) (e := 3) (size := 1) _ #[.int .i64 0, .int .i64 0, .int .i64 8000, .int .i64 1000, .int .i64 60, .int .i64 40, .int .i64 1, .int .i64 100, .int .i64 10] 9 hA2.size (by unfold maxLen; omega) (by simp)
    refine hK1.out _ _ (HS3.out _ hA3) (fun hHeld => ?_)
    clear hK1 K1
    try simp only [Act.put, List.setIfInBounds_toArray, List.set_cons_zero, List.set_cons_succ, List.getElem_toArray, List.getElem_cons_succ, List.getElem_cons_zero]
    refine wpAnyH_ready (rs := [24]) (by kernel_rfl) (by simp) ?_
    refine AllReadyH.cons (o := _) (by simp only [List.getElem?_toArray, List.getElem?_cons_succ, List.getElem?_cons_zero]; rfl) (fun K1 hK1 => ?_) (AllReadyH.nil)
    refine step_append_lies _ rfl (.tmp 84) (.tmp 86) 22 rfl w3.heap.size 3 i0 (.int .i64 0) 1 8 Tryz.underlying22 hi hz0 hz1 hz2 rfl (by decide) (.slice (some ⟨(wa.alloc (.cells #[.string ⟨#[115, 101, 116]⟩, .string ⟨#[115]⟩] 9)).heap.size, 0, none⟩) 9 9) 9 (nflat [0, 0, 8000, 1000, 60, 40, 1, 100, 10]) ?_ hohA3 ⟨b1, o1, none⟩ 2 2 [.int .i64 0, .int .i64 1000] ?_ rfl (HCL1.out _ hA3) ?_ (by decide) ?_ (by decide) hA3.size _ rfl ?_
    · simp [Act.eval]
    · simp [Act.eval]
    · simp [Value.oneCell']
    · unfold maxLen; omega
    intro g5 cap5 w5 hown5 hgrow5 hin5 hg5
    have hB5 : Below w3.heap.size w3 w5 := hA3.grown hgrow5 hA3.size (fun k e => (World.ownsRow.lt hohA3 k e).1)
    have hw5 := (hohA2.alloc (.cells #[.int .i64 0, .int .i64 0, .int .i64 8000, .int .i64 1000, .int .i64 60, .int .i64 40, .int .i64 1, .int .i64 100, .int .i64 10] 3)).kept hgrow5 (.inr (by simp [Value.ownBlock]))
    refine hK1.out _ _ (HS3.out _ hB5) (fun hHeld => ?_)
    clear hK1 K1
    try simp only [Act.put, List.setIfInBounds_toArray, List.set_cons_zero, List.set_cons_succ, List.getElem_toArray, List.getElem_cons_succ, List.getElem_cons_zero]
    refine wpAnyH_ready (rs := [25]) (by kernel_rfl) (by simp) ?_
    refine AllReadyH.cons (o := _) (by simp only [List.getElem?_toArray, List.getElem?_cons_succ, List.getElem?_cons_zero]; rfl) (fun K1 hK1 => ?_) (AllReadyH.nil)
    have HCL := Lib.hid (tx_call HIB.out ⟨HLT.out.1, Nat.le_of_lt HLT.out.2⟩ hB5 hw5 hown5 HTI.out)
    try simp only [List.getElem_toArray, List.getElem_cons_succ, List.getElem_cons_zero]
    go_simp
    (go_at_call 37; (with_reducible refine HCL.out.mono ?_); rintro e wz ⟨rfl, hIz, hbz, hkz⟩)
    go_wp2_with fail
    have hsz := (hkz.out Bs _ _ _ HLT.out.1 (HS3.out _ (Below.refl _ _)) (by decide) (by have := HLT.out.2; omega)).trans (HS3.out _ (Below.refl _ _))
    refine hK1.out _ _ hsz (fun hHeld => ?_)
    clear hK1 K1
    try simp only [Act.put, List.setIfInBounds_toArray, List.set_cons_zero, List.set_cons_succ, List.getElem_toArray, List.getElem_cons_succ, List.getElem_cons_zero]
    refine wpAnyH_done (by kernel_rfl) ?_ _
    exact HK.out _ _ _ _ _ _ _ _ _ _ _ _ _ _ _ _ _ _ _ _ _ _ _ _ _ _ _ ⟨hIz, Lib.hid hbz, Lib.hid hsz⟩
  · skip
    try simp only [List.getElem_toArray, List.getElem_cons_succ, List.getElem_cons_zero]
    rw [if_pos (by rfl)]
    go_wp2_with fail
    have hA2 := belA (.cells #[.int .i64 0, .int .i64 0, .int .i64 8000, .int .i64 1000, .int .i64 60, .int .i64 40, .int .i64 1, .int .i64 100, .int .i64 10] 3) hA
    have hohA2 := World.ownsRow_lit (base := w3.heap.size) (e := 3) (size := 1) wa #[.int .i64 0, .int .i64 0, .int .i64 8000, .int .i64 1000, .int .i64 60, .int .i64 40, .int .i64 1, .int .i64 100, .int .i64 10] 9 hA.size (by unfold maxLen; omega) (by simp)
    refine hK1.out _ _ (HS3.out _ hA2) (fun hHeld => ?_)
    clear hK1 K1
    try simp only [Act.put, List.setIfInBounds_toArray, List.set_cons_zero, List.set_cons_succ, List.getElem_toArray, List.getElem_cons_succ, List.getElem_cons_zero]
    refine wpAnyH_ready (rs := [2, 24]) (by kernel_rfl) (by simp) ?_
    refine AllReadyH.cons (o := _) (by simp only [List.getElem?_toArray, List.getElem?_cons_succ, List.getElem?_cons_zero]; rfl) (fun K1 hK1 => ?_) (AllReadyH.cons (o := _) (by simp only [List.getElem?_toArray, List.getElem?_cons_succ, List.getElem?_cons_zero]; rfl) (fun K1 hK1 => ?_) (AllReadyH.nil))
    · skip
      try simp only [List.getElem_toArray, List.getElem_cons_succ, List.getElem_cons_zero]
      rw [if_pos (by rfl)]
      go_wp2_with fail
      have hA3 := belA (.cells #[.string ⟨#[115, 101, 116]⟩, .string ⟨#[115]⟩] 9) hA2
      have hohA3 := World.ownsRow_lit (base := w3.heap.size) (e := 9) (size := 1) _ #[.string ⟨#[115, 101, 116]⟩, .string ⟨#[115]⟩] 2 hA2.size (by unfold maxLen; omega) (by simp)
      refine hK1.out _ _ (HS3.out _ hA3) (fun hHeld => ?_)
      clear hK1 K1
      try simp only [Act.put, List.setIfInBounds_toArray, List.set_cons_zero, List.set_cons_succ, List.getElem_toArray, List.getElem_cons_succ, List.getElem_cons_zero]
      refine wpAnyH_ready (rs := [24]) (by kernel_rfl) (by simp) ?_
      refine AllReadyH.cons (o := _) (by simp only [List.getElem?_toArray, List.getElem?_cons_succ, List.getElem?_cons_zero]; rfl) (fun K1 hK1 => ?_) (AllReadyH.nil)
      refine step_append_lies _ rfl (.tmp 84) (.tmp 86) 22 rfl w3.heap.size 3 i0 (.int .i64 0) 1 8 Tryz.underlying22 hi hz0 hz1 hz2 rfl (by decide) (.slice (some ⟨wa.heap.size, 0, none⟩) 9 9) 9 (nflat [0, 0, 8000, 1000, 60, 40, 1, 100, 10]) ?_ (hohA2.alloc (.cells #[.string ⟨#[115, 101, 116]⟩, .string ⟨#[115]⟩] 9)) ⟨b1, o1, none⟩ 2 2 [.int .i64 0, .int .i64 1000] ?_ rfl (HCL1.out _ hA3) ?_ (by decide) ?_ (by decide) hA3.size _ rfl ?_
      · simp [Act.eval]
      · simp [Act.eval]
      · simp [Value.oneCell']
      · unfold maxLen; omega
      intro g5 cap5 w5 hown5 hgrow5 hin5 hg5
      have hB5 : Below w3.heap.size w3 w5 := hA3.grown hgrow5 hA3.size (fun k e => (World.ownsRow.lt (hohA2.alloc (.cells #[.string ⟨#[115, 101, 116]⟩, .string ⟨#[115]⟩] 9)) k e).1)
      have hw5 := hohA3.kept hgrow5 (.inr (by simp [Value.ownBlock]))
      rw [show (wa.alloc (.cells #[.int .i64 0, .int .i64 0, .int .i64 8000, .int .i64 1000, .int .i64 60, .int .i64 40, .int .i64 1, .int .i64 100, .int .i64 10] 3)).heap.size = wa.heap.size + 1 by simp] at hw5
      refine hK1.out _ _ (HS3.out _ hB5) (fun hHeld => ?_)
      clear hK1 K1
      try simp only [Act.put, List.setIfInBounds_toArray, List.set_cons_zero, List.set_cons_succ, List.getElem_toArray, List.getElem_cons_succ, List.getElem_cons_zero]
      refine wpAnyH_ready (rs := [25]) (by kernel_rfl) (by simp) ?_
      refine AllReadyH.cons (o := _) (by simp only [List.getElem?_toArray, List.getElem?_cons_succ, List.getElem?_cons_zero]; rfl) (fun K1 hK1 => ?_) (AllReadyH.nil)
      have HCL := Lib.hid (tx_call HIB.out ⟨HLT.out.1, Nat.le_of_lt HLT.out.2⟩ hB5 hw5 hown5 HTI.out)
      try simp only [List.getElem_toArray, List.getElem_cons_succ, List.getElem_cons_zero]
      go_simp
      (go_at_call 37; (with_reducible refine HCL.out.mono ?_); rintro e wz ⟨rfl, hIz, hbz, hkz⟩)
      go_wp2_with fail
      have hsz := (hkz.out Bs _ _ _ HLT.out.1 (HS3.out _ (Below.refl _ _)) (by decide) (by have := HLT.out.2; omega)).trans (HS3.out _ (Below.refl _ _))
      refine hK1.out _ _ hsz (fun hHeld => ?_)
      clear hK1 K1
      try simp only [Act.put, List.setIfInBounds_toArray, List.set_cons_zero, List.set_cons_succ, List.getElem_toArray, List.getElem_cons_succ, List.getElem_cons_zero]
      refine wpAnyH_done (by kernel_rfl) ?_ _
      exact HK.out _ _ _ _ _ _ _ _ _ _ _ _ _ _ _ _ _ _ _ _ _ _ _ _ _ _ _ ⟨hIz, Lib.hid hbz, Lib.hid hsz⟩
    · skip
      refine step_append_lies _ rfl (.tmp 84) (.tmp 86) 22 rfl w3.heap.size 3 i0 (.int .i64 0) 1 8 Tryz.underlying22 hi hz0 hz1 hz2 rfl (by decide) (.slice (some ⟨wa.heap.size, 0, none⟩) 9 9) 9 (nflat [0, 0, 8000, 1000, 60, 40, 1, 100, 10]) ?_ hohA2 ⟨b1, o1, none⟩ 2 2 [.int .i64 0, .int .i64 1000] ?_ rfl (HCL1.out _ hA2) ?_ (by decide) ?_ (by decide) hA2.size _ rfl ?_
      · simp [Act.eval]
      · simp [Act.eval]
      · simp [Value.oneCell']
      · unfold maxLen; omega
      intro g5 cap5 w5 hown5 hgrow5 hin5 hg5
      have hB5 : Below w3.heap.size w3 w5 := hA2.grown hgrow5 hA2.size (fun k e => (World.ownsRow.lt hohA2 k e).1)
      refine hK1.out _ _ (HS3.out _ hB5) (fun hHeld => ?_)
      clear hK1 K1
      try simp only [Act.put, List.setIfInBounds_toArray, List.set_cons_zero, List.set_cons_succ, List.getElem_toArray, List.getElem_cons_succ, List.getElem_cons_zero]
      refine wpAnyH_ready (rs := [2]) (by kernel_rfl) (by simp) ?_
      refine AllReadyH.cons (o := _) (by simp only [List.getElem?_toArray, List.getElem?_cons_succ, List.getElem?_cons_zero]; rfl) (fun K1 hK1 => ?_) (AllReadyH.nil)
      try simp only [List.getElem_toArray, List.getElem_cons_succ, List.getElem_cons_zero]
      rw [if_pos (by rfl)]
      go_wp2_with fail
      have hA3 := belA (.cells #[.string ⟨#[115, 101, 116]⟩, .string ⟨#[115]⟩] 9) hB5
      have hohA3 := World.ownsRow_lit (base := w3.heap.size) (e := 9) (size := 1) _ #[.string ⟨#[115, 101, 116]⟩, .string ⟨#[115]⟩] 2 hB5.size (by unfold maxLen; omega) (by simp)
      refine hK1.out _ _ (HS3.out _ hA3) (fun hHeld => ?_)
      clear hK1 K1
      try simp only [Act.put, List.setIfInBounds_toArray, List.set_cons_zero, List.set_cons_succ, List.getElem_toArray, List.getElem_cons_succ, List.getElem_cons_zero]
      refine wpAnyH_ready (rs := [25]) (by kernel_rfl) (by simp) ?_
      refine AllReadyH.cons (o := _) (by simp only [List.getElem?_toArray, List.getElem?_cons_succ, List.getElem?_cons_zero]; rfl) (fun K1 hK1 => ?_) (AllReadyH.nil)
      have HCL := Lib.hid (tx_call HIB.out ⟨HLT.out.1, Nat.le_of_lt HLT.out.2⟩ hA3 hohA3 (hown5.alloc (.cells #[.string ⟨#[115, 101, 116]⟩, .string ⟨#[115]⟩] 9)) HTI.out)
      try simp only [List.getElem_toArray, List.getElem_cons_succ, List.getElem_cons_zero]
      go_simp
      (go_at_call 37; (with_reducible refine HCL.out.mono ?_); rintro e wz ⟨rfl, hIz, hbz, hkz⟩)
      go_wp2_with fail
      have hsz := (hkz.out Bs _ _ _ HLT.out.1 (HS3.out _ (Below.refl _ _)) (by decide) (by have := HLT.out.2; omega)).trans (HS3.out _ (Below.refl _ _))
      refine hK1.out _ _ hsz (fun hHeld => ?_)
      clear hK1 K1
      try simp only [Act.put, List.setIfInBounds_toArray, List.set_cons_zero, List.set_cons_succ, List.getElem_toArray, List.getElem_cons_succ, List.getElem_cons_zero]
      refine wpAnyH_done (by kernel_rfl) ?_ _
      exact HK.out _ _ _ _ _ _ _ _ _ _ _ _ _ _ _ _ _ _ _ _ _ _ _ _ _ _ _ ⟨hIz, Lib.hid hbz, Lib.hid hsz⟩
end Go.Proofs.YtfkmnneieglolaaGreatDoor
namespace Go.Proofs.YtfkmnneieglolaaGreatDoor
set_option linter.unusedSimpArgs false
open Go.RowKit Go.Shelf
attribute [local go_sem] Oper.semAt_some
abbrev HVW (sa _la _ba : Option Addr) : Value := .agg #[.string ⟨#[104]⟩, .int .i64 8000, .slice sa 1 1, .slice none 0 0]
abbrev HCW (sa : Option Addr) : Obj := .cells #[.string ⟨#[104]⟩, .int .i64 8000, .slice sa 1 1, .slice none 0 0] 50
abbrev ShC : Obj := .cells #[.slice none 0 0, .slice none 0 0] 56
def tC : List UInt8 := lineS ⟨#[98, 114, 105, 99, 107]⟩ ⟨#[98]⟩ [7, 2]
set_option maxRecDepth 100000 in
set_option maxHeartbeats 16000000 in
theorem text_ex (b2 : Nat) (la ba : Option Addr) (w : World) (ht : TabP w) (l2 : b2 < w.heap.size) (hs : SetIn w (rW la ba)) (hsa : SetAt w b2 (rW la ba)) :
    Calls Tryz.prog 15 #[.agg #[.string ⟨#[104]⟩, .int .i64 8000, .slice (some ⟨b2, 0, none⟩) 1 1, .slice none 0 0], ShZ] w fun e w' => e = .returned (.tuple #[.string ⟨(tA ++ tB ++ tC).toArray⟩, .int .i64 0]) ∧ Below w.heap.size w w' := by
  have hb0 := below_two w (HCW (some ⟨b2, 0, none⟩)) ShC
  have HX : Hid (∀ wx, Below ((w.alloc (HCW (some ⟨b2, 0, none⟩))).alloc ShC).heap.size ((w.alloc (HCW (some ⟨b2, 0, none⟩))).alloc ShC) wx → Below w.heap.size w wx) := Lib.hid fun wx h => mono_two _ _ h
  have HI := Lib.hid ((hW_in w b2 la ba l2 hs hsa).grow hb0)
  have HS := Lib.hid (hs.grow hb0)
  have HSA := Lib.hid (set13 (hsa.below hb0 l2) (Nat.lt_of_lt_of_le l2 hb0.size))
  have HT := Lib.hid (tab_below ht hb0)
  have HV : Hid (∀ W, HouseIn W (hW (some ⟨b2, 0, none⟩) la ba) → Calls Tryz.prog 35 #[.agg #[.string ⟨#[104]⟩, .int .i64 8000, .slice (some ⟨b2, 0, none⟩) 1 1, .slice none 0 0]] W fun e w' => e = .returned (.bool true) ∧ Below W.heap.size W w') := Lib.hid fun W h => by
    have := housevalid_any (hW (some ⟨b2, 0, none⟩) la ba) W h
    rw [hW_ok] at this
    exact this
  have HW := Lib.hid writable_none
  have HL := Lib.hid line_lit
  have hc0 : ∀ wx, Below ((w.alloc (HCW (some ⟨b2, 0, none⟩))).alloc ShC).heap.size ((w.alloc (HCW (some ⟨b2, 0, none⟩))).alloc ShC) wx → wx.cell? ⟨w.heap.size, 0, none⟩ = some (.string ⟨#[104]⟩) ∧ wx.cell? ⟨w.heap.size, 1, none⟩ = some (.int .i64 8000) ∧ wx.cell? ⟨w.heap.size, 2, none⟩ = some (.slice (some ⟨b2, 0, none⟩) 1 1) ∧ wx.cell? ⟨w.heap.size, 3, none⟩ = some (.slice none 0 0) ∧ wx.cell? ⟨w.heap.size + 1, 0, none⟩ = some (.slice none 0 0) ∧ wx.cell? ⟨w.heap.size + 1, 1, none⟩ = some (.slice none 0 0) := fun wx h =>
    ⟨(h.cell (p := ⟨w.heap.size, 0, none⟩) (by simp; omega)).trans (by go_simp), (h.cell (p := ⟨w.heap.size, 1, none⟩) (by simp; omega)).trans (by go_simp), (h.cell (p := ⟨w.heap.size, 2, none⟩) (by simp; omega)).trans (by go_simp), (h.cell (p := ⟨w.heap.size, 3, none⟩) (by simp; omega)).trans (by go_simp), (h.cell (p := ⟨w.heap.size + 1, 0, none⟩) (by simp)).trans (by go_simp), (h.cell (p := ⟨w.heap.size + 1, 1, none⟩) (by simp)).trans (by go_simp)⟩
  have HC0 := Lib.hid hc0
  clear hb0 hs hsa ht hc0 l2
  go_enter Tryz.func15, Tryz.ntmps15
  go_upto_region 1 with (fail)
  obtain ⟨W0, hW0⟩ : ∃ W0 : World, (w.alloc (HCW (some ⟨b2, 0, none⟩))).alloc ShC = W0 := ⟨_, rfl⟩
  simp only [hW0] at HX HI HS HSA HT HC0 ⊢
  obtain ⟨B1, hB1⟩ : ∃ b, w.heap.size = b := ⟨_, rfl⟩
  obtain ⟨B2, hB2⟩ : ∃ b, B1 + 1 = b := ⟨_, rfl⟩
  simp only [hB1, hB2] at HC0 ⊢
  clear hW0 hB1 hB2
  have hB := Below.refl W0.heap.size W0
  have c0 : ∀ wx, Below W0.heap.size W0 wx → wx.cell? ⟨B1, 0, none⟩ = some (.string ⟨#[104]⟩) := fun wx h => (HC0.out wx h).1
  have c1 : ∀ wx, Below W0.heap.size W0 wx → wx.cell? ⟨B1, 1, none⟩ = some (.int .i64 8000) := fun wx h => (HC0.out wx h).2.1
  have c2 : ∀ wx, Below W0.heap.size W0 wx → wx.cell? ⟨B1, 2, none⟩ = some (.slice (some ⟨b2, 0, none⟩) 1 1) := fun wx h => (HC0.out wx h).2.2.1
  have c3 : ∀ wx, Below W0.heap.size W0 wx → wx.cell? ⟨B1, 3, none⟩ = some (.slice none 0 0) := fun wx h => (HC0.out wx h).2.2.2.1
  have c4 : ∀ wx, Below W0.heap.size W0 wx → wx.cell? ⟨B2, 0, none⟩ = some (.slice none 0 0) := fun wx h => (HC0.out wx h).2.2.2.2.1
  have c5 : ∀ wx, Below W0.heap.size W0 wx → wx.cell? ⟨B2, 1, none⟩ = some (.slice none 0 0) := fun wx h => (HC0.out wx h).2.2.2.2.2
  go_upto_region 3 with (first
    | (go_at_call 35; (with_reducible refine (HV.out _ HI.out).mono ?_); rintro e wx ⟨rfl, hb⟩; have hBn := hB.trans (hb.mono hB.size); clear hB hb; have hB := hBn; clear hBn)
    | (go_at_call 36; (with_reducible refine (HW.out _).mono ?_); rintro e wy ⟨rfl, hb⟩; have hBn := hB.trans (hb.mono hB.size); clear hB hb; have hB := hBn; clear hBn))
  go_upto_region 4 with (fail)
  obtain ⟨B, hBB⟩ : ∃ b, wy.heap.size = b := ⟨_, rfl⟩
  have HI1 := Lib.hid (isB_new wy)
  have hB1 := belA (.cells #[.pointer none, .slice none 0 0] 88) hB
  have HLO : Hid (W0.heap.size ≤ B ∧ B < (wy.alloc (.cells #[.pointer none, .slice none 0 0] 88)).heap.size) := Lib.hid ⟨by have := hB.size; omega, by simp; omega⟩
  rw [hBB] at HI1 ⊢
  clear hBB hB
  generalize wy.alloc (.cells #[.pointer none, .slice none 0 0] 88) = w1 at *
  have hB1a : ∀ o, Below W0.heap.size W0 (w1.alloc o) := fun o => belA o hB1
  have HL1 : Hid (Calls Tryz.prog 37 #[.pointer (some ⟨B, 0, none⟩), .slice (some ⟨w1.heap.size, 0, none⟩) 2 2, .slice (some ⟨w1.heap.size + 1, 0, none⟩) 1 1] ((w1.alloc (.cells #[.string ⟨#[104, 111, 117, 115, 101]⟩, .string ⟨#[104]⟩] 9)).alloc (.cells #[.int .i64 8000] 3)) fun e w' => e = .returned (.tuple #[]) ∧ Hid (IsB B B (Lib.byteCells tA) w') ∧ Below B w1 w') := Lib.hid
    ((line_lit B B [] ⟨#[104, 111, 117, 115, 101]⟩ ⟨#[104]⟩ [8000] 1 w1 rfl HI1.out (Nat.le_of_lt HLO.out.2) (tab_below HT.out hB1) (by simp) (fun k hk => by obtain rfl : k = 0 := Nat.lt_one_iff.1 hk; decide) (by simp) (by decide +kernel)).mono fun e w' h => ⟨h.1, h.2.1, h.2.2.1⟩)
  go_upto_region 5 with (go_at_call 37; (with_reducible refine HL1.out.mono ?_); rintro e w2 ⟨rfl, hI2, hb2⟩; have HI2 := hI2; have hB2 := hB1.trans (hb2.mono HLO.out.1); clear hI2)
  clear HL1 HI1 hB1 hB1a HC0
  have HSB := Lib.hid hb2.size
  clear hb2
  go_wp2_with fail
  refine wp_loop_rounds 1 ?_
  rw [rounds_succ]
  go_wp2_with fail
  refine wp_loop_rounds 2 ?_
  rw [rounds_succ]
  obtain ⟨x0, x1, x2, x3, x4, x5, x6, x7, x8, x9, x10, x11, x12⟩ := HSA.out
  go_upto_region 13 with (fail)
  have hB3 := belA (SC (rW la ba)) hB2
  have h13 := heap_new w2 (SC (rW la ba))
  have HI3 := Lib.hid (isB_kept HI2.out (below_new w2 (SC (rW la ba))))
  have HLT : Hid (w2.heap.size < (w2.alloc (SC (rW la ba))).heap.size ∧ B < w2.heap.size) := Lib.hid ⟨by simp, by have := HSB.out; have := HLO.out; omega⟩
  obtain ⟨Bs, hBs⟩ : ∃ b, w2.heap.size = b := ⟨_, rfl⟩
  rw [hBs] at h13 HLT ⊢
  clear hBs x0 x1 x2 x3 x4 x5 x6 x7 x8 x9 x10 x11 x12 hB2 HI2 HSB
  generalize w2.alloc (SC (rW la ba)) = w3 at *
  have HN3 := Lib.hid ((HS.out.grow hB3).lines)
  refine tx13 h13 HLT.out HN3.out HI3.out (fun w' z => tab_below HT.out (hB3.trans (z.mono hB3.size))) ?_
  intro v63 v64 v65 v66 v67 v68 v69 v70 v71 v72 v73 v74 v75 v76 v77 v78 v79 v80 v81 v82 v83 v84 v85 v86 v87 v88 w4 hx
  obtain ⟨HI4, HB4, HS4⟩ := hx
  have hB4 := hB3.trans (HB4.out.mono HLO.out.1)
  have hz4 := HB4.out.size
  have y11 : w4.cell? ⟨Bs, 11, none⟩ = some (.slice none 0 0) := by rw [Lib.cell_of_heap HS4.out]; rfl
  have y12 : w4.cell? ⟨Bs, 12, none⟩ = some (.slice ba 1 1) := by rw [Lib.cell_of_heap HS4.out]; rfl
  obtain ⟨bb, ob, hba, hbb, hbc⟩ := HS.out.bricks (by show 0 < 1; decide)
  obtain ⟨k0, k1, k2⟩ := hbc 0 (by show 0 < 1; decide)
  have hba' : ba = some ⟨bb, ob, none⟩ := hba
  subst hba'
  have q0 : ∀ wx, Below W0.heap.size W0 wx → wx.cell? ⟨bb, ob, none⟩ = some (.string ⟨#[98]⟩) := fun wx h => (h.cell (p := ⟨bb, ob, none⟩) hbb).trans k0
  have q1 : ∀ wx, Below W0.heap.size W0 wx → wx.cell? ⟨bb, ob + 1, none⟩ = some (.int .i64 7) := fun wx h => (h.cell (p := ⟨bb, ob + 1, none⟩) hbb).trans k1
  have q2 : ∀ wx, Below W0.heap.size W0 wx → wx.cell? ⟨bb, ob + 2, none⟩ = some (.int .i64 2) := fun wx h => (h.cell (p := ⟨bb, ob + 2, none⟩) hbb).trans k2
  clear h13 HN3 HI3 hB3 hba hbb hbc k0 k1 k2 HS4 HB4
  go_wp2_with fail
  refine wp_loop_rounds 1 ?_
  rw [rounds_succ]
  go_wp2_with fail
  refine wp_loop_rounds 2 ?_
  rw [rounds_succ]
  go_upto_region 22 with (fail)
  have hB5 := belA (.cells #[.string ⟨#[98]⟩, .int .i64 7, .int .i64 2] 61) hB4
  have HI5 := Lib.hid (isB_kept HI4.out (below_new w4 (.cells #[.string ⟨#[98]⟩, .int .i64 7, .int .i64 2] 61)))
  have HZ5 : Hid (B ≤ (w4.alloc (.cells #[.string ⟨#[98]⟩, .int .i64 7, .int .i64 2] 61)).heap.size) := Lib.hid (by have := HLT.out; simp; omega)
  have z0 : (w4.alloc (.cells #[.string ⟨#[98]⟩, .int .i64 7, .int .i64 2] 61)).cell? ⟨w4.heap.size, 0, none⟩ = some (.string ⟨#[98]⟩) := by simp
  have z1 : (w4.alloc (.cells #[.string ⟨#[98]⟩, .int .i64 7, .int .i64 2] 61)).cell? ⟨w4.heap.size, 1, none⟩ = some (.int .i64 7) := by simp
  have z2 : (w4.alloc (.cells #[.string ⟨#[98]⟩, .int .i64 7, .int .i64 2] 61)).cell? ⟨w4.heap.size, 2, none⟩ = some (.int .i64 2) := by simp
  have z3 : w4.heap.size < (w4.alloc (.cells #[.string ⟨#[98]⟩, .int .i64 7, .int .i64 2] 61)).heap.size := by simp
  clear hB4 HI4 y11 y12 q0 q1 q2 hz4
  obtain ⟨Bt, hBt⟩ : ∃ b, w4.heap.size = b := ⟨_, rfl⟩
  simp only [hBt] at z0 z1 z2 z3 ⊢
  generalize w4.alloc (.cells #[.string ⟨#[98]⟩, .int .i64 7, .int .i64 2] 61) = w5 at *
  clear hBt
  have HL3 : Hid (Calls Tryz.prog 37 #[.pointer (some ⟨B, 0, none⟩), .slice (some ⟨w5.heap.size, 0, none⟩) 2 2, .slice (some ⟨w5.heap.size + 1, 0, none⟩) 2 2] ((w5.alloc (.cells #[.string ⟨#[98, 114, 105, 99, 107]⟩, .string ⟨#[98]⟩] 9)).alloc (.cells #[.int .i64 7, .int .i64 2] 3)) fun e w' => e = .returned (.tuple #[]) ∧ Hid (IsB B B (Lib.byteCells (tA ++ tB ++ tC)) w') ∧ Below B w5 w') := Lib.hid
    ((line_lit B B (tA ++ tB) ⟨#[98, 114, 105, 99, 107]⟩ ⟨#[98]⟩ [7, 2] 2 w5 rfl HI5.out HZ5.out (tab_below HT.out hB5) (by simp) (fun k hk => by rcases (show k = 0 ∨ k = 1 by have : k < 2 := hk; omega) with rfl | rfl <;> decide) (by decide +kernel) (by decide +kernel)).mono fun e w' h => ⟨h.1, h.2.1, h.2.2.1⟩)
  go_wp2_with (go_at_call 37; (with_reducible refine HL3.out.mono ?_); rintro e w6 ⟨rfl, hI6, hb6⟩; have HI6 := hI6; have hB6 := hB5.trans (hb6.mono HLO.out.1); have hz6 := hb6.size; clear hI6)
  clear z0 z1 z2 z3 hB5 HI5 HL3 hb6
  rw [rounds_succ]
  go_wp2_with fail
  rw [rounds_succ]
  go_wp2_with fail
  refine wp_loop_rounds 1 ?_
  rw [rounds_succ]
  go_wp2_with fail
  refine wp_loop_rounds 1 ?_
  rw [rounds_succ]
  have HLN := Lib.hid (blen_any B B _ w6 HI6.out)
  have g0 : decide ((262144 : Int) < ((Lib.byteCells (tA ++ tB ++ tC)).length : Int)) = false := by decide +kernel
  have g1 : decide (262144 < (Lib.byteCells (tA ++ tB ++ tC)).length) = false := by decide +kernel
  obtain ⟨N, hN⟩ : ∃ N, (Lib.byteCells (tA ++ tB ++ tC)).length = N := ⟨_, rfl⟩
  rw [hN] at HLN g0 g1
  have HST := Lib.hid (bstr_any B B (tA ++ tB ++ tC) w6 HI6.out (by decide +kernel))
  clear hN
  go_wp2_with (first
    | (go_at_call 38; (with_reducible refine HLN.out.mono ?_); rintro e wq ⟨rfl, hq⟩; subst hq)
    | (go_at_call 39; (with_reducible refine HST.out.mono ?_); rintro e w7 ⟨rfl, hb7⟩; have hB7 := hB6.trans (hb7.mono HLO.out.1)))
  go_ret2
  exact ⟨by rw [List.append_assoc]; rfl, HX.out _ hB7⟩
end Go.Proofs.YtfkmnneieglolaaGreatDoor
namespace Go.Proofs.YtfkmnneieglolaaGreatDoor
set_option linter.unusedSimpArgs false
open Go.RowKit Go.Shelf
attribute [local go_sem] Oper.semAt_some
theorem eq_ex (a1 a2 : Option Addr) (F : List Int) (c1 c2 n : Nat) (w : World) (hn : F.length = n) (hl : n ≤ 1100) (h1 : Nums w.heap.size w a1 F) (h2 : Nums w.heap.size w a2 F) :
    Calls Tryz.prog 16 #[.slice a1 n c1, .slice a2 n c2] w fun e w' => e = .returned (.bool true) ∧ Below w.heap.size w w' := by
  subst hn
  exact (num_equal a1 a2 F F c1 c2 w hl h1 h2 hl).mono fun e w' h => by rw [decide_eq_true rfl] at h; exact h
theorem text_is : (⟨(tA ++ tB ++ tC).toArray⟩ : ByteArray) = ⟨#[104, 111, 117, 115, 101, 32, 104, 32, 56, 48, 48, 48, 10, 115, 101, 116, 32, 115, 32, 48, 32, 48, 32, 56, 48, 48, 48, 32, 49, 48, 48, 48, 32, 54, 48, 32, 52, 48, 32, 49, 32, 49, 48, 48, 32, 49, 48, 32, 48, 32, 49, 48, 48, 48, 10, 98, 114, 105, 99, 107, 32, 98, 32, 55, 32, 50, 10]⟩ := by
  have : (tA ++ tB ++ tC) = [104, 111, 117, 115, 101, 32, 104, 32, 56, 48, 48, 48, 10, 115, 101, 116, 32, 115, 32, 48, 32, 48, 32, 56, 48, 48, 48, 32, 49, 48, 48, 48, 32, 54, 48, 32, 52, 48, 32, 49, 32, 49, 48, 48, 32, 49, 48, 32, 48, 32, 49, 48, 48, 48, 10, 98, 114, 105, 99, 107, 32, 98, 32, 55, 32, 50, 10] := by decide +kernel
  rw [this]
set_option maxRecDepth 100000 in
set_option maxHeartbeats 8000000 in
theorem awake_any (w : World) (ht : TabP w) : Calls Tryz.prog 4 #[] w fun e w' => e = .returned (.bool true) ∧ Below w.heap.size w w' := by
  have HT := Lib.hid ht
  clear ht
  have HWR := Lib.hid written_any
  have HBA : Hid (∀ (la ba : Option Addr) (w : World), SetIn w (rW la ba) → Calls Tryz.prog 10 #[SV (rW la ba)] w fun e w' => e = .returned (.tuple #[.int .i64 6, .int .i64 0]) ∧ Below w.heap.size w w') := Lib.hid fun la ba w h => by
    have := balance_any (rW la ba) w h
    rw [show balanceB (rW la ba) = 6 by unfold balanceB; rw [if_pos (rW_ok la ba), rW_bal], show weightEr (rW la ba) = 0 by unfold weightEr; rw [if_pos (rW_ok la ba)]] at this
    exact this
  have HB : Hid (Below w.heap.size w w) := Lib.hid (Below.refl _ _)
  go_enter Tryz.func4, Tryz.ntmps4
  go_upto_region 2 with (first
    | (go_at_call 13; (with_reducible refine (HWR.out _).mono ?_); rintro e w1 ⟨hx, hb1⟩; obtain ⟨la1, ba1, rfl, hS1⟩ := hx.out; have HS1 := Lib.hid hS1; have HB1 := Lib.hid (HB.out.trans (hb1.mono HB.out.size)); clear hx hb1 hS1)
    | (go_at_call 10; (with_reducible refine (HBA.out la1 ba1 _ HS1.out).mono ?_); rintro e w2 ⟨rfl, hb2⟩; have HB2 := Lib.hid (HB1.out.trans (hb2.mono HB1.out.size)); clear hb2))
  go_upto_region 3 with (fail)
  have HJ := Lib.hid (jobs_two w2 jA jB)
  have HB3 := Lib.hid (HB2.out.trans ((below_new w2 (.cells #[.string ⟨#[97]⟩, .bool false, .int .i64 16, .string ⟨#[98]⟩, .bool true, .int .i64 18] 44)).mono HB2.out.size))
  obtain ⟨jb, hjb⟩ : ∃ b, w2.heap.size = b := ⟨_, rfl⟩
  obtain ⟨w3, hw3⟩ : ∃ W : World, w2.alloc (.cells #[.string ⟨#[97]⟩, .bool false, .int .i64 16, .string ⟨#[98]⟩, .bool true, .int .i64 18] 44) = W := ⟨_, rfl⟩
  have HJ3 : Hid (Jobs w3 jb [jA, jB]) := Lib.hid (by rw [← hjb, ← hw3]; exact HJ.out)
  rw [hw3] at HB3 ⊢
  rw [hjb]
  clear hw3 hjb HJ HB1 HB2 HS1 HBA
  go_upto_region 4 with (first
    | (go_at_call 13; (with_reducible refine (HWR.out _).mono ?_); rintro e w4 ⟨hx, hb4⟩; obtain ⟨la2, ba2, rfl, hS4⟩ := hx.out; have HOR := Lib.hid (order_ex (rW la2 ba2) jb 2 w4 (rW_ok _ _) hS4 (rW_bal _ _) rfl rfl (HJ3.out.grow hb4)); have HB4 := Lib.hid (HB3.out.trans (hb4.mono HB3.out.size)); clear hx hb4 hS4)
    | (go_at_call 14; (with_reducible refine HOR.out.mono ?_); rintro e w5 ⟨hx, hb5⟩; obtain ⟨oa, oc, rfl, hN5⟩ := hx.out; have HN5 := Lib.hid hN5; have HB5 := Lib.hid (HB4.out.trans (hb5.mono HB4.out.size)); clear hx hb5 hN5))
  clear HOR HB3 HB4 HJ3
  go_upto_region 5 with (go_at_call 13; (with_reducible refine (HWR.out _).mono ?_); rintro e w6 ⟨hx, hb6⟩; obtain ⟨la3, ba3, rfl, hS6⟩ := hx.out; have HS6 := Lib.hid hS6; have HN6 := Lib.hid (HN5.out.grow hb6); have HB6 := Lib.hid (HB5.out.trans (hb6.mono HB5.out.size)); clear hx hb6 hS6)
  have hb7 : Below w6.heap.size w6 ((w6.alloc (SC (rW la3 ba3))).alloc (HCW (some ⟨w6.heap.size, 0, none⟩))) := below_two w6 _ _
  have hb8 := below_new (w6.alloc (SC (rW la3 ba3))) (HCW (some ⟨w6.heap.size, 0, none⟩))
  have HTX := Lib.hid (text_ex w6.heap.size la3 ba3 ((w6.alloc (SC (rW la3 ba3))).alloc (HCW (some ⟨w6.heap.size, 0, none⟩))) (tab_below HT.out (HB6.out.trans (hb7.mono HB6.out.size))) (by simp; omega) (HS6.out.grow hb7) ((SetAt.new w6 (rW la3 ba3) 26).below hb8 (by simp)))
  rw [text_is] at HTX
  have HN7 := Lib.hid (HN6.out.grow hb7)
  have HB7 := Lib.hid (HB6.out.trans (hb7.mono HB6.out.size))
  clear hb7 hb8 HN5 HN6 HB5 HB6 HS6
  go_upto_region 6 with (go_at_call 15; (with_reducible refine HTX.out.mono ?_); rintro e w8 ⟨rfl, hb8⟩; have HN8 := Lib.hid (HN7.out.grow hb8); have HB8 := Lib.hid (HB7.out.trans (hb8.mono HB7.out.size)); clear hb8)
  have HNN : Hid (∀ w : World, Nums (w.alloc (.cells #[.int .i64 0, .int .i64 1] 3)).heap.size (w.alloc (.cells #[.int .i64 0, .int .i64 1] 3)) (some ⟨w.heap.size, 0, none⟩) [0, 1]) := Lib.hid fun w => nums_new w 2 [0, 1] rfl (by decide)
  clear HN7 HB7 HTX HWR HT HB
  go_wp2_with (go_at_call 16; (with_reducible refine (eq_ex _ _ [0, 1] _ _ 2 _ rfl (by decide) (HN8.out.grow (below_new _ _)) (HNN.out _)).mono ?_); rintro e w9 ⟨rfl, hb9⟩; have HB9 := Lib.hid (HB8.out.trans ((mono_in _ hb9).mono HB8.out.size)); clear hb9)
  go_ret
  exact ⟨rfl, HB9.out⟩
end Go.Proofs.YtfkmnneieglolaaGreatDoor
namespace Go.Proofs.YtfkmnneieglolaaGreatDoor
open Go.RowKit Go.Shelf
theorem first_some {low high : Int} {L : List BrickR} : (firstP low high L).isSome = true ↔ ∃ x, IsSum L x ∧ low ≤ x ∧ x ≤ high := by
  have h := first_best low high L
  cases hq : firstP low high L with
  | none =>
    rw [hq] at h
    simp only [Option.isSome_none, Bool.false_eq_true, false_iff]
    rintro ⟨x, ⟨c, hc, rfl⟩, h1, h2⟩
    have := h c hc
    unfold winB at this
    rw [decide_eq_true h1, decide_eq_true h2] at this
    cases this
  | some p =>
    obtain ⟨b, m⟩ := p
    rw [hq] at h
    simp only [Option.isSome_some, true_iff]
    have hw := h.2.1
    unfold winB at hw
    simp only [Bool.and_eq_true, decide_eq_true_eq] at hw
    exact ⟨_, ⟨b, h.1, rfl⟩, hw.1, hw.2⟩
theorem listS_len {low high : Int} {L : List BrickR} : (listS (firstP low high L)).length ≤ L.length := by
  have h := first_best low high L
  cases hq : firstP low high L with
  | none => exact Nat.zero_le _
  | some p =>
    obtain ⟨b, m⟩ := p
    rw [hq] at h
    show b.length ≤ _
    rw [isC_len h.1]
    exact Nat.le_refl _
theorem near_is {x : Int} {L : List BrickR} (hb : brickB L = true) (hok : BrickOK L) (h : -1099511627776 ≤ x ∧ x ≤ 1099511627776) : nearC x L = firstP (nearP x L) (nearP x L) L ∧ nearE x L = 0 := by
  unfold nearC nearE winC winE
  rw [if_pos ⟨hb, h⟩, if_pos ⟨hb, Int.le_refl _⟩, if_pos hb, if_pos h, if_pos hb, if_pos (Int.le_refl _), if_pos (first_some.2 ⟨_, (nearP_spec hok).1, Int.le_refl _, Int.le_refl _⟩)]
  exact ⟨rfl, rfl⟩
theorem win_is {low high : Int} {L : List BrickR} (hb : brickB L = true) (h : low ≤ high) : winC low high L = firstP low high L ∧ ((winE low high L = 0 ∧ (firstP low high L).isSome = true) ∨ (winE low high L = 12 ∧ (firstP low high L).isSome = false)) := by
  unfold winC winE
  rw [if_pos ⟨hb, h⟩, if_pos hb, if_pos h]
  refine ⟨rfl, ?_⟩
  cases (firstP low high L).isSome
  · exact Or.inr ⟨rfl, rfl⟩
  · exact Or.inl ⟨rfl, rfl⟩
end Go.Proofs.YtfkmnneieglolaaGreatDoor
namespace Go.Proofs.YtfkmnneieglolaaGreatDoor
open Go.RowKit Go.Shelf
def weightE (L : List BrickR) (c : List Int) : Int := if brickB L = true then (if c.length = L.length then (if IsC L c then 0 else 2) else 3) else 1
def weightN (L : List BrickR) (c : List Int) : Int := if brickB L = true ∧ IsC L c then sumC L c else 0
set_option maxRecDepth 100000 in
set_option maxHeartbeats 8000000 in
theorem weight_any (a : Option Addr) (L : List BrickR) (cap : Nat) (ac : Option Addr) (c : List Int) (cc : Nat) (w : World) (hcap : L.length ≤ cap) (h : Bricks w.heap.size w a L) (hN : Nums w.heap.size w ac c) :
    Calls Tryz.prog 12 #[.slice a L.length cap, .slice ac c.length cc] w fun e w' => e = .returned (.tuple #[.int .i64 (weightN L c), .int .i64 (weightE L c)]) ∧ Below w.heap.size w w' := by
  have HU := Lib.hid h
  have HN := Lib.hid hN
  clear h hN
  cases hb : brickB L
  · have HB := Lib.hid hb
    have HC : Hid (weightN L c = 0) := Lib.hid (by unfold weightN; rw [hb]; rfl)
    have HE : Hid (weightE L c = 1) := Lib.hid (by unfold weightE; rw [hb]; rfl)
    rw [HC.out, HE.out]
    clear hb
    go_enter Tryz.func12, Tryz.ntmps12
    go_wp2_with (go_at_call 30; (with_reducible refine (valid_any _ L _ _ hcap HU.out).mono ?_); rintro e w1 ⟨rfl, hb1⟩; rw [HB.out])
    go_ret2
    exact ⟨rfl, hb1⟩
  have HB := Lib.hid hb
  obtain ⟨hl, _, _, hok⟩ := brick_ok hb
  by_cases he : c.length = L.length
  · have HOK := Lib.hid hok
    have HE := Lib.hid he
    have HYES : Hid ((∀ j, j < L.length → 0 ≤ ig c j ∧ ig c j ≤ (bg L j).count) → weightN L c = sumTo L c L.length ∧ weightE L c = 0) := Lib.hid fun h => by
      have hi : IsC L c := isC_iff.2 ⟨he, h⟩
      unfold weightN weightE
      rw [if_pos ⟨hb, hi⟩, if_pos hb, if_pos he, if_pos hi, sumTo_all he]
      exact ⟨rfl, rfl⟩
    have HNO : Hid (∀ j, j < L.length → (ig c j < 0 ∨ (bg L j).count < ig c j) → weightN L c = 0 ∧ weightE L c = 2) := Lib.hid fun j hj h => by
      have hi : ¬ IsC L c := fun hi => by have := (isC_iff.1 hi).2 j hj; omega
      unfold weightN weightE
      rw [if_neg fun h => hi h.2, if_pos hb, if_pos he, if_neg hi]
      exact ⟨rfl, rfl⟩
    have HSB : Hid (∀ k, k ≤ L.length → (∀ j, j < k → 0 ≤ ig c j ∧ ig c j ≤ (bg L j).count) → 0 ≤ sumTo L c k ∧ sumTo L c k ≤ 62914560 * (k : Int)) := Lib.hid fun k => by
      induction k with
      | zero => exact fun _ _ => by simp [sumTo]
      | succ k ih =>
        intro hk h
        obtain ⟨i1, i2⟩ := ih (by omega) fun j hj => h j (by omega)
        obtain ⟨w1, w2, _, c2⟩ := ok_bg hok (show k < L.length by omega)
        obtain ⟨n1, n2⟩ := h k (by omega)
        have a1 : 0 ≤ (bg L k).weight * ig c k := Int.mul_nonneg (by omega) n1
        have a2 : (bg L k).weight * ig c k ≤ 1048576 * 60 := Int.mul_le_mul w2 (by omega) n1 (by omega)
        simp only [sumTo]
        omega
    have g1 : ((L.length : Int) != (L.length : Int)) = false := bne_self_eq_false _
    rw [he]
    clear hb hok he
    go_enter Tryz.func12, Tryz.ntmps12
    go_wp2_with (go_at_call 30; (with_reducible refine (valid_any _ L _ _ hcap HU.out).mono ?_); rintro e w1 ⟨rfl, hb1⟩; rw [HB.out])
    have HU1 := Lib.hid (HU.out.below hb1)
    have HN1 := Lib.hid (HN.out.below hb1)
    clear HU HN
    go_loop [6, 21] (fun s i => ∃ k : Nat, k ≤ L.length ∧ i = .int .i64 k ∧ s = .int .i64 (sumTo L c k) ∧ Hid (∀ j, j < k → 0 ≤ ig c j ∧ ig c j ≤ (bg L j).count)) (fun _ i => L.length - (intOf i).toNat)
    case atStart => exact ⟨0, Nat.zero_le _, rfl, rfl, Lib.hid fun j hj => absurd hj (Nat.not_lt_zero _)⟩
    case round =>
      obtain ⟨k, hk, rfl, rfl, HS⟩ := hrel
      by_cases hlt : k < L.length
      · obtain ⟨b, off, rfl, hb, hx⟩ := HU1.out (by omega)
        obtain ⟨_, e1, e3⟩ := hx k hlt
        obtain ⟨b2, off2, rfl, hb2, hx2⟩ := HN1.out (by have := HE.out; omega)
        have e2 := hx2 k (by have := HE.out; omega)
        obtain ⟨q1, q2, q3, q4⟩ := ok_bg HOK.out hlt
        obtain ⟨s1, s2⟩ := HSB.out k hk HS.out
        have HS1 : Hid (sumTo L c (k + 1) = sumTo L c k + (bg L k).weight * ig c k) := Lib.hid rfl
        have HN2 := Lib.hid (HNO.out k hlt)
        have HK : Hid (0 ≤ ig c k → ig c k ≤ (bg L k).count → ∀ j, j < k + 1 → 0 ≤ ig c j ∧ ig c j ≤ (bg L j).count) := Lib.hid fun h1 h2 j hj => by
          rcases Nat.lt_succ_iff_lt_or_eq.1 hj with h | rfl
          · exact HS.out j h
          · exact ⟨h1, h2⟩
        clear hx hx2
        by_cases p1 : ig c k < 0
        · have HZ := Lib.hid (HN2.out (Or.inl p1))
          have g2 : decide (ig c k < 0) = true := decide_eq_true p1
          clear HN2 HK
          generalize ig c k = n at *
          go_wp2_with fail
          go_ret2
          rw [HZ.out.1, HZ.out.2]
          exact ⟨rfl, hb1⟩
        · have g2 : decide (ig c k < 0) = false := decide_eq_false p1
          by_cases p2 : (bg L k).count < ig c k
          · have HZ := Lib.hid (HN2.out (Or.inr p2))
            have g3 : decide ((bg L k).count < ig c k) = true := decide_eq_true p2
            clear HN2 HK
            generalize ig c k = n at *
            generalize (bg L k).count = C at *
            go_wp2_with fail
            go_ret2
            rw [HZ.out.1, HZ.out.2]
            exact ⟨rfl, hb1⟩
          · have g3 : decide ((bg L k).count < ig c k) = false := decide_eq_false p2
            have HK1 := Lib.hid (HK.out (by omega) (by omega))
            clear HN2 HK
            have a1 : 0 ≤ (bg L k).weight * ig c k := Int.mul_nonneg (by omega) (by omega)
            have a2 : (bg L k).weight * ig c k ≤ 1048576 * 60 := Int.mul_le_mul q2 (by omega) (by omega) (by omega)
            generalize ig c k = n at *
            generalize (bg L k).count = C at *
            generalize (bg L k).weight = W at *
            generalize sumTo L c k = s at *
            have am : W * n = n * W := Int.mul_comm _ _
            rw [am] at a1 a2 HS1
            have t1 : IntKind.i64.wrap (n * W) = n * W := IntWalk.i64_in _ (by omega)
            have t2 : IntKind.i64.wrap (s + n * W) = s + n * W := IntWalk.i64_in _ (by omega)
            clear am
            go_wp2_with fail
            go_round
            case rel => exact ⟨k + 1, by omega, by go_num, by rw [HS1.out], HK1⟩
            case measure => simp [intOf]; omega
      · obtain rfl : k = L.length := by omega
        have HZ := Lib.hid (HYES.out HS.out)
        go_wp2_with fail
        go_ret2
        rw [HZ.out.1, HZ.out.2]
        exact ⟨rfl, hb1⟩
  · have HC : Hid (weightN L c = 0) := Lib.hid (by unfold weightN; rw [if_neg]; rintro ⟨_, h⟩; exact he (isC_len h))
    have HE : Hid (weightE L c = 3) := Lib.hid (by unfold weightE; rw [if_pos hb, if_neg he])
    rw [HC.out, HE.out]
    have g1 : ((c.length : Int) != (L.length : Int)) = true := bne_iff_ne.2 (by omega)
    clear hb hok he
    go_enter Tryz.func12, Tryz.ntmps12
    go_wp2_with (go_at_call 30; (with_reducible refine (valid_any _ L _ _ hcap HU.out).mono ?_); rintro e w1 ⟨rfl, hb1⟩; rw [HB.out])
    go_ret2
    exact ⟨rfl, hb1⟩
end Go.Proofs.YtfkmnneieglolaaGreatDoor
