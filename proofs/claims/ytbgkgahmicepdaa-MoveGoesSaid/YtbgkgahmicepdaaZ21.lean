/-
  PLAIN: a greater speed or acceleration never makes a move longer, nor a greater distance shorter.
  THE WALK of region 16 of profile.Curve, over a frame of letters.
-/
import Derived.Test.YtbgkgahmicepdaaZ5
import Derived.Test.YtbgkgahmicepdaaZ7
namespace Go.Proofs.Ytbgkgahmicepdaa
theorem sqn (t : Int) : 0 ≤ t * t := by
 rcases Int.le_total 0 t with h | h
 ·exact Int.mul_nonneg h h
 ·exact Int.mul_nonneg_of_nonpos_of_nonpos h h
theorem le_of_mul_pos {x y c : Int} (hc : 0 < c) (h : x * c ≤ y * c) : x ≤ y := Int.le_of_mul_le_mul_right h hc
theorem fast_step {D N d t s : Int} (hN : 0 ≤ N) (ht : 1 ≤ t) (hs : t ≤ s) (hr : s * s * N ≤ D * d) :
  (D * d + s * s * N) * t ≤ (D * d + t * t * N) * s := by
 have h1 : t * s ≤ s * s := Int.mul_le_mul_of_nonneg_right hs (by omega)
 have h2 : t * s * N ≤ s * s * N := Int.mul_le_mul_of_nonneg_right h1 hN
 have h3 : t * s * N * (s - t) ≤ D * d * (s - t) := Int.mul_le_mul_of_nonneg_right (by omega) (by omega)
 rw [Int.mul_sub, Int.mul_sub] at h3
 rw [Int.add_mul, Int.add_mul]
 have e1 : s * s * N * t = t * s * N * s := by ac_rfl
 have e2 : t * t * N * s = t * s * N * t := by ac_rfl
 rw [e1, e2]
 omega
theorem top_ge {d V R F t s : Int} (hR : 0 ≤ R) (hF : 0 ≤ F) (h : IsTop d V R F s) (ht : t ≤ V) (_ : 0 ≤ t) (r : Room d R F t) : t ≤ s := by
 obtain ⟨s0, s1, s2, s3⟩ := h
 rcases s3 with e | e
 ·omega
 ·rcases Int.lt_or_le s t with l | l
  ·exact absurd (room_mono hR hF (by omega) (by omega) r) e
  ·exact l
theorem room_swap {d R F t : Int} : Room d R F t ↔ Room d F R t := by
 unfold Room
 rw [Int.add_comm R F, show 2 * R * F * d = 2 * F * R * d by ac_rfl]
theorem top_swap {d V R F t : Int} (h : IsTop d V R F t) : IsTop d V F R t := by
 obtain ⟨h0, h1, h2, h3⟩ := h
 exact ⟨h0, h1, room_swap.1 h2, h3.imp id fun n r => n (room_swap.2 r)⟩
def tN (d R F t : Int) : Int := 2 * R * F * d + t * t * (R + F)
def tD (R F t : Int) : Int := 2 * R * F * t
theorem tN_swap (d R F t : Int) : tN d R F t = tN d F R t := by unfold tN; rw [Int.add_comm R F, show 2 * R * F * d = 2 * F * R * d by ac_rfl]
theorem tD_swap (R F t : Int) : tD R F t = tD F R t := by unfold tD; ac_rfl
theorem posD {R F : Int} (hR : 1 ≤ R) (hF : 1 ≤ F) : 0 < 2 * R * F := Int.mul_pos (Int.mul_pos (by decide) (by omega)) (by omega)
theorem fast_speed {d V V' R F t s : Int} (hR : 1 ≤ R) (hF : 1 ≤ F) (t1 : 1 ≤ t) (hV : V ≤ V') (ht : IsTop d V R F t) (hs : IsTop d V' R F s) : tN d R F s * tD R F t ≤ tN d R F t * tD R F s := by
 have hle := top_ge (by omega) (by omega) hs (by have := ht.2.1; omega) (by omega) ht.2.2.1
 have h := fast_step (D := 2 * R * F) (N := R + F) (d := d) (by omega) t1 hle hs.2.2.1
 have hD := posD hR hF
 unfold tN tD
 have e1 : (2 * R * F * d + s * s * (R + F)) * (2 * R * F * t) = (2 * R * F * d + s * s * (R + F)) * t * (2 * R * F) := by ac_rfl
 have e2 : (2 * R * F * d + t * t * (R + F)) * (2 * R * F * s) = (2 * R * F * d + t * t * (R + F)) * s * (2 * R * F) := by ac_rfl
 rw [e1, e2]
 exact Int.mul_le_mul_of_nonneg_right h (Int.le_of_lt hD)
theorem acc_step {R R' F : Int} (hF : 0 ≤ F) (h : R ≤ R') : (R' + F) * (2 * R * F) ≤ (R + F) * (2 * R' * F) := by
 have h1 : F * (2 * R * F) ≤ F * (2 * R' * F) := Int.mul_le_mul_of_nonneg_left (Int.mul_le_mul_of_nonneg_right (by omega) hF) hF
 rw [Int.add_mul, Int.add_mul, show R' * (2 * R * F) = R * (2 * R' * F) by ac_rfl]
 omega
theorem room_acc {d R R' F t : Int} (hR : 1 ≤ R) (hF : 1 ≤ F) (h : R ≤ R') (r : Room d R F t) : Room d R' F t := by
 unfold Room at *
 have hD := posD hR hF
 have hD' := posD (show 1 ≤ R' by omega) hF
 refine le_of_mul_pos hD ?_
 have a := Int.mul_le_mul_of_nonneg_left (acc_step (show 0 ≤ F by omega) h) (sqn t)
 have b := Int.mul_le_mul_of_nonneg_right r (Int.le_of_lt hD')
 calc t * t * (R' + F) * (2 * R * F) = t * t * ((R' + F) * (2 * R * F)) := by ac_rfl
  _ ≤ t * t * ((R + F) * (2 * R' * F)) := a
  _ = t * t * (R + F) * (2 * R' * F) := by ac_rfl
  _ ≤ 2 * R * F * d * (2 * R' * F) := b
  _ = 2 * R' * F * d * (2 * R * F) := by ac_rfl
theorem fast_rise {d V R R' F t s : Int} (hR : 1 ≤ R) (hF : 1 ≤ F) (t1 : 1 ≤ t) (h : R ≤ R') (ht : IsTop d V R F t) (hs : IsTop d V R' F s) : tN d R' F s * tD R F t ≤ tN d R F t * tD R' F s := by
 have r := room_acc hR hF h ht.2.2.1
 have hle := top_ge (by omega) (by omega) hs ht.2.1 (by omega) r
 have a := fast_step (D := 2 * R' * F) (N := R' + F) (d := d) (by omega) t1 hle hs.2.2.1
 have hD := posD hR hF
 have hD' := posD (show 1 ≤ R' by omega) hF
 have b := Int.mul_le_mul_of_nonneg_left (acc_step (show 0 ≤ F by omega) h) (sqn t)
 unfold tN tD
 -- multiply the first by 2 R F; then exchange the accelerations
 have c := Int.mul_le_mul_of_nonneg_right a (Int.le_of_lt hD)
 have b2 := Int.mul_le_mul_of_nonneg_right b (show 0 ≤ s by omega)
 have e0 : (2 * R' * F * d + s * s * (R' + F)) * (2 * R * F * t) = (2 * R' * F * d + s * s * (R' + F)) * t * (2 * R * F) := by ac_rfl
 have e1 : (2 * R' * F * d + t * t * (R' + F)) * s * (2 * R * F) = (2 * R' * F * d) * (2 * R * F) * s + t * t * ((R' + F) * (2 * R * F)) * s := by
  rw [Int.add_mul, Int.add_mul]
  congr 1 <;> ac_rfl
 have e2 : (2 * R * F * d + t * t * (R + F)) * (2 * R' * F * s) = (2 * R' * F * d) * (2 * R * F) * s + t * t * ((R + F) * (2 * R' * F)) * s := by
  rw [Int.add_mul]
  congr 1 <;> ac_rfl
 rw [e0, e2]
 rw [e1] at c
 omega
theorem fast_fall {d V R F F' t s : Int} (hR : 1 ≤ R) (hF : 1 ≤ F) (t1 : 1 ≤ t) (h : F ≤ F') (ht : IsTop d V R F t) (hs : IsTop d V R F' s) : tN d R F' s * tD R F t ≤ tN d R F t * tD R F' s := by
 have := fast_rise hF hR t1 h (top_swap ht) (top_swap hs)
 rwa [← tN_swap d R F', ← tD_swap R F, ← tN_swap d R F, ← tD_swap R F'] at this
end Go.Proofs.Ytbgkgahmicepdaa
namespace Go.Proofs.Ytbgkgahmicepdaa
open Go.RowKit Go.Shelf
set_option maxRecDepth 1000000 in
set_option maxHeartbeats 40000000 in
theorem cv16 {d t pn pd gn gd en ed : Int} {m : Mv} {w : World} {Bz Bb Bk B13 B14 B15 B16 B17 : Nat} {W4 : World} {u2 u18 u19 u20 u21 u22 u23 u24 u25 u26 u27 u28 u29 u30 u31 u32 u33 u34 u35 u36 u37 u38 u39 u40 u41 u42 u43 u44 u45 u46 u47 u48 u49 u50 u51 u52 u53 u54 u55 u56 u57 u58 u59 u60 u61 u62 u63 u64 u65 u66 u67 u68 u69 u70 u71 u72 u73 u74 u75 u76 u77 u78 u79 u80 u81 u82 u83 u84 u85 u86 u87 u88 u89 u90 u91 u92 u93 u94 u95 u96 u97 u98 u99 u100 u101 u102 u103 u104 u105 u106 u107 u108 u109 u110 u111 u112 u113 u114 u115 u116 u117 u118 u119 u120 u121 u122 u123 u124 u125 u126 u127 u128 u129 u130 u131 u132 u133 u134 u135 u136 u137 u138 u139 u140 u141 u142 u143 u144 u145 u146 u147 u148 u149 u150 u151 u152 u153 u154 u155 u156 : Value} {K : Act → World → Prop} {Q0 : Exit → Act → World → Prop} (HS2 : Hid (∀ w', Below W4.heap.size W4 w' → Below W4.heap.size W4 w' ∧ w'.cell? ⟨w.heap.size, 4, none⟩ = some (.int .i64 m.fall) ∧ w'.cell? ⟨Bk, 0, none⟩ = some (.func (.func 58) #[] #[.pointer (some ⟨Bb, 0, none⟩)]) ∧ w'.cell? ⟨B17, 0, none⟩ = some (.int .i64 pn) ∧ w'.cell? ⟨B17, 1, none⟩ = some (.int .i64 pd))) (M4 : Hid (Gives 61 #[.int .i64 t, .int .i64 m.fall] gn gd)) (A2 : Hid (Gives 32 #[.agg #[.int .i64 pn, .int .i64 pd], .agg #[.int .i64 gn, .int .i64 gd]] en ed)) (hK : ∀ (u18 u20 u21 u22 u23 u24 u25 u26 u27 u28 u29 u30 u31 u32 u33 u34 u35 u36 u37 u38 u39 u40 u41 u42 u43 u44 u45 u46 u47 u48 u49 u50 u51 u52 u53 u54 u55 u56 u57 u58 u59 u60 u61 u62 u63 u64 u65 u66 u67 u68 u69 u70 u71 u72 u73 u74 u75 u76 u77 u78 u79 u80 u81 u82 u83 u84 u85 u86 u87 u88 u89 u90 u91 u92 u93 u94 u95 u96 u97 u98 u99 u100 u101 u102 u103 u104 u105 u106 u107 u108 u109 u110 u111 u112 u113 u114 u115 u116 u117 u118 u119 u120 u121 u122 u123 u124 u125 u126 u127 u128 u129 u130 u131 u132 u133 u134 u135 u136 u137 u138 u139 u140 u141 u142 u143 u144 u145 u146 u147 u148 u149 u150 u151 u152 u153 u154 u155 u156 : Value) (wx : World), ((fun v wx => ∃ B : Nat, v = .pointer (some ⟨B, 0, none⟩) ∧ RelO W4 B en ed wx) u18 wx) → K ⟨List.toArray (.int .i64 d :: .agg #[.string m.name, .int .i64 m.to, .int .i64 m.spd, .int .i64 m.rise, .int .i64 m.fall] :: u2 :: .pointer (some ⟨w.heap.size, 0, none⟩) :: .slice none 0 0 :: .int .i64 0 :: .int .i64 0 :: .pointer (some ⟨Bz, 0, none⟩) :: .int .i64 t :: .pointer (some ⟨Bb, 0, none⟩) :: .pointer (some ⟨Bk, 0, none⟩) :: .func (.func 59) #[] #[] :: .func (.func 60) #[] #[.pointer (some ⟨Bk, 0, none⟩)] :: .pointer (some ⟨B13, 0, none⟩) :: .pointer (some ⟨B14, 0, none⟩) :: .pointer (some ⟨B15, 0, none⟩) :: .pointer (some ⟨B16, 0, none⟩) :: .pointer (some ⟨B17, 0, none⟩) :: u18 :: u19 :: u20 :: u21 :: u22 :: u23 :: u24 :: u25 :: u26 :: u27 :: u28 :: u29 :: u30 :: u31 :: u32 :: u33 :: u34 :: u35 :: u36 :: u37 :: u38 :: u39 :: u40 :: u41 :: u42 :: u43 :: u44 :: u45 :: u46 :: u47 :: u48 :: u49 :: u50 :: u51 :: u52 :: u53 :: u54 :: u55 :: u56 :: u57 :: u58 :: u59 :: u60 :: u61 :: u62 :: u63 :: u64 :: u65 :: u66 :: u67 :: u68 :: u69 :: u70 :: u71 :: u72 :: u73 :: u74 :: u75 :: u76 :: u77 :: u78 :: u79 :: u80 :: u81 :: u82 :: u83 :: u84 :: u85 :: u86 :: u87 :: u88 :: u89 :: u90 :: u91 :: u92 :: u93 :: u94 :: u95 :: u96 :: u97 :: u98 :: u99 :: u100 :: u101 :: u102 :: u103 :: u104 :: u105 :: u106 :: u107 :: u108 :: u109 :: u110 :: u111 :: u112 :: u113 :: u114 :: u115 :: u116 :: u117 :: u118 :: u119 :: u120 :: u121 :: u122 :: u123 :: u124 :: u125 :: u126 :: u127 :: u128 :: u129 :: u130 :: u131 :: u132 :: u133 :: u134 :: u135 :: u136 :: u137 :: u138 :: u139 :: u140 :: u141 :: u142 :: u143 :: u144 :: u145 :: u146 :: u147 :: u148 :: u149 :: u150 :: u151 :: u152 :: u153 :: u154 :: u155 :: u156 :: []), []⟩ wx) :
  Code.wp Try.prog (cvCode 16) (Exit.then K Q0) ⟨List.toArray (.int .i64 d :: .agg #[.string m.name, .int .i64 m.to, .int .i64 m.spd, .int .i64 m.rise, .int .i64 m.fall] :: u2 :: .pointer (some ⟨w.heap.size, 0, none⟩) :: .slice none 0 0 :: .int .i64 0 :: .int .i64 0 :: .pointer (some ⟨Bz, 0, none⟩) :: .int .i64 t :: .pointer (some ⟨Bb, 0, none⟩) :: .pointer (some ⟨Bk, 0, none⟩) :: .func (.func 59) #[] #[] :: .func (.func 60) #[] #[.pointer (some ⟨Bk, 0, none⟩)] :: .pointer (some ⟨B13, 0, none⟩) :: .pointer (some ⟨B14, 0, none⟩) :: .pointer (some ⟨B15, 0, none⟩) :: .pointer (some ⟨B16, 0, none⟩) :: .pointer (some ⟨B17, 0, none⟩) :: u18 :: u19 :: u20 :: u21 :: u22 :: u23 :: u24 :: u25 :: u26 :: u27 :: u28 :: u29 :: u30 :: u31 :: u32 :: u33 :: u34 :: u35 :: u36 :: u37 :: u38 :: u39 :: u40 :: u41 :: u42 :: u43 :: u44 :: u45 :: u46 :: u47 :: u48 :: u49 :: u50 :: u51 :: u52 :: u53 :: u54 :: u55 :: u56 :: u57 :: u58 :: u59 :: u60 :: u61 :: u62 :: u63 :: u64 :: u65 :: u66 :: u67 :: u68 :: u69 :: u70 :: u71 :: u72 :: u73 :: u74 :: u75 :: u76 :: u77 :: u78 :: u79 :: u80 :: u81 :: u82 :: u83 :: u84 :: u85 :: u86 :: u87 :: u88 :: u89 :: u90 :: u91 :: u92 :: u93 :: u94 :: u95 :: u96 :: u97 :: u98 :: u99 :: u100 :: u101 :: u102 :: u103 :: u104 :: u105 :: u106 :: u107 :: u108 :: u109 :: u110 :: u111 :: u112 :: u113 :: u114 :: u115 :: u116 :: u117 :: u118 :: u119 :: u120 :: u121 :: u122 :: u123 :: u124 :: u125 :: u126 :: u127 :: u128 :: u129 :: u130 :: u131 :: u132 :: u133 :: u134 :: u135 :: u136 :: u137 :: u138 :: u139 :: u140 :: u141 :: u142 :: u143 :: u144 :: u145 :: u146 :: u147 :: u148 :: u149 :: u150 :: u151 :: u152 :: u153 :: u154 :: u155 :: u156 :: []), []⟩ W4 := by
 conv => arg 2; whnf
 have hbr := Below.refl W4.heap.size W4
 have hbd := hbr.drew
 go_cut [18] from 20 (fun v wx => ∃ B : Nat, v = .pointer (some ⟨B, 0, none⟩) ∧ RelO W4 B en ed wx)
 case first =>
  go_region_held3 (fun w' => Below W4.heap.size W4 w' ∧ w'.cell? ⟨w.heap.size, 4, none⟩ = some (.int .i64 m.fall) ∧ w'.cell? ⟨Bk, 0, none⟩ = some (.func (.func 58) #[] #[.pointer (some ⟨Bb, 0, none⟩)]) ∧ w'.cell? ⟨B17, 0, none⟩ = some (.int .i64 pn) ∧ w'.cell? ⟨B17, 1, none⟩ = some (.int .i64 pd))
   (first | exact HS2.out _ hbd | (go_split_ands; refine HS2.out _ ?_; repeat' (first | assumption | apply below_a | apply Below.drew | (refine below_s _ _ ?_ (Nat.le_refl _)) | (refine below_s _ _ ?_ (Nat.le_succ _)) | (refine below_s _ _ ?_ (Below.size (by assumption))) | (refine below_s _ _ ?_ (Nat.le_succ_of_le (Below.size (by assumption)))))))
   (first
    | (go_at_call 60; go_split_ands; (with_reducible refine (over_any (t) (m.fall) gn gd M4.out Bk (.pointer (some ⟨Bb, 0, none⟩)) _ ?_).mono ?_); (next => assumption); rintro e y0 ⟨rfl, hy0⟩; have hx0 := held_next (wr := W4) (by assumption) hy0; (first | (have hq := inew1D hy0; obtain ⟨c0, c1, c2, c3, c4⟩ := hq) | (have hq := inew1 hy0; obtain ⟨c0, c1, c2, c3, c4⟩ := hq) | (have hq := icarry hy0 ⟨c0, c1, c2, c3, c4⟩; obtain ⟨c0, c1, c2, c3, c4⟩ := hq) | skip))
    | (go_at_call 32; go_split_ands; (with_reducible refine (A2.out.at _).mono ?_); rintro e y1 ⟨rfl, hy1⟩; have hx1 := held_next (wr := W4) (by assumption) hy1; (first | (have hq := inew1D hy1; obtain ⟨c0, c1, c2, c3, c4⟩ := hq) | (have hq := inew1 hy1; obtain ⟨c0, c1, c2, c3, c4⟩ := hq) | (have hq := icarry hy1 ⟨c0, c1, c2, c3, c4⟩; obtain ⟨c0, c1, c2, c3, c4⟩ := hq) | skip))
    | (go_at_call 58; go_split_ands; (with_reducible refine (keep_any en ed _ _).mono ?_); rintro e y2 ⟨rfl, hy2⟩; have hx2 := held_next (wr := W4) (by assumption) hy2; (first | (have hq := inew1D hy2; obtain ⟨c0, c1, c2, c3, c4⟩ := hq) | (have hq := inew1 hy2; obtain ⟨c0, c1, c2, c3, c4⟩ := hq) | (have hq := icarry hy2 ⟨c0, c1, c2, c3, c4⟩; obtain ⟨c0, c1, c2, c3, c4⟩ := hq) | skip)))
  all_goals go_wp2_with fail
  all_goals go_meet
  all_goals refine ⟨_, rfl, ?_⟩
  all_goals first
   | (with_reducible refine relO1 en ed _ ?_); assumption
   | (with_reducible refine relO2 _ en ed ?_ ?_ ?_); (next => assumption); (next => (refine ⟨?_, ?_, ?_, ?_, ?_⟩ <;> assumption)); (next => (first | exact Nat.le_refl _ | exact Nat.le_succ _ | exact Below.size (by assumption) | exact Nat.le_succ_of_le (Below.size (by assumption))))
 case rest => exact hK _ _ _ _ _ _ _ _ _ _ _ _ _ _ _ _ _ _ _ _ _ _ _ _ _ _ _ _ _ _ _ _ _ _ _ _ _ _ _ _ _ _ _ _ _ _ _ _ _ _ _ _ _ _ _ _ _ _ _ _ _ _ _ _ _ _ _ _ _ _ _ _ _ _ _ _ _ _ _ _ _ _ _ _ _ _ _ _ _ _ _ _ _ _ _ _ _ _ _ _ _ _ _ _ _ _ _ _ _ _ _ _ _ _ _ _ _ _ _ _ _ _ _ _ _ _ _ _ _ _ _ _ _ _ _ _ _ _ _ hcut
end Go.Proofs.Ytbgkgahmicepdaa
