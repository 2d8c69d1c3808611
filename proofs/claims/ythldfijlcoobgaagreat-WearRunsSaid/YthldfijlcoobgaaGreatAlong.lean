/-
  THE WALK of losses.Along, upwards.
-/
import Derived.Test.YthldfijlcoobgaaGreatLossy
import Derived.Deep.RegionWith
namespace Go.Proofs.YthldfijlcoobgaaGreat
open Go.RowKit Go.Shelf

theorem rope_no {L : List HoldR} {k : Nat} (hk : k < L.length) (h : holdB L.length k (hg L k) = false) : ropeB L = false := by
  have key : ∀ n, k + 1 ≤ n → ropeTo L n = false := by
    intro n hn
    induction n with
    | zero => omega
    | succ n ih =>
      simp only [ropeTo]
      rcases (show k + 1 ≤ n ∨ n = k by omega) with l | l
      · rw [ih l]; rfl
      · subst l; rw [h]; simp
  unfold ropeB
  rw [key L.length (by omega)]
  simp
def NewI (w : World) (b : Nat) : Prop := w.cell? ⟨b, 0, none⟩ = some (.int .i64 0) ∧ w.cell? ⟨b, 1, none⟩ = some (.int .i64 0) ∧ w.frozen? ⟨b, 0, none⟩ = false ∧ w.frozen? ⟨b, 1, none⟩ = false ∧ b < w.heap.size
theorem newI_D {W w : World} {ty : TypeId} (h : Below (W.alloc (.cells #[.int .i64 0, .int .i64 0] ty)).heap.size (W.alloc (.cells #[.int .i64 0, .int .i64 0] ty)) w) : NewI w W.heap.size := by
  have f : NewI (W.alloc (.cells #[.int .i64 0, .int .i64 0] ty)) W.heap.size := ⟨by simp, by simp, by simp, by simp, by simp⟩
  exact ⟨(h.cell (p := ⟨W.heap.size, 0, none⟩) f.2.2.2.2).trans f.1, (h.cell (p := ⟨W.heap.size, 1, none⟩) f.2.2.2.2).trans f.2.1, (h.frozen (p := ⟨W.heap.size, 0, none⟩) f.2.2.2.2).trans f.2.2.1, (h.frozen (p := ⟨W.heap.size, 1, none⟩) f.2.2.2.2).trans f.2.2.2.1, Nat.lt_of_lt_of_le f.2.2.2.2 h.size⟩
theorem newI_DD {W w : World} {ty : TypeId} (h : Below (W.alloc (.cells #[.int .i64 0, .int .i64 0] ty)).drew.heap.size (W.alloc (.cells #[.int .i64 0, .int .i64 0] ty)).drew w) : NewI w W.heap.size := newI_D (ty := ty) ⟨h.os, h.tape, h.output, h.size, h.block⟩
/-- What the list of factors keeps. -/
def FInv (L : List HoldR) (k : Nat) (F : List (Int × Int)) : Prop :=
  (k < L.length → F.length = if k = 0 then 1 else k) ∧ 1 ≤ F.length ∧ F.length ≤ 9 ∧ validF (frg F (F.length - 1)).1 (frg F (F.length - 1)).2 = true ∧ 1 ≤ (frg F (F.length - 1)).2 ∧ (frg F (F.length - 1)).2 ≤ (frg F (F.length - 1)).1 ∧ (frg F (F.length - 1)).1 ≤ 100 ^ (F.length - 1)

set_option maxRecDepth 100000 in
set_option maxHeartbeats 16000000 in
theorem along_any (nm : ByteArray) (a : Option Addr) (L : List HoldR) (cap : Nat) (hd : Bool) (w : World) (hl : L.length ≤ 1000000) (h : Holds w.heap.size w a L) :
    Calls Tryz.prog 42 #[.agg #[.string nm, .slice a L.length cap, .bool hd], .bool true] w fun e w' => Hid (∃ v, e = .returned (.tuple #[v, .int .i64 (if ropeB L then 0 else 1)])) ∧ Below w.heap.size w w' := by
  by_cases hn : 2 ≤ L.length ∧ L.length ≤ 10
  · obtain ⟨n1, n2⟩ := hn
    have HS := Lib.hid h
    have g1 : decide ((L.length : Int) < 2) = false := decide_eq_false (by omega)
    have g2 : decide ((10 : Int) < L.length) = false := decide_eq_false (by omega)
    obtain ⟨R, hR⟩ : ∃ R : Int, (if ropeB L then 0 else 1) = R := ⟨_, rfl⟩
    rw [hR]
    have HR := Lib.hid hR
    clear hR h
    have hW0 := below_new w (.cells #[.string nm, .slice a L.length cap, .bool hd] 43)
    go_enter Tryz.func42, Tryz.ntmps42
    go_upto_region 4 with (fail)
    have hcS : (w.alloc (.cells #[.string nm, .slice a L.length cap, .bool hd] 43)).cell? ⟨w.heap.size, 1, none⟩ = some (.slice a L.length cap) := by simp
    obtain ⟨Br, hBr⟩ : ∃ b, w.heap.size = b := ⟨_, rfl⟩
    rw [hBr] at hcS
    simp only [hBr]
    generalize w.alloc (.cells #[.string nm, .slice a L.length cap, .bool hd] 43) = W0 at *
    go_upto_region 5 with (go_at_call 65; (with_reducible refine (wholeL_any 1 _).mono ?_); rintro e w1 ⟨rfl, hb1⟩; have hc1 := (hb1.cell (p := ⟨Br, 1, none⟩) (World.block_lt_of_cell? _ _ hcS)).trans hcS)
    have hrow0 := World.ownsRow_lit (base := w1.heap.size) (e := 76) (size := 2) w1 #[.int .i64 1, .int .i64 1] 1 (Nat.le_refl _) (by unfold maxLen; omega) rfl
    have b1 : Below W0.heap.size W0 (w1.alloc (.cells #[.int .i64 1, .int .i64 1] 76)) := below_a _ hb1
    have hW1 := hW0.trans (b1.mono hW0.size)
    have hzB : W0.heap.size ≤ w1.heap.size := hb1.size
    have hS1 := ((HS.out.grow hW0).below b1).mono hzB
    have hzr : Br < w1.heap.size := Nat.lt_of_lt_of_le (World.block_lt_of_cell? _ _ hcS) hzB
    have hzw : w.heap.size ≤ w1.heap.size := Nat.le_trans hW0.size hzB
    have hc2 := (b1.cell (p := ⟨Br, 1, none⟩) (World.block_lt_of_cell? _ _ hcS)).trans hcS
    have hB1 : Below w1.heap.size (w1.alloc (.cells #[.int .i64 1, .int .i64 1] 76)) (w1.alloc (.cells #[.int .i64 1, .int .i64 1] 76)) := Below.refl _ _
    have hz1 : w1.heap.size ≤ (w1.alloc (.cells #[.int .i64 1, .int .i64 1] 76)).heap.size := by simp
    clear hb1 b1 hW0 hcS hc1 HS
    generalize w1.alloc (.cells #[.int .i64 1, .int .i64 1] 76) = Wa at *
    generalize w1.heap.size = B0 at *
    have HS := Lib.hid hS1
    have HF0 : Hid (FInv L 0 [(1, 1)]) := Lib.hid ⟨fun _ => rfl, by decide, by decide, by decide, by decide, by decide, by decide⟩
    clear hS1
    go_wp2_with fail
    go_loopw [7, 27] (fun v i wr => ∃ (k : Nat) (F : List (Int × Int)), k ≤ L.length ∧ i = .int .i64 k ∧ Hid (ropeTo L k = true) ∧ Hid (FInv L k F) ∧ wr.ownsRow B0 76 2 v F.length (frflat F) ∧ Below B0 Wa wr) (fun _ i _ => L.length - (intOf i).toNat)
    case atStart => exact ⟨0, [(1, 1)], Nat.zero_le _, rfl, Lib.hid rfl, HF0, hrow0, hB1⟩
    case round =>
      obtain ⟨k, F, hk, rfl, HT0, HFI0, hrow, hC⟩ := hrel
      clear hrow0 hB1 HF0
      by_cases hlt : k < L.length
      · obtain ⟨b, off, rfl, hb, hcx⟩ := HS.out (by omega)
        obtain ⟨e0, e1, e2, e3⟩ := hcx k hlt
        have d0 := (hC.cell (p := ⟨b, off + k * 4, none⟩) hb).trans e0
        have d1 := (hC.cell (p := ⟨b, off + k * 4 + 1, none⟩) hb).trans e1
        have d2 := (hC.cell (p := ⟨b, off + k * 4 + 2, none⟩) hb).trans e2
        have d3 := (hC.cell (p := ⟨b, off + k * 4 + 3, none⟩) hb).trans e3
        obtain ⟨h, hh⟩ : ∃ h, hg L k = h := ⟨_, rfl⟩
        rw [hh] at d0 d1 d2 d3
        have HH := Lib.hid hh
        clear hcx e0 e1 e2 e3 hh
        go_upto_region 8 with (fail)
        have hC1 : Below B0 Wa (wr.alloc (.cells #[.string h.block, .int .i64 h.pulls, .int .i64 h.ln, .int .i64 h.ld] 79)) := hC.alloc (Nat.le_trans hz1 hC.size) _
        have hrow2 := hrow.alloc (.cells #[.string h.block, .int .i64 h.pulls, .int .i64 h.ln, .int .i64 h.ld] 79)
        have HX0 : Hid (∀ w', Below (wr.alloc (.cells #[.string h.block, .int .i64 h.pulls, .int .i64 h.ln, .int .i64 h.ld] 79)).heap.size (wr.alloc (.cells #[.string h.block, .int .i64 h.pulls, .int .i64 h.ln, .int .i64 h.ld] 79)) w' → w'.cell? ⟨wr.heap.size, 0, none⟩ = some (.string h.block) ∧ w'.cell? ⟨wr.heap.size, 1, none⟩ = some (.int .i64 h.pulls) ∧ w'.cell? ⟨wr.heap.size, 2, none⟩ = some (.int .i64 h.ln) ∧ w'.cell? ⟨wr.heap.size, 3, none⟩ = some (.int .i64 h.ld)) := Lib.hid fun w' q =>
          ⟨(q.cell (p := ⟨wr.heap.size, 0, none⟩) (by simp)).trans (by simp), (q.cell (p := ⟨wr.heap.size, 1, none⟩) (by simp)).trans (by simp), (q.cell (p := ⟨wr.heap.size, 2, none⟩) (by simp)).trans (by simp), (q.cell (p := ⟨wr.heap.size, 3, none⟩) (by simp)).trans (by simp)⟩
        clear hrow hC d0 d1 d2 d3
        generalize wr.alloc (.cells #[.string h.block, .int .i64 h.pulls, .int .i64 h.ln, .int .i64 h.ld] 79) = W2 at *
        generalize wr.heap.size = B9 at *
        have HX := HX0
        clear HX0
        have hbr := Below.refl W2.heap.size W2
        obtain ⟨x0, x1, x2, x3⟩ := HX.out _ hbr
        obtain ⟨lo, hlo⟩ : ∃ b, lossyF h.ln h.ld = b := ⟨_, rfl⟩
        have HLo := Lib.hid hlo
        have HNo : Hid (holdB L.length k h = false → R = 1) := Lib.hid fun q => by rw [← HR.out, rope_no hlt (by rw [HH.out]; exact q)]; rfl
        have HYes : Hid (holdB L.length k h = true → ropeTo L (k + 1) = true) := Lib.hid fun q => by simp only [ropeTo]; rw [HT0.out, HH.out, q]; rfl
        have HDef : Hid (holdB L.length k h = (lossyF h.ln h.ld && (!(k == 0 || k + 1 == L.length) || oneB h))) := Lib.hid rfl
        clear hlo
        have hz2 : B0 ≤ W2.heap.size := Nat.le_trans hz1 hC1.size
        have hend2 : (k = 0 ∨ k + 1 = L.length) ∨ ¬ (k = 0 ∨ k + 1 = L.length) := Classical.em _
        have keyF : ∀ y, Below W2.heap.size W2 y → Hid (Below w.heap.size w y) := fun y q => Lib.hid (hW1.trans ((hC1.trans (q.mono hz2)).mono hzw))
        have keyB : ∀ y, Below W2.heap.size W2 y → Hid (Below B0 Wa y) := fun y q => Lib.hid (hC1.trans (q.mono hz2))
        have HKF := Lib.hid keyF
        have HKG := Lib.hid keyF
        have HKB := Lib.hid keyB
        rw [hBr] at HKF
        clear keyF keyB hend2
        by_cases hend : k = 0 ∨ k + 1 = L.length
        · have HE : Hid ((k == 0 || k + 1 == L.length) = true) := Lib.hid (by simpa using hend)
          have key : ∀ (o : Bool), oneB h = o → Hid (holdB L.length k h = (lo && o)) := fun o ho => Lib.hid (by rw [HDef.out, HE.out, HLo.out, ho]; simp)
          by_cases hone : h.ln = 1 ∧ h.ld = 1
          · have ho1 : (h.ln == 1) = true := by simpa using hone.1
            have ho2 : (h.ld == 1) = true := by simpa using hone.2
            have ho3 : (h.ln != 1) = false := by simpa using hone.1
            have ho4 : (h.ld != 1) = false := by simpa using hone.2
            have HO := key true (by unfold oneB; rw [ho1, ho2]; rfl)
            rw [Bool.and_true] at HO
            clear key hone
            cases lo
            · have HR1 : R = 1 := HNo.out HO.out
              subst HR1
              rcases hend with e | e
              · have f1 : ((k : Int) == 0) = true := by simpa using e
                clear e
                go_upto_region 9 with (fail)
                first
                  | go_region_with (first
                    | (go_at_call 65; (with_reducible refine (wholeL_any 1 _).mono ?_); rintro e y1 ⟨rfl, hy1⟩; have hx1 : Below W2.heap.size W2 y1 := hbr.drew.trans hy1; obtain ⟨x0, x1, x2, x3⟩ := HX.out _ hx1)
                    | (go_at_call 66; (with_reducible refine (lossy_any h.ln h.ld _).mono ?_); rintro e y2 ⟨rfl, hy2⟩; rw [HLo.out]; have hx2 : Below W2.heap.size W2 y2 := (by first | exact held_next hx1 hy2 | exact hbr.drew.trans hy2); obtain ⟨x0, x1, x2, x3⟩ := HX.out _ hx2))
                  | fail
                all_goals simp only [Act.put, List.setIfInBounds_toArray, List.set_cons_zero, List.set_cons_succ, List.getElem_toArray, List.getElem_cons_succ, List.getElem_cons_zero]
                all_goals go_wp2_with fail
                all_goals go_ret2
                all_goals exact ⟨Lib.hid ⟨_, rfl⟩, by first | exact (HKF.out _ hx2).out | exact (HKG.out _ hx2).out⟩
              · have f1 : ((k : Int) == 0) = false := by simp; omega
                have f2 : ((k : Int) == (L.length : Int) - 1) = true := by simp; omega
                clear e
                go_upto_region 9 with (fail)
                first
                  | go_region_with (first
                    | (go_at_call 65; (with_reducible refine (wholeL_any 1 _).mono ?_); rintro e y1 ⟨rfl, hy1⟩; have hx1 : Below W2.heap.size W2 y1 := hbr.drew.trans hy1; obtain ⟨x0, x1, x2, x3⟩ := HX.out _ hx1)
                    | (go_at_call 66; (with_reducible refine (lossy_any h.ln h.ld _).mono ?_); rintro e y2 ⟨rfl, hy2⟩; rw [HLo.out]; have hx2 : Below W2.heap.size W2 y2 := (by first | exact held_next hx1 hy2 | exact hbr.drew.trans hy2); obtain ⟨x0, x1, x2, x3⟩ := HX.out _ hx2))
                  | fail
                all_goals simp only [Act.put, List.setIfInBounds_toArray, List.set_cons_zero, List.set_cons_succ, List.getElem_toArray, List.getElem_cons_succ, List.getElem_cons_zero]
                all_goals go_wp2_with fail
                all_goals go_ret2
                all_goals exact ⟨Lib.hid ⟨_, rfl⟩, by first | exact (HKF.out _ hx2).out | exact (HKG.out _ hx2).out⟩
            · have HT1 : Hid (ropeTo L (k + 1) = true) := Lib.hid (HYes.out HO.out)
              have HF1 : Hid (FInv L (k + 1) F) := Lib.hid ⟨fun q => by have := HFI0.out.1 hlt; rcases hend with e | e; (rw [if_neg (by omega)]; rw [if_pos e] at this; omega); omega, HFI0.out.2⟩
              rcases hend with e | e
              · have f1 : ((k : Int) == 0) = true := by simpa using e
                clear e
                go_upto_region 9 with (fail)
                first
                  | go_region_with (first
                    | (go_at_call 65; (with_reducible refine (wholeL_any 1 _).mono ?_); rintro e y1 ⟨rfl, hy1⟩; have hx1 : Below W2.heap.size W2 y1 := hbr.drew.trans hy1; obtain ⟨x0, x1, x2, x3⟩ := HX.out _ hx1)
                    | (go_at_call 66; (with_reducible refine (lossy_any h.ln h.ld _).mono ?_); rintro e y2 ⟨rfl, hy2⟩; rw [HLo.out]; have hx2 : Below W2.heap.size W2 y2 := (by first | exact held_next hx1 hy2 | exact hbr.drew.trans hy2); obtain ⟨x0, x1, x2, x3⟩ := HX.out _ hx2))
                  | fail
                all_goals simp only [Act.put, List.setIfInBounds_toArray, List.set_cons_zero, List.set_cons_succ, List.getElem_toArray, List.getElem_cons_succ, List.getElem_cons_zero]
                all_goals go_wp2_with fail
                all_goals exact ⟨⟨k + 1, F, by omega, by go_num, HT1, HF1, ownsRow_below hrow2 hx2, (HKB.out _ hx2).out⟩, by simp [intOf]; omega⟩
              · have f1 : ((k : Int) == 0) = false := by simp; omega
                have f2 : ((k : Int) == (L.length : Int) - 1) = true := by simp; omega
                clear e
                go_upto_region 9 with (fail)
                first
                  | go_region_with (first
                    | (go_at_call 65; (with_reducible refine (wholeL_any 1 _).mono ?_); rintro e y1 ⟨rfl, hy1⟩; have hx1 : Below W2.heap.size W2 y1 := hbr.drew.trans hy1; obtain ⟨x0, x1, x2, x3⟩ := HX.out _ hx1)
                    | (go_at_call 66; (with_reducible refine (lossy_any h.ln h.ld _).mono ?_); rintro e y2 ⟨rfl, hy2⟩; rw [HLo.out]; have hx2 : Below W2.heap.size W2 y2 := (by first | exact held_next hx1 hy2 | exact hbr.drew.trans hy2); obtain ⟨x0, x1, x2, x3⟩ := HX.out _ hx2))
                  | fail
                all_goals simp only [Act.put, List.setIfInBounds_toArray, List.set_cons_zero, List.set_cons_succ, List.getElem_toArray, List.getElem_cons_succ, List.getElem_cons_zero]
                all_goals go_wp2_with fail
                all_goals exact ⟨⟨k + 1, F, by omega, by go_num, HT1, HF1, ownsRow_below hrow2 hx2, (HKB.out _ hx2).out⟩, by simp [intOf]; omega⟩
          · have HO := key false (by unfold oneB; rw [Bool.eq_false_iff]; simpa using hone)
            rw [Bool.and_false] at HO
            have HR1 : R = 1 := HNo.out HO.out
            subst HR1
            clear key
            by_cases hq : h.ln = 1
            · have ho1 : (h.ln == 1) = true := by simpa using hq
              have ho3 : (h.ln != 1) = false := by simpa using hq
              have ho2 : (h.ld == 1) = false := by simpa using fun e => hone ⟨hq, e⟩
              have ho4 : (h.ld != 1) = true := by simpa using fun e => hone ⟨hq, e⟩
              clear hone hq
              rcases hend with e | e
              · have f1 : ((k : Int) == 0) = true := by simpa using e
                clear e
                go_upto_region 9 with (fail)
                first
                  | go_region_with (first
                    | (go_at_call 65; (with_reducible refine (wholeL_any 1 _).mono ?_); rintro e y1 ⟨rfl, hy1⟩; have hx1 : Below W2.heap.size W2 y1 := hbr.drew.trans hy1; obtain ⟨x0, x1, x2, x3⟩ := HX.out _ hx1))
                  | fail
                all_goals simp only [Act.put, List.setIfInBounds_toArray, List.set_cons_zero, List.set_cons_succ, List.getElem_toArray, List.getElem_cons_succ, List.getElem_cons_zero]
                all_goals go_wp2_with fail
                all_goals go_ret2
                all_goals exact ⟨Lib.hid ⟨_, rfl⟩, by first | exact (HKF.out _ hx1).out | exact (HKG.out _ hx1).out⟩
              · have f1 : ((k : Int) == 0) = false := by simp; omega
                have f2 : ((k : Int) == (L.length : Int) - 1) = true := by simp; omega
                clear e
                go_upto_region 9 with (fail)
                first
                  | go_region_with (first
                    | (go_at_call 65; (with_reducible refine (wholeL_any 1 _).mono ?_); rintro e y1 ⟨rfl, hy1⟩; have hx1 : Below W2.heap.size W2 y1 := hbr.drew.trans hy1; obtain ⟨x0, x1, x2, x3⟩ := HX.out _ hx1))
                  | fail
                all_goals simp only [Act.put, List.setIfInBounds_toArray, List.set_cons_zero, List.set_cons_succ, List.getElem_toArray, List.getElem_cons_succ, List.getElem_cons_zero]
                all_goals go_wp2_with fail
                all_goals go_ret2
                all_goals exact ⟨Lib.hid ⟨_, rfl⟩, by first | exact (HKF.out _ hx1).out | exact (HKG.out _ hx1).out⟩
            · have ho1 : (h.ln == 1) = false := by simpa using hq
              have ho3 : (h.ln != 1) = true := by simpa using hq
              clear hone hq
              rcases hend with e | e
              · have f1 : ((k : Int) == 0) = true := by simpa using e
                clear e
                go_upto_region 9 with (fail)
                first
                  | go_region_with (first
                    | (go_at_call 65; (with_reducible refine (wholeL_any 1 _).mono ?_); rintro e y1 ⟨rfl, hy1⟩; have hx1 : Below W2.heap.size W2 y1 := hbr.drew.trans hy1; obtain ⟨x0, x1, x2, x3⟩ := HX.out _ hx1))
                  | fail
                all_goals simp only [Act.put, List.setIfInBounds_toArray, List.set_cons_zero, List.set_cons_succ, List.getElem_toArray, List.getElem_cons_succ, List.getElem_cons_zero]
                all_goals go_wp2_with fail
                all_goals go_ret2
                all_goals exact ⟨Lib.hid ⟨_, rfl⟩, by first | exact (HKF.out _ hx1).out | exact (HKG.out _ hx1).out⟩
              · have f1 : ((k : Int) == 0) = false := by simp; omega
                have f2 : ((k : Int) == (L.length : Int) - 1) = true := by simp; omega
                clear e
                go_upto_region 9 with (fail)
                first
                  | go_region_with (first
                    | (go_at_call 65; (with_reducible refine (wholeL_any 1 _).mono ?_); rintro e y1 ⟨rfl, hy1⟩; have hx1 : Below W2.heap.size W2 y1 := hbr.drew.trans hy1; obtain ⟨x0, x1, x2, x3⟩ := HX.out _ hx1))
                  | fail
                all_goals simp only [Act.put, List.setIfInBounds_toArray, List.set_cons_zero, List.set_cons_succ, List.getElem_toArray, List.getElem_cons_succ, List.getElem_cons_zero]
                all_goals go_wp2_with fail
                all_goals go_ret2
                all_goals exact ⟨Lib.hid ⟨_, rfl⟩, by first | exact (HKF.out _ hx1).out | exact (HKG.out _ hx1).out⟩
        · have f1 : ((k : Int) == 0) = false := by simp; omega
          have f2 : ((k : Int) == (L.length : Int) - 1) = false := by simp; omega
          have HE : Hid ((k == 0 || k + 1 == L.length) = false) := Lib.hid (by simpa using hend)
          have HO : Hid (holdB L.length k h = lo) := Lib.hid (by rw [HDef.out, HE.out, HLo.out]; simp)
          have hk0 : 0 < k := by omega
          have hkn : k + 1 < L.length := by omega
          clear hend
          cases lo
          · have HR1 : R = 1 := HNo.out HO.out
            subst HR1
            go_upto_region 9 with (fail)
            first
              | go_region_with (first
                | (go_at_call 66; (with_reducible refine (lossy_any h.ln h.ld _).mono ?_); rintro e y2 ⟨rfl, hy2⟩; rw [HLo.out]; have hx2 : Below W2.heap.size W2 y2 := (by first | exact held_next hx1 hy2 | exact hbr.drew.trans hy2); obtain ⟨x0, x1, x2, x3⟩ := HX.out _ hx2))
              | fail
            all_goals simp only [Act.put, List.setIfInBounds_toArray, List.set_cons_zero, List.set_cons_succ, List.getElem_toArray, List.getElem_cons_succ, List.getElem_cons_zero]
            all_goals go_wp2_with fail
            all_goals go_ret2
            all_goals exact ⟨Lib.hid ⟨_, rfl⟩, by first | exact (HKF.out _ hx2).out | exact (HKG.out _ hx2).out⟩
          · have HT1 : Hid (ropeTo L (k + 1) = true) := Lib.hid (HYes.out HO.out)
            obtain ⟨i1, i2, i3, i4, i5, i6, i7⟩ := HFI0.out
            have i8 := i1 hlt
            rw [if_neg (by omega)] at i8
            have HIF := Lib.hid (⟨i4, i5, i6, i7⟩ : validF (frg F (F.length - 1)).1 (frg F (F.length - 1)).2 = true ∧ 1 ≤ (frg F (F.length - 1)).2 ∧ (frg F (F.length - 1)).2 ≤ (frg F (F.length - 1)).1 ∧ (frg F (F.length - 1)).1 ≤ 100 ^ (F.length - 1))
            obtain ⟨p, q, hpq, hv, hq1, hq2, hq3⟩ := factor_step (m := F.length - 1) i5 i6 i7 (by omega) HLo.out
            have HMul : Hid (∀ w : World, Calls Tryz.prog 67 #[.agg #[.int .i64 (frg F (F.length - 1)).1, .int .i64 (frg F (F.length - 1)).2], .agg #[.int .i64 h.ln, .int .i64 h.ld]] w fun e w' => e = .returned (.tuple #[.agg #[.int .i64 p, .int .i64 q], .int .i64 0]) ∧ Below w.heap.size w w') := Lib.hid fun w => by
              have hm := mul_any (frg F (F.length - 1)).1 (frg F (F.length - 1)).2 h.ln h.ld i4 (lossy_ok HLo.out).2.2.2 w
              rw [hpq] at hm
              exact hm
            have HF1 : Hid (FInv L (k + 1) (F ++ [(p, q)])) := Lib.hid (by
              have hlen : (F ++ [(p, q)]).length = F.length + 1 := by simp
              have hlast : frg (F ++ [(p, q)]) F.length = (p, q) := frg_new F (p, q)
              refine ⟨fun _ => by rw [hlen, if_neg (by omega)]; omega, by omega, by omega, ?_⟩
              rw [hlen, Nat.add_sub_cancel, hlast]
              refine ⟨hv, hq1, hq2, ?_⟩
              rw [show F.length = F.length - 1 + 1 by omega]
              exact hq3)
            clear i1 i2 i4 i5 i6 i7 hpq hv hq1 hq2 hq3
            obtain ⟨ao, co, rfl, hco, _, _, hFr⟩ := fr_of_row hrow2
            obtain ⟨bo, oo, rfl, hbo, hFc⟩ := hFr (by omega)
            obtain ⟨z0, z1⟩ := hFc (F.length - 1) (by omega)
            obtain ⟨m, hm⟩ : ∃ m, F.length - 1 = m := ⟨_, rfl⟩
            have hFl : F.length = m + 1 := by omega
            have hkm : k = m + 1 := by omega
            rw [hm] at z0 z1
            have s1 : IntKind.i64.wrap ((k : Int) - 1) = (m : Int) := by rw [IntWalk.i64_in _ (by omega)]; omega
            obtain ⟨fx, fy, hfx⟩ : ∃ fx fy, frg F m = (fx, fy) := ⟨_, _, rfl⟩
            rw [hm, hfx] at HMul
            rw [hfx] at z0 z1
            simp only at z0 z1 HMul
            have hle : F.length ≤ 1000000 := by omega
            have hmF : m < F.length := by omega
            have hmF2 : (m : Int) < (F.length : Int) := by omega
            have hm0 : (0 : Int) ≤ (m : Int) := by omega
            clear hFr hFc HIF i8 hm hFl hkm
            go_upto_region 9 with (fail)
            first
              | go_region_with (go_at_call 66; (with_reducible refine (lossy_any h.ln h.ld _).mono ?_); rintro e y2 ⟨rfl, hy2⟩; rw [HLo.out]; have hx2 : Below W2.heap.size W2 y2 := (by first | exact held_next hx1 hy2 | exact hbr.drew.trans hy2); obtain ⟨x0, x1, x2, x3⟩ := HX.out _ hx2)
              | fail
            all_goals simp only [Act.put, List.setIfInBounds_toArray, List.set_cons_zero, List.set_cons_succ, List.getElem_toArray, List.getElem_cons_succ, List.getElem_cons_zero]
            all_goals go_upto_region 12 with (fail)
            all_goals (have hx2d := hx2.drew; have hzx := hx2.size; have k0 := (hx2.cell (p := ⟨bo, oo + m * 2, none⟩) hbo).trans z0; have k1 := (hx2.cell (p := ⟨bo, oo + m * 2 + 1, none⟩) hbo).trans z1; have hB9 : B9 < y2.heap.size := World.block_lt_of_cell? _ _ x2; have hbx : bo < y2.heap.size := Nat.lt_of_lt_of_le hbo hzx; have hr3 := ownsRow_below hrow2 hx2)
            all_goals
              go_cut [11, 12] (fun v11 v12 wx => ∃ B : Nat, v11 = .pointer (some ⟨B, 0, none⟩) ∧ v12 = .int .i64 0 ∧ W2.heap.size ≤ B ∧ Below W2.heap.size W2 wx ∧ wx.cell? ⟨B, 0, none⟩ = some (.int .i64 p) ∧ wx.cell? ⟨B, 1, none⟩ = some (.int .i64 q))
              case first =>
                go_region_with (go_at_call 67; (with_reducible refine (HMul.out _).mono ?_); rintro e y3 ⟨rfl, hy3⟩; first | (have hx3 : Below W2.heap.size W2 y3 := held_next hx2d hy3) | (have hx3 : Below W2.heap.size W2 y3 := held_next ((below_a _ hx2).drew) hy3; have hq : NewI y3 y2.heap.size := newI_DD hy3; obtain ⟨t0, t1, t2, t3, t4⟩ := hq))
                all_goals go_wp2_with fail
                all_goals go_meet
                all_goals first
                  | exact ⟨_, rfl, rfl, hzx, below_s ⟨y2.heap.size, 1, none⟩ _ (below_s ⟨y2.heap.size, 0, none⟩ _ hx3 hzx) hzx, two_cells t0 t1⟩
                  | exact ⟨_, rfl, rfl, hx3.size, below_a _ hx3, new_cells _ _ _ _⟩
              case rest =>
                obtain ⟨B, rfl, rfl, hB, hcx, p0, p1⟩ := hcut
                have hr4 := ownsRow_below hrow2 hcx
                have hBs := hcx.size
                have hBk := (HKB.out _ hcx).out
                clear hr3 k0 k1
                go_wp2_with (at_builtin; refine fr_append rfl _ _ rfl B0 _ F rfl (hr4.alloc (.cells #[.int .i64 p, .int .i64 q] 76)) _ (p, q) rfl (by simp) hle (by first | omega | (simp; omega)) ?_; intro v5 w5 hown5 hg5; have hBn : Below B0 Wa w5 := grown_own (hr4.alloc (.cells #[.int .i64 p, .int .i64 q] 76)) hg5 (hBk.alloc (by first | omega | (simp; omega)) _) (by simp; omega) (Nat.le_refl _))
                first
                  | exact ⟨⟨k + 1, F ++ [(p, q)], by omega, by go_num, HT1, HF1, hown5, hBn⟩, by simp [intOf]; omega⟩
      · obtain rfl : k = L.length := by omega
        have HR0 : R = 0 := (by rw [← HR.out]; unfold ropeB; rw [HT0.out, decide_eq_true n1, decide_eq_true n2]; rfl)
        subst HR0
        go_wp2_with fail
        go_ret2
        have hfin := hW1.trans (hC.mono hzw)
        exact ⟨Lib.hid ⟨_, rfl⟩, by first | exact hfin | (rw [← hBr]; exact hfin)⟩
  · have HR : Hid (ropeB L = false) := Lib.hid (by
      unfold ropeB
      rw [Bool.eq_false_iff]
      simp
      omega)
    rw [HR.out]
    have g3 : decide ((L.length : Int) < 2) = decide (L.length < 2) := by rw [Bool.eq_iff_iff]; simp; omega
    have hW0 := below_new w (.cells #[.string nm, .slice a L.length cap, .bool hd] 43)
    clear g3
    by_cases hq : L.length < 2
    · have g1 : decide ((L.length : Int) < 2) = true := decide_eq_true (by omega)
      have q1 : (L.length : Int) < 2 := by omega
      clear hn
      go_enter Tryz.func42, Tryz.ntmps42
      go_wp2_with fail
      go_ret2
      exact ⟨Lib.hid ⟨_, rfl⟩, hW0⟩
    · have g1 : decide ((L.length : Int) < 2) = false := decide_eq_false (by omega)
      have g2 : decide ((10 : Int) < L.length) = true := decide_eq_true (by omega)
      have q1 : (10 : Int) < L.length := by omega
      clear hn
      go_enter Tryz.func42, Tryz.ntmps42
      go_wp2_with fail
      go_ret2
      exact ⟨Lib.hid ⟨_, rfl⟩, hW0⟩
end Go.Proofs.YthldfijlcoobgaaGreat
