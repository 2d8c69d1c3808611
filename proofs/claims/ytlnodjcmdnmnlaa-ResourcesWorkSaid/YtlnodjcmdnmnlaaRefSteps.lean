/-
  THE WALK of the reference's Steps (layer 42).
-/
import Derived.Test.YtlnodjcmdnmnlaaRefAt
namespace Go.Proofs.Ytlnodjcmdnmnlaa
open Go.RowKit Go.Shelf

theorem stepsK_one {U : UseL} (h : UseOK U) : stepsK U 1 = [(0, sumAt U 0)] := by
  rw [stepsK_succ U 0 (times_pos U), times_zero h]
  rfl
theorem stepsK_pos {U : UseL} (k : Nat) (h1 : 1 ≤ k) (hk : k ≤ (timesP U).length) : 0 < (stepsK U k).length := by
  induction k with
  | zero => omega
  | succ k ih =>
    rw [stepsK_succ U k (by omega)]
    unfold addS
    split
    · rw [List.length_append]; simp
    · next h => have := fun e => h (.inl e); omega
theorem addS_same {U : UseL} {out : List (Int × Int)} {t : Int} (h0 : 0 < out.length) (h : (og out (out.length - 1)).2 = sumAt U t) : addS U out t = out := by
  unfold addS; rw [if_neg (fun e => e.elim (by omega) (fun e => e h))]
theorem addS_more {U : UseL} {out : List (Int × Int)} {t : Int} (h : (og out (out.length - 1)).2 ≠ sumAt U t) : addS U out t = out ++ [(t, sumAt U t)] := by
  unfold addS; rw [if_pos (.inr h)]
theorem addS_first {U : UseL} {out : List (Int × Int)} {t : Int} (h : out.length = 0) : addS U out t = out ++ [(t, sumAt U t)] := by
  unfold addS; rw [if_pos (.inl h)]

def leftM (M t : Int) : Nat := if t < 0 then 0 else (M + 1 - t).toNat
set_option maxHeartbeats 8000000 in
theorem refsteps_any (a : Option Addr) (U : UseL) (cap : Nat) (w : World) (hl : U.length ≤ 1000) (hok : UseOK U) (hB : UseB U) (hU : Parts w.heap.size w a U) :
    Calls Try.prog 29 #[.slice a U.length cap] w fun e w' => Hid (∃ v, e = .returned v ∧ w'.ownsRow w.heap.size 39 2 v (stepsP U).length (oflat (stepsP U)) ∧ Below w.heap.size w w') := by
  have HU := Lib.hid hU
  have HBB := Lib.hid hB
  have HOK := Lib.hid hok
  have HTL := times_len U
  have hpos := times_pos U
  obtain ⟨T, hT⟩ : ∃ T, timesP U = T := ⟨_, rfl⟩
  have HK1 := Lib.hid (stepsK_one hok)
  have HNX : Hid (∀ k, k < T.length → nextP U (ig T k) = if k + 1 < T.length then ig T (k + 1) else -1) := Lib.hid (by rw [← hT]; exact next_time hok)
  have HGE : Hid (∀ k, k < T.length → 0 ≤ ig T k) := Lib.hid (by rw [← hT]; exact fun k hk => times_ge hok _ (mem_ig.2 ⟨k, hk, rfl⟩))
  have HLT : Hid (∀ i j, i < j → j < T.length → ig T i < ig T j) := Lib.hid (by rw [← hT]; exact fun i j h1 h2 => ig_lt (times_lt U) h1 h2)
  have HSU : Hid (∀ k, k < T.length → stepsK U (k + 1) = addS U (stepsK U k) (ig T k)) := Lib.hid (by rw [← hT]; exact stepsK_succ U)
  have HSP : Hid (∀ k, 1 ≤ k → k ≤ T.length → 0 < (stepsK U k).length) := Lib.hid (by rw [← hT]; exact stepsK_pos)
  have HSL : Hid (∀ k, k ≤ T.length → (stepsK U k).length ≤ k) := Lib.hid (by rw [← hT]; exact stepsK_len U)
  have HALL : Hid (stepsK U T.length = stepsP U) := Lib.hid (by rw [← hT]; exact stepsK_all U)
  have HT0 : Hid (ig T 0 = 0) := Lib.hid (by rw [← hT]; exact times_zero hok)
  have HNX0 : Hid (nextP U 0 = if 1 < T.length then ig T 1 else -1) := Lib.hid (by have := HNX.out 0 (by rw [← hT]; exact hpos); rw [HT0.out] at this; exact this)
  rw [hT] at HTL hpos
  have hTle : T.length ≤ 2001 := by omega
  clear hU hB hok hT HTL
  obtain ⟨M, hM⟩ : ∃ M, ig T (T.length - 1) = M := ⟨_, rfl⟩
  have HM : Hid (∀ k, k < T.length → ig T k ≤ M) := Lib.hid fun k hk => by
    rcases Nat.lt_or_ge k (T.length - 1) with l | l
    · have := HLT.out k (T.length - 1) l (by omega); omega
    · obtain rfl : k = T.length - 1 := by omega
      omega
  clear hM
  go_enter Try.func29, Try.ntmps29
  have HPA : Hid (∀ o, Parts w.heap.size (w.alloc o) a U) := Lib.hid fun o => HU.out.below (below_new w o)
  go_wp2_with (first
    | (go_at_call 36; (with_reducible refine (refat_any _ U _ 0 _ _ (by omega) HBB.out HU.out).mono ?_); rintro e w' ⟨rfl, rfl⟩)
    | (go_at_call 37; (with_reducible refine (refnext_any _ U _ 0 _ _ (by omega) (HPA.out _)).mono ?_); rintro e w' ⟨rfl, rfl⟩))
  have HR0 : Hid ((w.alloc (.cells #[.int .i64 0, .int .i64 (sumAt U 0)] 39)).ownsRow w.heap.size 39 2 (.slice (some ⟨w.heap.size, 0, none⟩) 1 1) (stepsK U 1).length (oflat (stepsK U 1))) := Lib.hid (by rw [HK1.out]; exact World.ownsRow_lit w #[.int .i64 0, .int .i64 (sumAt U 0)] 1 (Nat.le_refl _) (by unfold maxLen; omega) rfl)
  have hb0 := below_new w (.cells #[.int .i64 0, .int .i64 (sumAt U 0)] 39)
  go_loopw [3, 4] (fun v tv wr => ∃ (k : Nat) (t : Int), 1 ≤ k ∧ k ≤ T.length ∧ tv = .int .i64 t ∧ Hid (t = if k < T.length then ig T k else -1) ∧ Below w.heap.size w wr ∧ Hid (wr.ownsRow w.heap.size 39 2 v (stepsK U k).length (oflat (stepsK U k)))) (fun _ tv _ => leftM M (intOf tv))
  case atStart => exact ⟨1, _, Nat.le_refl _, hpos, rfl, HNX0, hb0, HR0⟩
  case round =>
    clear hb0
    obtain ⟨k, t, hk1, hk, rfl, HT, hB, HR⟩ := hrel
    have hsp := HSP.out k hk1 hk
    have hsl := HSL.out k hk
    have hbs := hB.size
    by_cases hlt : k < T.length
    · have ht : t = ig T k := by rw [HT.out, if_pos hlt]
      have ht0 : 0 ≤ t := by rw [ht]; exact HGE.out k hlt
      have HSU1 : Hid (stepsK U (k + 1) = addS U (stepsK U k) t) := Lib.hid (by rw [ht]; exact HSU.out k hlt)
      have HNXT : Hid (nextP U t = if k + 1 < T.length then ig T (k + 1) else -1) := Lib.hid (by rw [ht]; exact HNX.out k hlt)
      have HMS : Hid (leftM M (nextP U t) < leftM M t) := Lib.hid (by
        have h1 := HM.out k hlt
        rw [← ht] at h1
        unfold leftM
        rw [if_neg (show ¬ t < 0 by omega), HNXT.out]
        by_cases c : k + 1 < T.length
        · rw [if_pos c]
          have h2 := HLT.out k (k + 1) (by omega) c
          have h3 := HM.out (k + 1) c
          rw [← ht] at h2
          rw [if_neg (by omega)]; omega
        · rw [if_neg c, if_pos (by decide)]; omega)
      have HPW : Hid (Parts w.heap.size wr a U) := Lib.hid (HU.out.below hB)
      clear ht
      obtain ⟨out, ho⟩ : ∃ out, stepsK U k = out := ⟨_, rfl⟩
      rw [ho] at HR HSU1 hsp hsl
      obtain ⟨sa, sc, rfl, _, _, _, _⟩ := load_of_row HR.out
      obtain ⟨g, rfl, hg1, hg2⟩ := row_addr HR.out hsp
      have o1 : wr.cell? ⟨g, (out.length - 1) * 2 + 1, none⟩ = some (.int .i64 (og out (out.length - 1)).2) := by rw [HR.out.cellAt _ (by omega)]; exact (oflat_at out _ (by omega)).2
      clear ho
      by_cases q : (og out (out.length - 1)).2 = sumAt U t
      · have HS : Hid (stepsK U (k + 1) = out) := Lib.hid (by rw [HSU1.out]; exact addS_same hsp q)
        rw [q] at o1
        have q1 : (sumAt U t != sumAt U t) = false := bne_self_eq_false _
        clear q
        go_wp2_with (first
          | (go_at_call 36; (with_reducible refine (refat_any _ U _ t _ _ (by omega) HBB.out HPW.out).mono ?_); rintro e w' ⟨rfl, rfl⟩)
          | (go_at_call 37; (with_reducible refine (refnext_any _ U _ t _ _ (by omega) HPW.out).mono ?_); rintro e w' ⟨rfl, rfl⟩))
        go_roundw
        case rel => exact ⟨k + 1, _, by omega, by omega, rfl, HNXT, hB, Lib.hid (by rw [HS.out]; exact HR.out)⟩
        case measure => exact HMS.out
      · have HS : Hid (stepsK U (k + 1) = out ++ [(t, sumAt U t)]) := Lib.hid (by rw [HSU1.out]; exact addS_more q)
        have q1 : (sumAt U t != (og out (out.length - 1)).2) = true := bne_iff_ne.2 (fun e => q e.symm)
        clear q
        go_wp2_with (first
          | (go_at_call 36; (with_reducible refine (refat_any _ U _ t _ _ (by omega) HBB.out HPW.out).mono ?_); rintro e w' ⟨rfl, rfl⟩)
          | (at_builtin; refine load_append rfl _ _ rfl w.heap.size _ out rfl (HR.out.alloc _) _ (t, sumAt U t) rfl (by simp) (by omega) (by first | omega | (simp; omega)) ?_; intro v5 w5 hown5 hg5; have hBn : Below w.heap.size w w5 := grown_own (HR.out.alloc (.cells #[.int .i64 t, .int .i64 (sumAt U t)] 39)) hg5 (hB.alloc hbs _) (by first | omega | (simp; omega)) (Nat.le_refl _); have HPN := Lib.hid (HU.out.below hBn))
          | (go_at_call 37; (with_reducible refine (refnext_any _ U _ t _ _ (by omega) HPN.out).mono ?_); rintro e w' ⟨rfl, rfl⟩))
        go_roundw
        case rel => exact ⟨k + 1, _, by omega, by omega, rfl, HNXT, hBn, Lib.hid (by rw [HS.out]; exact hown5)⟩
        case measure => exact HMS.out
    · have ht : t = -1 := by rw [HT.out, if_neg hlt]
      subst ht
      obtain rfl : k = T.length := by omega
      go_wp2_with fail
      go_ret
      exact Lib.hid ⟨_, rfl, by rw [← HALL.out]; exact HR.out, hB⟩
end Go.Proofs.Ytlnodjcmdnmnlaa
