/-
  THE WALKS of inspect.Check and of the reference's Check: the findings of a log.
-/
import Derived.Test.YtfojipgbenbigaaDoorDues
import Derived.Maps.AppendAt
namespace Go.Proofs.YtfojipgbenbigaaDoor
open Go.RowKit Go.Shelf Go.Maps Go.WideMaps

/-- A name has been seen among the first entries. -/
def seenTo (L : List LogR) (t : ByteArray) : Nat → Bool
  | 0 => false
  | k + 1 => if t = (lg L k).rope then true else seenTo L t k
theorem seen_iff (L : List LogR) (t : ByteArray) (k : Nat) : seenTo L t k = true ↔ ∃ j, j < k ∧ (lg L j).rope = t := by
  induction k with
  | zero => simp [seenTo]
  | succ k ih =>
    simp only [seenTo]
    by_cases e : t = (lg L k).rope
    · simp only [if_pos e, true_iff]; exact ⟨k, by omega, e.symm⟩
    · rw [if_neg e, ih]
      refine ⟨fun ⟨j, h1, h2⟩ => ⟨j, by omega, h2⟩, fun ⟨j, h1, h2⟩ => ⟨j, ?_, h2⟩⟩
      rcases Nat.lt_or_ge j k with l | l
      · exact l
      · obtain rfl : j = k := by omega
        exact absurd h2.symm e
theorem seen_first (L : List LogR) (k : Nat) (hk : k < L.length) : ((firstI L (lg L k).rope) != (k : Int)) = seenTo L (lg L k).rope k := by
  rcases first_cases L (lg L k).rope with ⟨_, h⟩ | ⟨j, hj, e, h1, h2⟩
  · exact absurd rfl (h k hk)
  · rw [e, Bool.eq_iff_iff, seen_iff, bne_iff_ne]
    refine ⟨fun h => ⟨j, ?_, h1⟩, fun ⟨i, hi, hi2⟩ hjk => h2 i (by omega) hi2⟩
    rcases Nat.lt_trichotomy j k with l | l | l
    · exact l
    · exact absurd (by rw [l]) h
    · exact absurd rfl (h2 k l)
theorem first_not (L : List LogR) (k : Nat) (hk : k < L.length) : firstI L (lg L k).rope ≠ -1 := by
  rcases first_cases L (lg L k).rope with ⟨_, h⟩ | ⟨j, _, e, _⟩
  · exact absurd rfl (h k hk)
  · omega

/-- What an entry adds to the findings. -/
def fnd (L : List LogR) (today every : Int) (k : Nat) : List (Int × ByteArray) :=
  if seenTo L (lg L k).rope k || retB L (lg L k).rope then [] else
    if dueI L (lg L k).rope every < today then [(1, (lg L k).rope)] else if dueI L (lg L k).rope every = today then [(2, (lg L k).rope)] else []
def findTo (L : List LogR) (today every : Int) : Nat → List (Int × ByteArray)
  | 0 => []
  | k + 1 => findTo L today every k ++ fnd L today every k
theorem findTo_len (L : List LogR) (today every : Int) (k : Nat) : (findTo L today every k).length ≤ k := by
  induction k with
  | zero => simp [findTo]
  | succ k ih =>
    simp only [findTo, List.length_append]
    have : (fnd L today every k).length ≤ 1 := by
      unfold fnd
      split
      · simp
      · split
        · simp
        · split <;> simp
    omega
theorem findTo_succ (L : List LogR) (today every : Int) (k : Nat) : findTo L today every (k + 1) = findTo L today every k ++ fnd L today every k := rfl
theorem fnd_no (L : List LogR) (today every : Int) (k : Nat) (h : (seenTo L (lg L k).rope k || retB L (lg L k).rope) = true) : fnd L today every k = [] := by unfold fnd; rw [if_pos h]
theorem fnd_yes (L : List LogR) (today every : Int) (k : Nat) (h1 : seenTo L (lg L k).rope k = false) (h2 : retB L (lg L k).rope = false) :
    fnd L today every k = if dueI L (lg L k).rope every < today then [(1, (lg L k).rope)] else if dueI L (lg L k).rope every = today then [(2, (lg L k).rope)] else [] := by unfold fnd; rw [h1, h2]; rfl

/-- Findings as cells. -/
def flat (F : List (Int × ByteArray)) : List Value := F.flatMap fun f => [.int .i64 f.1, .string f.2]
theorem flat_snoc (F : List (Int × ByteArray)) (c : Int) (s : ByteArray) : flat (F ++ [(c, s)]) = flat F ++ [.int .i64 c, .string s] := by simp [flat]
def checkP (L : List LogR) (today every : Int) : List (Int × ByteArray) × Int :=
  if validB L then (if isDayB today && everyB every then (findTo L today every L.length, 0) else ([], 2)) else ([], 1)
/-- The findings F, in a slice of the call's own, and an error number. -/
def Found (base : Nat) (F : List (Int × ByteArray)) (c : Int) (w : World) (e : Ending) (w' : World) : Prop :=
  ∃ v, e = .returned (.tuple #[v, .int .i64 c]) ∧ w'.ownsRow base 43 2 v F.length (flat F) ∧ Below w.heap.size w w'

theorem ownsRow_below {w w' : World} {base size n : Nat} {e : TypeId} {v : Value} {xs : List Value} (h : w.ownsRow base e size v n xs) (hB : Below w.heap.size w w') : w'.ownsRow base e size v n xs := by
  refine ⟨h.1, ?_⟩
  rcases h.2 with hn | ⟨g, cap, cur, rfl, hb, hg, rest⟩
  · exact .inl hn
  · exact .inr ⟨g, cap, cur, rfl, hb, (hB.block g (Array.getElem?_eq_some_iff.1 hg).1).trans hg, rest⟩
theorem row_ne_map {w : World} {base size n b m : Nat} {e : TypeId} {v : Value} {xs : List Value} {f : ByteArray → Bool} (h : w.ownsRow base e size v n xs) (hm : BoolMap w b m f) : v.ownBlock ≠ some b := by
  intro e'
  obtain ⟨D, ⟨es, clock, hb, _⟩, _⟩ := hm
  rcases h.2 with ⟨rfl, _⟩ | ⟨g, cap, cur, rfl, _, hg, _⟩
  · simp [Value.ownBlock] at e'
  · simp only [Value.ownBlock, Option.some.injEq] at e'
    subst e'
    rw [hg] at hb
    cases hb

theorem infoF : (Tryd.prog.info? 43).map (fun i => (i.zero, i.size, i.bytes)) = some (some (.agg #[.int .i64 0, .string ⟨#[]⟩]), 2, 24) := by kernel_rfl

set_option maxRecDepth 100000 in
set_option maxHeartbeats 4000000 in
theorem check_any (a : Option Addr) (L : List LogR) (cap : Nat) (today every : Int) (w : World) (hlen : L.length ≤ 1100) (hI : Logs w.heap.size w a L) :
    Calls Tryd.prog 16 #[.slice a L.length cap, .int .i64 today, .int .i64 every] w (Found w.heap.size (checkP L today every).1 (checkP L today every).2 w) := by
  have HC := Lib.hid (valid_any a L cap w hlen hI)
  have HI := Lib.hid hI; clear hI
  have HD : Hid (checkP L today every = if validB L then (if isDayB today && everyB every then (findTo L today every L.length, 0) else ([], 2)) else ([], 1)) := Lib.hid rfl
  have hmm := @run_makeMap Tryd.prog
  cases hv : validB L
  · rw [hv] at HC HD
    clear hv
    go_enter Tryd.func16, Tryd.ntmps16
    go_wp2_with (go_at_call 27; (with_reducible refine HC.out.mono ?_); rintro e w1 ⟨rfl, hb1⟩)
    go_ret2
    rw [HD.out]
    exact ⟨_, rfl, World.ownsRow_nil _ _ _ _, hb1⟩
  · obtain ⟨ht, hlen2⟩ := valid_tame L hv
    have HT := Lib.hid ht; clear ht
    have HN : Hid (∀ k, k < L.length → isNameB (lg L k).rope = true) := Lib.hid fun k hk => by
      unfold validB at hv
      simp only [Bool.and_eq_true] at hv
      have := (vTo_at L _ k hv.2 hk).1
      rw [head_eq2] at this
      simp only [Bool.and_eq_true] at this
      exact this.1.2
    rw [hv] at HC HD
    clear hv
    cases hd : isDayB today
    · have HE : Hid (checkP L today every = ([], 2)) := Lib.hid (by rw [HD.out, hd]; rfl)
      go_enter Tryd.func16, Tryd.ntmps16
      go_wp2_with (first
        | (go_at_call 27; (with_reducible refine HC.out.mono ?_); rintro e w1 ⟨rfl, hb1⟩)
        | (go_at_call 45; refine (isDay_any _ _).mono ?_; rintro e w' ⟨rfl, rfl⟩))
      go_ret2
      rw [HE.out]
      exact ⟨_, rfl, World.ownsRow_nil _ _ _ _, hb1⟩
    · by_cases q1 : every < 1
      · have HE : Hid (checkP L today every = ([], 2)) := Lib.hid (by rw [HD.out, hd]; unfold everyB; rw [decide_eq_false (show ¬ (1 ≤ every ∧ every ≤ 36600) by omega)]; rfl)
        go_enter Tryd.func16, Tryd.ntmps16
        go_wp2_with (first
          | (go_at_call 27; (with_reducible refine HC.out.mono ?_); rintro e w1 ⟨rfl, hb1⟩)
          | (go_at_call 45; refine (isDay_any _ _).mono ?_; rintro e w' ⟨rfl, rfl⟩))
        go_ret2
        rw [HE.out]
        exact ⟨_, rfl, World.ownsRow_nil _ _ _ _, hb1⟩
      · by_cases q2 : 36600 < every
        · have HE : Hid (checkP L today every = ([], 2)) := Lib.hid (by rw [HD.out, hd]; unfold everyB; rw [decide_eq_false (show ¬ (1 ≤ every ∧ every ≤ 36600) by omega)]; rfl)
          go_enter Tryd.func16, Tryd.ntmps16
          go_wp2_with (first
            | (go_at_call 27; (with_reducible refine HC.out.mono ?_); rintro e w1 ⟨rfl, hb1⟩)
            | (go_at_call 45; refine (isDay_any _ _).mono ?_; rintro e w' ⟨rfl, rfl⟩))
          go_ret2
          rw [HE.out]
          exact ⟨_, rfl, World.ownsRow_nil _ _ _ _, hb1⟩
        · have g1 := decide_eq_false q1
          have g2 := decide_eq_false q2
          have e0 : 1 ≤ every := by omega
          have e1 : every ≤ 36600 := by omega
          have HE : Hid (checkP L today every = (findTo L today every L.length, 0)) := Lib.hid (by rw [HD.out, hd]; unfold everyB; rw [decide_eq_true (show 1 ≤ every ∧ every ≤ 36600 by omega)]; rfl)
          clear HD q1 q2
          obtain ⟨i0, hi, hz0, hz1, hz2⟩ := info_parts infoF
          go_enter Tryd.func16, Tryd.ntmps16
          go_wp2_with (first
            | (go_at_call 27; (with_reducible refine HC.out.mono ?_); rintro e w1 ⟨rfl, hb1⟩)
            | (go_at_call 45; refine (isDay_any _ _).mono ?_; rintro e w' ⟨rfl, rfl⟩))
          go_loopw [8, 30] (fun v i wr => ∃ k : Nat, k ≤ L.length ∧ i = .int .i64 k ∧ Below w.heap.size w wr ∧ Hid (wr.ownsRow w.heap.size 43 2 v (findTo L today every k).length (flat (findTo L today every k))) ∧ Hid (BoolMap wr w1.heap.size k (fun t => seenTo L t k))) (fun _ i _ => L.length - (intOf i).toNat)
          case atStart => exact ⟨0, Nat.zero_le _, rfl, hb1.alloc hb1.size _, Lib.hid (World.ownsRow_nil _ _ _ _), Lib.hid (BoolMap.made w1)⟩
          case round =>
            obtain ⟨k, hk, rfl, hB, HR, HM⟩ := hrel
            by_cases hlt : k < L.length
            · obtain ⟨b, off, rfl, hb, hcx⟩ := HI.out (by omega)
              obtain ⟨c0, c1, c2, c3⟩ := hcx k hlt
              have hbr : b < wr.heap.size := by have := hB.size; omega
              have d0 := (hB.cell (p := ⟨b, off + k * 4, none⟩) hb).trans c0
              have d1 := (hB.cell (p := ⟨b, off + k * 4 + 1, none⟩) hb).trans c1
              have d2 := (hB.cell (p := ⟨b, off + k * 4 + 2, none⟩) hb).trans c2
              have d3 := (hB.cell (p := ⟨b, off + k * 4 + 3, none⟩) hb).trans c3
              clear c0 c1 c2 c3 hcx
              have hsz := name_size _ (HN.out k hlt)
              have hF := findTo_len L today every k
              have hM1 := HM.out.alloc (.cells #[.int .i64 (lg L k).day, .string (lg L k).rope, .int .i64 (lg L k).kind, .int .i64 (lg L k).runs] 55)
              have hR1 := HR.out.alloc (.cells #[.int .i64 (lg L k).day, .string (lg L k).rope, .int .i64 (lg L k).kind, .int .i64 (lg L k).runs] 55)
              have hlook := hM1.look (lg L k).rope hsz
              have HRM := Lib.hid (row_ne_map hR1 hM1)
              have HR1 := Lib.hid hR1; clear hR1
              have HM1 := Lib.hid hM1
              have hb1s := hb1.size
              cases hs : seenTo L (lg L k).rope k
              · rw [hs] at hlook
                have HS := Lib.hid hs; clear hs
                obtain ⟨D, hown, h2, h3⟩ := hM1
                have hkey := keyOf_string_mk Tryd.underlying9 (show (lg L k).rope.size ≤ maxLen by unfold maxLen; omega)
                have H3 := Lib.hid h3; clear h3
                have hM1lt := HM.out.lt
                have HNF := Lib.hid (first_not L k hlt)
                have HFS : Hid ((fun t => if t = (lg L k).rope then true else seenTo L t k) = fun t => seenTo L t (k + 1)) := Lib.hid rfl
                cases hrt : retB L (lg L k).rope
                · have HRT := Lib.hid hrt; clear hrt
                  have HY := Lib.hid (fnd_yes L today every k HS.out HRT.out)
                  by_cases t1 : dueI L (lg L k).rope every < today
                  · have H : Hid (findTo L today every (k + 1) = findTo L today every k ++ [(1, (lg L k).rope)]) := Lib.hid (by rw [findTo_succ, HY.out, if_pos t1])
                    have g3 := decide_eq_true t1
                    clear t1
                    go_wp2_with (first | (at_mapUpdate; go_must (refine wpList_mapUpdate_own _ rfl _ _ _ 69 rfl 9 4 keyedS Tryd.underlying69 _ w1.heap.size k D rfl hown (by unfold maxLen; omega) _ _ _ rfl rfl hkey _ [] (plainElem_bool Tryd.underlying4 _) ?_; intro w2 hown2 hgrow2; have hB2 : Below w.heap.size w w2 := (hB.alloc hB.size _).grown hgrow2 (by have := hB.size; simp; omega) (fun j e => by cases e; exact hb1s); have HM2 := Lib.hid (BoolMap.put hown2 h2 H3.out); have HR2 := Lib.hid (HR1.out.kept hgrow2 (.inr HRM.out)); have hcx1 := hgrow2.cell (a := ⟨wr.heap.size, 1, none⟩) (show (wr.alloc (.cells #[.int .i64 (lg L k).day, .string (lg L k).rope, .int .i64 (lg L k).kind, .int .i64 (lg L k).runs] 55)).cell? ⟨wr.heap.size, 1, none⟩ = some (.string (lg L k).rope) by simp [go_sem]) (fun e => absurd (Option.some.inj e) (show wr.heap.size ≠ w1.heap.size by omega)); have hs2 : wr.heap.size < w2.heap.size := by (have := hgrow2.size; simp at this; omega))) | (go_at_call 46; go_must ((with_reducible refine (isRetired_any _ L _ (lg L k).rope _ hlen (HI.out.grow hB2)).mono ?_); rintro e w3 ⟨rfl, hb3⟩; have hB3 := hB2.trans (hb3.mono hB2.size); have HM3 := Lib.hid (HM2.out.below hb3); have HR3 := Lib.hid (ownsRow_below HR2.out hb3); have hcx3 := (hb3.cell (p := ⟨wr.heap.size, 1, none⟩) hs2).trans hcx1; have hs3 : wr.heap.size < w3.heap.size := (by have := hb3.size; omega); rw [HRT.out])) | (go_at_call 47; (with_reducible refine (due_any _ L _ (lg L k).rope every _ hlen (HI.out.grow hB3) HT.out e0 e1 HNF.out).mono ?_); rintro e w4 ⟨rfl, hb4⟩; have hB4 := hB3.trans (hb4.mono hB3.size); have HM4 := Lib.hid (HM3.out.below hb4); have HR4 := Lib.hid (ownsRow_below HR3.out hb4); have hcx4 := (hb4.cell (p := ⟨wr.heap.size, 1, none⟩) hs3).trans hcx3; have hs4 : wr.heap.size < w4.heap.size := (by have := hb4.size; omega)) | (at_builtin; refine wpList_append_own _ rfl _ _ 37 rfl w.heap.size 43 i0 (.agg #[.int .i64 0, .string ⟨#[]⟩]) 2 24 Tryd.underlying37 hi hz0 hz1 hz2 rfl (by decide) _ _ _ rfl (HR4.out.alloc _) ⟨w4.heap.size, 0, none⟩ 1 1 [.int .i64 1, .string (lg L k).rope] rfl rfl (cell_two_new _ _ _ _) (by simp [Value.oneCell']) (by unfold maxLen; omega) (by omega) (by have := hB4.size; simp; omega) ?_; intro v5 w5 hown5 hgrow5 _))
                    go_roundw
                    case rel => exact ⟨k + 1, by omega, by go_num, (hB4.alloc hB4.size _).grown hgrow5 (by have := hB4.size; simp; omega) (fun j e => ((HR4.out.lt j e)).1), Lib.hid (by rw [H.out, flat_snoc, List.length_append]; exact hown5), Lib.hid (by rw [← HFS.out]; exact (HM4.out.alloc _).kept hgrow5 (fun e => row_ne_map HR4.out HM4.out e.symm))⟩
                    case measure => simp [intOf]; omega
                  · by_cases t2 : dueI L (lg L k).rope every = today
                    · have H : Hid (findTo L today every (k + 1) = findTo L today every k ++ [(2, (lg L k).rope)]) := Lib.hid (by rw [findTo_succ, HY.out, if_neg t1, if_pos t2])
                      have g3 := decide_eq_false t1
                      have g4 : (dueI L (lg L k).rope every == today) = true := beq_iff_eq.2 t2
                      clear t1 t2
                      go_wp2_with (first | (at_mapUpdate; go_must (refine wpList_mapUpdate_own _ rfl _ _ _ 69 rfl 9 4 keyedS Tryd.underlying69 _ w1.heap.size k D rfl hown (by unfold maxLen; omega) _ _ _ rfl rfl hkey _ [] (plainElem_bool Tryd.underlying4 _) ?_; intro w2 hown2 hgrow2; have hB2 : Below w.heap.size w w2 := (hB.alloc hB.size _).grown hgrow2 (by have := hB.size; simp; omega) (fun j e => by cases e; exact hb1s); have HM2 := Lib.hid (BoolMap.put hown2 h2 H3.out); have HR2 := Lib.hid (HR1.out.kept hgrow2 (.inr HRM.out)); have hcx1 := hgrow2.cell (a := ⟨wr.heap.size, 1, none⟩) (show (wr.alloc (.cells #[.int .i64 (lg L k).day, .string (lg L k).rope, .int .i64 (lg L k).kind, .int .i64 (lg L k).runs] 55)).cell? ⟨wr.heap.size, 1, none⟩ = some (.string (lg L k).rope) by simp [go_sem]) (fun e => absurd (Option.some.inj e) (show wr.heap.size ≠ w1.heap.size by omega)); have hs2 : wr.heap.size < w2.heap.size := by (have := hgrow2.size; simp at this; omega))) | (go_at_call 46; go_must ((with_reducible refine (isRetired_any _ L _ (lg L k).rope _ hlen (HI.out.grow hB2)).mono ?_); rintro e w3 ⟨rfl, hb3⟩; have hB3 := hB2.trans (hb3.mono hB2.size); have HM3 := Lib.hid (HM2.out.below hb3); have HR3 := Lib.hid (ownsRow_below HR2.out hb3); have hcx3 := (hb3.cell (p := ⟨wr.heap.size, 1, none⟩) hs2).trans hcx1; have hs3 : wr.heap.size < w3.heap.size := (by have := hb3.size; omega); rw [HRT.out])) | (go_at_call 47; (with_reducible refine (due_any _ L _ (lg L k).rope every _ hlen (HI.out.grow hB3) HT.out e0 e1 HNF.out).mono ?_); rintro e w4 ⟨rfl, hb4⟩; have hB4 := hB3.trans (hb4.mono hB3.size); have HM4 := Lib.hid (HM3.out.below hb4); have HR4 := Lib.hid (ownsRow_below HR3.out hb4); have hcx4 := (hb4.cell (p := ⟨wr.heap.size, 1, none⟩) hs3).trans hcx3; have hs4 : wr.heap.size < w4.heap.size := (by have := hb4.size; omega)) | (at_builtin; refine wpList_append_own _ rfl _ _ 37 rfl w.heap.size 43 i0 (.agg #[.int .i64 0, .string ⟨#[]⟩]) 2 24 Tryd.underlying37 hi hz0 hz1 hz2 rfl (by decide) _ _ _ rfl (HR4.out.alloc _) ⟨w4.heap.size, 0, none⟩ 1 1 [.int .i64 2, .string (lg L k).rope] rfl rfl (cell_two_new _ _ _ _) (by simp [Value.oneCell']) (by unfold maxLen; omega) (by omega) (by have := hB4.size; simp; omega) ?_; intro v5 w5 hown5 hgrow5 _))
                      go_roundw
                      case rel => exact ⟨k + 1, by omega, by go_num, (hB4.alloc hB4.size _).grown hgrow5 (by have := hB4.size; simp; omega) (fun j e => ((HR4.out.lt j e)).1), Lib.hid (by rw [H.out, flat_snoc, List.length_append]; exact hown5), Lib.hid (by rw [← HFS.out]; exact (HM4.out.alloc _).kept hgrow5 (fun e => row_ne_map HR4.out HM4.out e.symm))⟩
                      case measure => simp [intOf]; omega
                    · have H : Hid (findTo L today every (k + 1) = findTo L today every k) := Lib.hid (by rw [findTo_succ, HY.out, if_neg t1, if_neg t2, List.append_nil])
                      have g3 := decide_eq_false t1
                      have g4 : (dueI L (lg L k).rope every == today) = false := beq_eq_false_iff_ne.2 t2
                      clear t1 t2
                      go_wp2_with (first | (at_mapUpdate; go_must (refine wpList_mapUpdate_own _ rfl _ _ _ 69 rfl 9 4 keyedS Tryd.underlying69 _ w1.heap.size k D rfl hown (by unfold maxLen; omega) _ _ _ rfl rfl hkey _ [] (plainElem_bool Tryd.underlying4 _) ?_; intro w2 hown2 hgrow2; have hB2 : Below w.heap.size w w2 := (hB.alloc hB.size _).grown hgrow2 (by have := hB.size; simp; omega) (fun j e => by cases e; exact hb1s); have HM2 := Lib.hid (BoolMap.put hown2 h2 H3.out); have HR2 := Lib.hid (HR1.out.kept hgrow2 (.inr HRM.out)); have hcx1 := hgrow2.cell (a := ⟨wr.heap.size, 1, none⟩) (show (wr.alloc (.cells #[.int .i64 (lg L k).day, .string (lg L k).rope, .int .i64 (lg L k).kind, .int .i64 (lg L k).runs] 55)).cell? ⟨wr.heap.size, 1, none⟩ = some (.string (lg L k).rope) by simp [go_sem]) (fun e => absurd (Option.some.inj e) (show wr.heap.size ≠ w1.heap.size by omega)); have hs2 : wr.heap.size < w2.heap.size := by (have := hgrow2.size; simp at this; omega))) | (go_at_call 46; go_must ((with_reducible refine (isRetired_any _ L _ (lg L k).rope _ hlen (HI.out.grow hB2)).mono ?_); rintro e w3 ⟨rfl, hb3⟩; have hB3 := hB2.trans (hb3.mono hB2.size); have HM3 := Lib.hid (HM2.out.below hb3); have HR3 := Lib.hid (ownsRow_below HR2.out hb3); have hcx3 := (hb3.cell (p := ⟨wr.heap.size, 1, none⟩) hs2).trans hcx1; have hs3 : wr.heap.size < w3.heap.size := (by have := hb3.size; omega); rw [HRT.out])) | (go_at_call 47; (with_reducible refine (due_any _ L _ (lg L k).rope every _ hlen (HI.out.grow hB3) HT.out e0 e1 HNF.out).mono ?_); rintro e w4 ⟨rfl, hb4⟩; have hB4 := hB3.trans (hb4.mono hB3.size); have HM4 := Lib.hid (HM3.out.below hb4); have HR4 := Lib.hid (ownsRow_below HR3.out hb4); have hcx4 := (hb4.cell (p := ⟨wr.heap.size, 1, none⟩) hs3).trans hcx3; have hs4 : wr.heap.size < w4.heap.size := (by have := hb4.size; omega)))
                      go_roundw
                      case rel => exact ⟨k + 1, by omega, by go_num, hB4, Lib.hid (by rw [H.out]; exact HR4.out), Lib.hid (by rw [← HFS.out]; exact HM4.out)⟩
                      case measure => simp [intOf]; omega
                · have HRT := Lib.hid hrt; clear hrt
                  have H : Hid (findTo L today every (k + 1) = findTo L today every k) := Lib.hid (by rw [findTo_succ, fnd_no L today every k (by rw [HS.out, HRT.out]; rfl), List.append_nil])
                  go_wp2_with (first | (at_mapUpdate; go_must (refine wpList_mapUpdate_own _ rfl _ _ _ 69 rfl 9 4 keyedS Tryd.underlying69 _ w1.heap.size k D rfl hown (by unfold maxLen; omega) _ _ _ rfl rfl hkey _ [] (plainElem_bool Tryd.underlying4 _) ?_; intro w2 hown2 hgrow2; have hB2 : Below w.heap.size w w2 := (hB.alloc hB.size _).grown hgrow2 (by have := hB.size; simp; omega) (fun j e => by cases e; exact hb1s); have HM2 := Lib.hid (BoolMap.put hown2 h2 H3.out); have HR2 := Lib.hid (HR1.out.kept hgrow2 (.inr HRM.out)); have hcx1 := hgrow2.cell (a := ⟨wr.heap.size, 1, none⟩) (show (wr.alloc (.cells #[.int .i64 (lg L k).day, .string (lg L k).rope, .int .i64 (lg L k).kind, .int .i64 (lg L k).runs] 55)).cell? ⟨wr.heap.size, 1, none⟩ = some (.string (lg L k).rope) by simp [go_sem]) (fun e => absurd (Option.some.inj e) (show wr.heap.size ≠ w1.heap.size by omega)); have hs2 : wr.heap.size < w2.heap.size := by (have := hgrow2.size; simp at this; omega))) | (go_at_call 46; go_must ((with_reducible refine (isRetired_any _ L _ (lg L k).rope _ hlen (HI.out.grow hB2)).mono ?_); rintro e w3 ⟨rfl, hb3⟩; have hB3 := hB2.trans (hb3.mono hB2.size); have HM3 := Lib.hid (HM2.out.below hb3); have HR3 := Lib.hid (ownsRow_below HR2.out hb3); have hcx3 := (hb3.cell (p := ⟨wr.heap.size, 1, none⟩) hs2).trans hcx1; have hs3 : wr.heap.size < w3.heap.size := (by have := hb3.size; omega); rw [HRT.out])))
                  go_roundw
                  case rel => exact ⟨k + 1, by omega, by go_num, hB3, Lib.hid (by rw [H.out]; exact HR3.out), Lib.hid (by rw [← HFS.out]; exact HM3.out)⟩
                  case measure => simp [intOf]; omega
              · rw [hs] at hlook
                have HS := Lib.hid hs; clear hs hM1
                have H : Hid (findTo L today every (k + 1) = findTo L today every k) := Lib.hid (by rw [findTo_succ, fnd_no L today every k (by rw [HS.out]; rfl), List.append_nil])
                have HF : Hid ((fun t => seenTo L t (k + 1)) = fun t => seenTo L t k) := Lib.hid (funext fun t => by
                  simp only [seenTo]
                  by_cases e : t = (lg L k).rope
                  · rw [if_pos e, e, HS.out]
                  · rw [if_neg e])
                go_wp2_with fail
                go_roundw
                case rel => exact ⟨k + 1, by omega, by go_num, hB.alloc hB.size _, Lib.hid (by rw [H.out]; exact HR1.out), Lib.hid (by rw [HF.out]; obtain ⟨D, x1, x2, x3⟩ := HM1.out; exact ⟨D, x1.mono (Nat.le_succ _), x2, x3⟩)⟩
                case measure => simp [intOf]; omega
            · obtain rfl : k = L.length := by omega
              go_wp2
              go_ret2
              rw [HE.out]
              exact ⟨_, rfl, HR.out, hB⟩
end Go.Proofs.YtfojipgbenbigaaDoor
