/-
  THE WALKS of the reference's Check and of slices.Equal at []api.Finding.
-/
import Derived.Test.YtfojipgbenbigaaDoorCheck
namespace Go.Proofs.YtfojipgbenbigaaDoor
open Go.RowKit Go.Shelf

set_option maxRecDepth 100000 in
set_option maxHeartbeats 4000000 in
theorem refcheck_any (a : Option Addr) (L : List LogR) (cap : Nat) (today every : Int) (w : World) (hlen : L.length ≤ 1000) (hI : Logs w.heap.size w a L) (ht : Tame L) (e0 : 1 ≤ every) (e1 : every ≤ 36600) :
    Calls Tryd.prog 20 #[.slice a L.length cap, .int .i64 today, .int .i64 every] w fun e w' => Hid (∃ v, e = .returned v ∧ w'.ownsRow w.heap.size 43 2 v (findTo L today every L.length).length (flat (findTo L today every L.length)) ∧ Below w.heap.size w w') := by
  have HI := Lib.hid hI; clear hI
  have HT := Lib.hid ht; clear ht
  obtain ⟨i0, hi, hz0, hz1, hz2⟩ := info_parts infoF
  go_enter Tryd.func20, Tryd.ntmps20
  go_wp2
  go_loopw [7, 8] (fun v i wr => ∃ k : Nat, k ≤ L.length ∧ i = .int .i64 k ∧ Below w.heap.size w wr ∧ Hid (wr.ownsRow w.heap.size 43 2 v (findTo L today every k).length (flat (findTo L today every k)))) (fun _ i _ => L.length - (intOf i).toNat)
  case atStart => exact ⟨0, Nat.zero_le _, rfl, Below.refl _ _, Lib.hid (World.ownsRow_nil _ _ _ _)⟩
  case round =>
    obtain ⟨k, hk, rfl, hB, HR⟩ := hrel
    by_cases hlt : k < L.length
    · obtain ⟨b, off, rfl, hb, hcx⟩ := HI.out (by omega)
      obtain ⟨_, c1, _, _⟩ := hcx k hlt
      have d1 := (hB.cell (p := ⟨b, off + k * 4 + 1, none⟩) hb).trans c1
      clear c1 hcx
      have hF := findTo_len L today every k
      have hsf := seen_first L k hlt
      have HNF := Lib.hid (first_not L k hlt)
      have HIr := Lib.hid (HI.out.below hB)
      cases hs : seenTo L (lg L k).rope k
      · rw [hs] at hsf
        have HS := Lib.hid hs; clear hs
        cases hrt : retB L (lg L k).rope
        · have HRT := Lib.hid hrt; clear hrt
          have HY := Lib.hid (fnd_yes L today every k HS.out HRT.out)
          by_cases t1 : dueI L (lg L k).rope every < today
          · have H : Hid (findTo L today every (k + 1) = findTo L today every k ++ [(1, (lg L k).rope)]) := Lib.hid (by rw [findTo_succ, HY.out, if_pos t1])
            have g3 := decide_eq_true t1
            have g4 : (dueI L (lg L k).rope every == today) = false := beq_eq_false_iff_ne.2 (by omega)
            clear t1
            go_wp2_with (first | (go_at_call 22; (with_reducible refine (reffirst_any _ L _ (lg L k).rope w.heap.size _ (by omega) HIr.out).mono ?_); rintro e w2 ⟨rfl, rfl⟩) | (go_at_call 23; (with_reducible refine (refret_any _ L _ _ (lg L k).rope w.heap.size _ (Nat.le_refl _) (by omega) HIr.out).mono ?_); rintro e w2 ⟨rfl, rfl⟩; rw [show retTo L (lg L k).rope L.length = _ from HRT.out]) | (go_at_call 24; (with_reducible refine (refdue_any _ L _ (lg L k).rope every w.heap.size _ (by omega) HIr.out HT.out e0 e1 HNF.out).mono ?_); rintro e w2 ⟨rfl, rfl⟩) | (at_builtin; refine wpList_append_own _ rfl _ _ 37 rfl w.heap.size 43 i0 (.agg #[.int .i64 0, .string ⟨#[]⟩]) 2 24 Tryd.underlying37 hi hz0 hz1 hz2 rfl (by decide) _ _ _ rfl (HR.out.alloc _) ⟨wr.heap.size, 0, none⟩ 1 1 [.int .i64 1, .string (lg L k).rope] rfl rfl (cell_two_new _ _ _ _) (by simp [Value.oneCell']) (by unfold maxLen; omega) (by omega) (by have := hB.size; simp; omega) ?_; intro v5 w5 hown5 hgrow5 _))
            go_roundw
            case rel => exact ⟨k + 1, by omega, by go_num, (hB.alloc hB.size _).grown hgrow5 (by have := hB.size; simp; omega) (fun j e => ((HR.out.lt j e)).1), Lib.hid (by rw [H.out, flat_snoc, List.length_append]; exact hown5)⟩
            case measure => simp [intOf]; omega
          · by_cases t2 : dueI L (lg L k).rope every = today
            · have H : Hid (findTo L today every (k + 1) = findTo L today every k ++ [(2, (lg L k).rope)]) := Lib.hid (by rw [findTo_succ, HY.out, if_neg t1, if_pos t2])
              have g3 := decide_eq_false t1
              have g4 : (dueI L (lg L k).rope every == today) = true := beq_iff_eq.2 t2
              clear t1 t2
              go_wp2_with (first | (go_at_call 22; (with_reducible refine (reffirst_any _ L _ (lg L k).rope w.heap.size _ (by omega) HIr.out).mono ?_); rintro e w2 ⟨rfl, rfl⟩) | (go_at_call 23; (with_reducible refine (refret_any _ L _ _ (lg L k).rope w.heap.size _ (Nat.le_refl _) (by omega) HIr.out).mono ?_); rintro e w2 ⟨rfl, rfl⟩; rw [show retTo L (lg L k).rope L.length = _ from HRT.out]) | (go_at_call 24; (with_reducible refine (refdue_any _ L _ (lg L k).rope every w.heap.size _ (by omega) HIr.out HT.out e0 e1 HNF.out).mono ?_); rintro e w2 ⟨rfl, rfl⟩) | (at_builtin; refine wpList_append_own _ rfl _ _ 37 rfl w.heap.size 43 i0 (.agg #[.int .i64 0, .string ⟨#[]⟩]) 2 24 Tryd.underlying37 hi hz0 hz1 hz2 rfl (by decide) _ _ _ rfl (HR.out.alloc _) ⟨wr.heap.size, 0, none⟩ 1 1 [.int .i64 2, .string (lg L k).rope] rfl rfl (cell_two_new _ _ _ _) (by simp [Value.oneCell']) (by unfold maxLen; omega) (by omega) (by have := hB.size; simp; omega) ?_; intro v5 w5 hown5 hgrow5 _))
              go_roundw
              case rel => exact ⟨k + 1, by omega, by go_num, (hB.alloc hB.size _).grown hgrow5 (by have := hB.size; simp; omega) (fun j e => ((HR.out.lt j e)).1), Lib.hid (by rw [H.out, flat_snoc, List.length_append]; exact hown5)⟩
              case measure => simp [intOf]; omega
            · have H : Hid (findTo L today every (k + 1) = findTo L today every k) := Lib.hid (by rw [findTo_succ, HY.out, if_neg t1, if_neg t2, List.append_nil])
              have g3 := decide_eq_false t1
              have g4 : (dueI L (lg L k).rope every == today) = false := beq_eq_false_iff_ne.2 t2
              clear t1 t2
              go_wp2_with (first | (go_at_call 22; (with_reducible refine (reffirst_any _ L _ (lg L k).rope w.heap.size _ (by omega) HIr.out).mono ?_); rintro e w2 ⟨rfl, rfl⟩) | (go_at_call 23; (with_reducible refine (refret_any _ L _ _ (lg L k).rope w.heap.size _ (Nat.le_refl _) (by omega) HIr.out).mono ?_); rintro e w2 ⟨rfl, rfl⟩; rw [show retTo L (lg L k).rope L.length = _ from HRT.out]) | (go_at_call 24; (with_reducible refine (refdue_any _ L _ (lg L k).rope every w.heap.size _ (by omega) HIr.out HT.out e0 e1 HNF.out).mono ?_); rintro e w2 ⟨rfl, rfl⟩))
              go_roundw
              case rel => exact ⟨k + 1, by omega, by go_num, hB, Lib.hid (by rw [H.out]; exact HR.out)⟩
              case measure => simp [intOf]; omega
        · have HRT := Lib.hid hrt; clear hrt
          have H : Hid (findTo L today every (k + 1) = findTo L today every k) := Lib.hid (by rw [findTo_succ, fnd_no L today every k (by rw [HS.out, HRT.out]; rfl), List.append_nil])
          go_wp2_with (first | (go_at_call 22; (with_reducible refine (reffirst_any _ L _ (lg L k).rope w.heap.size _ (by omega) HIr.out).mono ?_); rintro e w2 ⟨rfl, rfl⟩) | (go_at_call 23; (with_reducible refine (refret_any _ L _ _ (lg L k).rope w.heap.size _ (Nat.le_refl _) (by omega) HIr.out).mono ?_); rintro e w2 ⟨rfl, rfl⟩; rw [show retTo L (lg L k).rope L.length = _ from HRT.out]))
          go_roundw
          case rel => exact ⟨k + 1, by omega, by go_num, hB, Lib.hid (by rw [H.out]; exact HR.out)⟩
          case measure => simp [intOf]; omega
      · rw [hs] at hsf
        have HS := Lib.hid hs; clear hs
        have H : Hid (findTo L today every (k + 1) = findTo L today every k) := Lib.hid (by rw [findTo_succ, fnd_no L today every k (by rw [HS.out]; rfl), List.append_nil])
        go_wp2_with (first | (go_at_call 22; (with_reducible refine (reffirst_any _ L _ (lg L k).rope w.heap.size _ (by omega) HIr.out).mono ?_); rintro e w2 ⟨rfl, rfl⟩))
        go_roundw
        case rel => exact ⟨k + 1, by omega, by go_num, hB, Lib.hid (by rw [H.out]; exact HR.out)⟩
        case measure => simp [intOf]; omega
    · obtain rfl : k = L.length := by omega
      go_wp2
      go_ret
      exact Lib.hid ⟨_, rfl, HR.out, hB⟩

/-- The elements of a slice of findings. -/
def fg (F : List (Int × ByteArray)) (i : Nat) : Int × ByteArray := (F[i]?).getD (0, ⟨#[]⟩)
def Finds (n₀ : Nat) (w : World) (a : Option Addr) (F : List (Int × ByteArray)) : Prop :=
  0 < F.length → ∃ b off, a = some ⟨b, off, none⟩ ∧ b < n₀ ∧ ∀ i, i < F.length → w.cell? ⟨b, off + i * 2, none⟩ = some (.int .i64 (fg F i).1) ∧ w.cell? ⟨b, off + i * 2 + 1, none⟩ = some (.string (fg F i).2)
theorem Finds.below {n₀ : Nat} {w w' : World} {a : Option Addr} {F : List (Int × ByteArray)} (h : Finds n₀ w a F) (hb : Below n₀ w w') : Finds n₀ w' a F := fun hl => by
  obtain ⟨b, off, rfl, hlt, hc⟩ := h hl
  exact ⟨b, off, rfl, hlt, fun i hi => ⟨(hb.cell (p := ⟨b, _, none⟩) hlt).trans (hc i hi).1, (hb.cell (p := ⟨b, _, none⟩) hlt).trans (hc i hi).2⟩⟩
theorem Finds.mono {n₀ n₁ : Nat} {w : World} {a : Option Addr} {F : List (Int × ByteArray)} (h : Finds n₀ w a F) (hn : n₀ ≤ n₁) : Finds n₁ w a F := fun hl => by
  obtain ⟨b, off, rfl, hlt, hc⟩ := h hl
  exact ⟨b, off, rfl, by omega, hc⟩
theorem Finds.grow {w w' : World} {a : Option Addr} {F : List (Int × ByteArray)} (h : Finds w.heap.size w a F) (hb : Below w.heap.size w w') : Finds w'.heap.size w' a F := (h.below hb).mono hb.size
theorem flat_at (F : List (Int × ByteArray)) (i : Nat) (hi : i < F.length) : (flat F)[i * 2]? = some (.int .i64 (fg F i).1) ∧ (flat F)[i * 2 + 1]? = some (.string (fg F i).2) := by
  induction F generalizing i with
  | nil => simp at hi
  | cons x r ih =>
    match i with
    | 0 => exact ⟨rfl, rfl⟩
    | i + 1 =>
      have := ih i (by simpa using hi)
      have e : flat (x :: r) = .int .i64 x.1 :: .string x.2 :: flat r := rfl
      rw [e, show (i + 1) * 2 = i * 2 + 1 + 1 by omega]
      simpa [fg] using this
/-- A row of the call's own reads so. -/
theorem finds_of_row {w : World} {base : Nat} {v : Value} {F : List (Int × ByteArray)} (h : w.ownsRow base 43 2 v F.length (flat F)) : ∃ a cap, v = .slice a F.length cap ∧ Finds w.heap.size w a F := by
  rcases h.2 with ⟨rfl, h0⟩ | ⟨g, cap, cur, rfl, hb, hg, _⟩
  · exact ⟨none, 0, by rw [h0], fun hl => by omega⟩
  · refine ⟨_, cap, rfl, fun _ => ⟨g, 0, rfl, (Array.getElem?_eq_some_iff.1 hg).1, fun i hi => ?_⟩⟩
    obtain ⟨f1, f2⟩ := flat_at F i hi
    have c1 := h.cellAt (i * 2) (by omega)
    have c2 := h.cellAt (i * 2 + 1) (by omega)
    rw [f1] at c1
    rw [f2] at c2
    rw [Nat.zero_add]
    exact ⟨c1, c2⟩

theorem fg_eq (F : List (Int × ByteArray)) (i : Nat) (h : i < F.length) : fg F i = F[i] := by unfold fg; rw [List.getElem?_eq_getElem h]; rfl
theorem fg_ext (F1 F2 : List (Int × ByteArray)) (hl : F1.length = F2.length) (h : ∀ j, j < F1.length → fg F1 j = fg F2 j) : F1 = F2 := by
  refine List.ext_getElem hl fun i h1 h2 => ?_
  have := h i h1
  rwa [fg_eq F1 i h1, fg_eq F2 i h2] at this

set_option maxHeartbeats 4000000 in
theorem equal_any (a1 a2 : Option Addr) (F1 F2 : List (Int × ByteArray)) (cap1 cap2 : Nat) (w : World) (hl : F1.length ≤ 1100) (h1 : Finds w.heap.size w a1 F1) (h2 : Finds w.heap.size w a2 F2) (hl2 : F2.length ≤ 1100) :
    Calls Tryd.prog 19 #[.slice a1 F1.length cap1, .slice a2 F2.length cap2] w fun e w' => e = .returned (.bool (decide (F1 = F2))) ∧ Below w.heap.size w w' := by
  have H1 := Lib.hid h1
  have H2 := Lib.hid h2
  clear h1 h2
  by_cases hle : F1.length = F2.length
  · have hn : ((F1.length : Int) != (F2.length : Int)) = false := by rw [bne_eq_false_iff_eq]; omega
    have HL := Lib.hid hle; clear hle
    go_enter Tryd.func19, Tryd.ntmps19
    go_wp2
    go_loopw [13] (fun i wr => ∃ k : Nat, k ≤ F1.length ∧ i = .int .i64 k ∧ Below w.heap.size w wr ∧ Hid (∀ j, j < k → fg F1 j = fg F2 j)) (fun i _ => F1.length - (intOf i).toNat)
    case atStart => exact ⟨0, Nat.zero_le _, rfl, Below.refl _ _, Lib.hid (fun _ h => absurd h (Nat.not_lt_zero _))⟩
    case round =>
      obtain ⟨k, hk, rfl, hB, HA⟩ := hrel
      by_cases hlt : k < F1.length
      · have hlt2 : k < F2.length := by have := HL.out; omega
        obtain ⟨b, off, rfl, hb, hcx⟩ := H1.out (by omega)
        obtain ⟨b', off', rfl, hb', hcx'⟩ := H2.out (by omega)
        obtain ⟨c0, c1⟩ := hcx k hlt
        obtain ⟨c0', c1'⟩ := hcx' k hlt2
        have d0 := (hB.cell (p := ⟨b, off + k * 2, none⟩) hb).trans c0
        have d1 := (hB.cell (p := ⟨b, off + k * 2 + 1, none⟩) hb).trans c1
        have d0' := (hB.cell (p := ⟨b', off' + k * 2, none⟩) hb').trans c0'
        have d1' := (hB.cell (p := ⟨b', off' + k * 2 + 1, none⟩) hb').trans c1'
        clear c0 c1 c0' c1' hcx hcx'
        by_cases q1 : (fg F1 k).1 = (fg F2 k).1
        · have g1 : ((fg F1 k).1 == (fg F2 k).1) = true := beq_iff_eq.2 q1
          have hs := str_eq (fg F1 k).2 (fg F2 k).2
          by_cases q2 : (fg F1 k).2 = (fg F2 k).2
          · have HB : Hid (∀ j, j < k + 1 → fg F1 j = fg F2 j) := Lib.hid fun j hj => by
              rcases Nat.lt_or_ge j k with l | l
              · exact HA.out j l
              · obtain rfl : j = k := by omega
                exact Prod.ext q1 q2
            rw [decide_eq_true q2] at hs
            clear q1 q2
            go_wp2_with fail
            go_quiet (fail)
            go_wp2
            go_roundw
            case rel => exact ⟨k + 1, by omega, by go_num, below_drewN hB _, HB⟩
            case measure => simp [intOf]; omega
          · rw [decide_eq_false q2] at hs
            have H : Hid (decide (F1 = F2) = false) := Lib.hid (decide_eq_false (fun e => q2 (by rw [e])))
            clear q1 q2
            go_wp2_with fail
            go_quiet (fail)
            go_wp2
            go_ret
            exact ⟨congrArg (fun b => Ending.returned (.bool b)) H.out.symm, below_drewN hB _⟩
        · have g1 : ((fg F1 k).1 == (fg F2 k).1) = false := beq_eq_false_iff_ne.2 q1
          have H : Hid (decide (F1 = F2) = false) := Lib.hid (decide_eq_false (fun e => q1 (by rw [e])))
          clear q1
          go_wp2_with fail
          go_quiet (fail)
          go_wp2
          go_ret
          exact ⟨congrArg (fun b => Ending.returned (.bool b)) H.out.symm, below_drewN hB _⟩
      · obtain rfl : k = F1.length := by omega
        have H : Hid (decide (F1 = F2) = true) := Lib.hid (decide_eq_true (fg_ext F1 F2 HL.out HA.out))
        go_wp2
        go_ret
        exact ⟨congrArg (fun b => Ending.returned (.bool b)) H.out.symm, hB⟩
  · have hn : ((F1.length : Int) != (F2.length : Int)) = true := bne_iff_ne.2 (by omega)
    have H : Hid (decide (F1 = F2) = false) := Lib.hid (decide_eq_false (fun e => hle (by rw [e])))
    clear hle
    go_enter Tryd.func19, Tryd.ntmps19
    go_wp2
    go_ret
    exact ⟨congrArg (fun b => Ending.returned (.bool b)) H.out.symm, Below.refl _ _⟩
end Go.Proofs.YtfojipgbenbigaaDoor
