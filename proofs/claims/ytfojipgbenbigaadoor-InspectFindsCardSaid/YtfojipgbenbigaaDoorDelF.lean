/-
  THE WALKS of slices.DeleteFunc at []api.Log and []api.Finding, on a row of the call's own: what p says yes to is left out.
-/
import Derived.Test.YtfojipgbenbigaaDoorFindF
import Derived.Test.YtfojipgbenbigaaDoorRow
import Derived.Test.YtfojipgbenbigaaDoorLawM
namespace Go.Proofs.YtfojipgbenbigaaDoor
open Go.RowKit Go.Shelf

theorem log_firstcases (L : List LogR) (p : LogR → Bool) : (firstP L p = -1 ∧ ∀ j, j < L.length → p (lg L j) = false) ∨ ∃ k : Nat, k < L.length ∧ firstP L p = k ∧ p (lg L k) = true ∧ ∀ j, j < k → p (lg L j) = false := by
  have main : ∀ n, n ≤ L.length → (∀ j, j < n → p (lg L j) = false) ∨ ∃ k, k < n ∧ p (lg L k) = true ∧ ∀ j, j < k → p (lg L j) = false := by
    intro n
    induction n with
    | zero => exact fun _ => .inl fun j hj => absurd hj (Nat.not_lt_zero _)
    | succ n ih =>
      intro hn
      rcases ih (by omega) with h | ⟨k, hk, h1, h2⟩
      · cases e : p (lg L n)
        · refine .inl fun j hj => ?_
          rcases Nat.lt_or_ge j n with l | l
          · exact h j l
          · obtain rfl : j = n := by omega
            exact e
        · exact .inr ⟨n, by omega, e, h⟩
      · exact .inr ⟨k, by omega, h1, h2⟩
  rcases main L.length (Nat.le_refl _) with h | ⟨k, hk, h1, h2⟩
  · exact .inl ⟨firstP_miss L p h, h⟩
  · exact .inr ⟨k, hk, firstP_hit L p k hk h1 h2, h1, h2⟩
theorem fin_firstcases (L : List (Int × ByteArray)) (p : Int × ByteArray → Bool) : (firstF L p L.length = -1 ∧ ∀ j, j < L.length → p (fg L j) = false) ∨ ∃ k : Nat, k < L.length ∧ firstF L p L.length = k ∧ p (fg L k) = true ∧ ∀ j, j < k → p (fg L j) = false := by
  have main : ∀ n, n ≤ L.length → (∀ j, j < n → p (fg L j) = false) ∨ ∃ k, k < n ∧ p (fg L k) = true ∧ ∀ j, j < k → p (fg L j) = false := by
    intro n
    induction n with
    | zero => exact fun _ => .inl fun j hj => absurd hj (Nat.not_lt_zero _)
    | succ n ih =>
      intro hn
      rcases ih (by omega) with h | ⟨k, hk, h1, h2⟩
      · cases e : p (fg L n)
        · refine .inl fun j hj => ?_
          rcases Nat.lt_or_ge j n with l | l
          · exact h j l
          · obtain rfl : j = n := by omega
            exact e
        · exact .inr ⟨n, by omega, e, h⟩
      · exact .inr ⟨k, by omega, h1, h2⟩
  rcases main L.length (Nat.le_refl _) with h | ⟨k, hk, h1, h2⟩
  · exact .inl ⟨firstF_miss L p _ h, h⟩
  · exact .inr ⟨k, hk, firstF_hit L p _ k hk h1 h2, h1, h2⟩
theorem finds_of_row2 {w : World} {base : Nat} {v : Value} {F : List (Int × ByteArray)} (h : w.ownsRow base 43 2 v F.length (flat F)) : ∃ a cap, v = .slice a F.length cap ∧ F.length ≤ cap ∧ cap ≤ maxLen ∧ Finds w.heap.size w a F := by
  have h' := h
  rcases h.2 with ⟨rfl, h0⟩ | ⟨g, cap, cur, rfl, hb, hg, h1, h2, _⟩
  · exact ⟨none, 0, by rw [h0], by omega, by unfold maxLen; omega, fun hl => by omega⟩
  · obtain ⟨a, cap', e, hF⟩ := finds_of_row h'
    simp only [Value.slice.injEq, true_and] at e
    obtain ⟨rfl, rfl⟩ := e
    exact ⟨_, _, rfl, h1, h2, hF⟩

theorem log_set (M : List (LogR)) (i : Nat) (x : LogR) (hi : i < M.length) : ((((lflat M).set (i * 4) (.int .i64 x.day)).set (i * 4 + 1) (.string x.rope)).set (i * 4 + 2) (.int .i64 x.kind)).set (i * 4 + 3) (.int .i64 x.runs) = lflat (M.set i x) := by
  induction M generalizing i with
  | nil => simp at hi
  | cons y r ih =>
    have e : lflat (y :: r) = .int .i64 y.day :: .string y.rope :: .int .i64 y.kind :: .int .i64 y.runs :: lflat r := rfl
    match i with
    | 0 => rw [e]; rfl
    | i + 1 =>
      have := ih i (by simpa using hi)
      have e2 : lflat ((y :: r).set (i + 1) x) = .int .i64 y.day :: .string y.rope :: .int .i64 y.kind :: .int .i64 y.runs :: lflat (r.set i x) := rfl
      rw [e, e2, ← this, show (i + 1) * 4 = i * 4 + 1 + 1 + 1 + 1 by omega]
      rfl
theorem log_take (M : List (LogR)) (i : Nat) : (lflat M).take (i * 4) = lflat (M.take i) := by
  induction M generalizing i with
  | nil => simp [lflat]
  | cons y r ih =>
    have e : lflat (y :: r) = .int .i64 y.day :: .string y.rope :: .int .i64 y.kind :: .int .i64 y.runs :: lflat r := rfl
    match i with
    | 0 => simp [lflat]
    | i + 1 =>
      have e2 : lflat ((y :: r).take (i + 1)) = .int .i64 y.day :: .string y.rope :: .int .i64 y.kind :: .int .i64 y.runs :: lflat (r.take i) := rfl
      rw [e, e2, ← ih i, show (i + 1) * 4 = i * 4 + 1 + 1 + 1 + 1 by omega]
      rfl
theorem log_asks_mono {g : Nat} {cb : Array Value} {n₀ n₁ : Nat} {w : World} {p : LogR → Bool} (h : Asks g cb n₀ w p) (hn : n₀ ≤ n₁) : Asks g cb n₁ w p := fun W r hb => h W r (hb.mono hn)
theorem log_zero (w : World) : (zeroValue 55).run Tryd.prog w = .ok (.agg #[.int .i64 0, .string ⟨#[]⟩, .int .i64 0, .int .i64 0]) w := by kernel_rfl
set_option maxRecDepth 100000 in
set_option maxHeartbeats 4000000 in
theorem log_deleteFunc (v : Value) (L : List (LogR)) (n₀ g : Nat) (cb : Array Value) (p : LogR → Bool) (w : World) (eg : ∀ args w, (callFunc g args).run Tryd.prog w = .ok (.enter g args) w)
    (hlen : L.length ≤ 1100) (hn₀ : n₀ ≤ w.heap.size) (hown : w.ownsRow n₀ 55 4 v L.length (lflat L)) (hp : Asks g cb n₀ w p) :
    Calls Tryd.prog 34 #[v, .func (.func g) #[] cb] w fun e w' => Hid (∃ v', e = .returned v' ∧ w'.ownsRow n₀ 55 4 v' (L.filter fun x => !p x).length (lflat (L.filter fun x => !p x)) ∧ Below n₀ w w') := by
  obtain ⟨a, cap, rfl, hcap, hcm, hI⟩ := logs_of_row hown
  have HN : Hid (∀ (L : List (LogR)) (j : Nat) (y : LogR), L[j]? = some y → lg L j = y) := Lib.hid fun L j y h => by unfold lg; rw [h]; rfl
  have HC := Lib.hid (indexFunc_any a L cap _ _ _ _ w eg hlen (Nat.le_refl _) hI (log_asks_mono hp hn₀))
  have hcm' : cap ≤ 9223372036854775807 := by unfold maxLen at hcm; exact hcm
  rcases log_firstcases L p with ⟨h1, h2⟩ | ⟨k, hk, h1, h2, h3⟩
  · have HF := Lib.hid (filter_all L p fun j y h => by rw [← HN.out _ _ _ h]; exact h2 j (List.getElem?_eq_some_iff.1 h).1)
    rw [h1] at HC
    have HO := Lib.hid hown
    clear hI hp eg hown h1 h2
    go_enter Tryd.func34, Tryd.ntmps34
    go_wp2_with (go_at_call 53; (with_reducible refine HC.out.mono ?_); rintro e w1 ⟨rfl, hb1⟩)
    go_ret
    refine Lib.hid ⟨_, rfl, ?_, hb1.mono hn₀⟩
    rw [HF.out]
    exact ownsRow_below HO.out hb1
  · have HP0 : Hid (Part L L p k (k + 1)) := Lib.hid (Part.start L p k (lg L k) (by unfold lg; rw [List.getElem?_eq_getElem hk]; rfl) h2 fun j y hj h => by rw [← HN.out _ _ _ h]; exact h3 j hj)
    rw [h1] at HC
    rcases hown.2 with ⟨_, h0⟩ | ⟨g0, cap', cur, hv, hg0, hgb, _, _, _, _⟩
    · omega
    simp only [Value.slice.injEq, true_and] at hv
    obtain ⟨rfl, rfl⟩ := hv
    have hgw : g0 < w.heap.size := (Array.getElem?_eq_some_iff.1 hgb).1
    have HO := Lib.hid hown
    have HP := Lib.hid hp
    have ge0 : ((k : Int) == -1) = false := beq_eq_false_iff_ne.2 (by omega)
    clear hI hp hown h1 h2 h3 hgb
    go_enter Tryd.func34, Tryd.ntmps34
    go_wp2_with (go_at_call 53; (with_reducible refine HC.out.mono ?_); rintro e w1 ⟨rfl, hb1⟩)
    go_loopw [5, 6] (fun vi vj wr => ∃ i j : Nat, ∃ M : List (LogR), vi = .int .i64 i ∧ vj = .int .i64 j ∧ i < j ∧ j ≤ L.length ∧ Hid (Part L M p i j) ∧ Hid (wr.ownsRow n₀ 55 4 (.slice (some ⟨g0, 0, none⟩) L.length cap) L.length (lflat M)) ∧ Below n₀ w wr) (fun _ j _ => L.length - (intOf j).toNat)
    case atStart => exact ⟨k, k + 1, L, rfl, by go_num, by omega, by omega, HP0, Lib.hid (ownsRow_below HO.out hb1), hb1.mono hn₀⟩
    case round =>
      obtain ⟨i, j, M, rfl, rfl, hij, hj, HPT, HR, hB⟩ := hrel
      by_cases hlt : j < L.length
      · obtain ⟨x, hx⟩ : ∃ x, L[j]? = some x := ⟨_, List.getElem?_eq_getElem hlt⟩
        have hM := HPT.out.at_j x hx
        have hml := HPT.out.len
        obtain ⟨f0, f1, f2, f3⟩ := lflat_at M j (by omega)
        rw [HN.out _ _ _ hM] at f0 f1 f2 f3
        have d0 : wr.cell? ⟨g0, j * 4, none⟩ = some (.int .i64 x.day) := by rw [HR.out.cellAt (j * 4) (by omega)]; exact f0
        have d1 : wr.cell? ⟨g0, j * 4 + 1, none⟩ = some (.string x.rope) := by rw [HR.out.cellAt (j * 4 + 1) (by omega)]; exact f1
        have d2 : wr.cell? ⟨g0, j * 4 + 2, none⟩ = some (.int .i64 x.kind) := by rw [HR.out.cellAt (j * 4 + 2) (by omega)]; exact f2
        have d3 : wr.cell? ⟨g0, j * 4 + 3, none⟩ = some (.int .i64 x.runs) := by rw [HR.out.cellAt (j * 4 + 3) (by omega)]; exact f3
        have hgr : g0 < wr.heap.size := (HR.out.lt g0 rfl).2
        have hBa : Below n₀ w (wr.alloc (.cells #[.int .i64 x.day, .string x.rope, .int .i64 x.kind, .int .i64 x.runs] 55)) := hB.alloc (Nat.le_trans hn₀ hB.size) _
        have HCL := Lib.hid (show Calls Tryd.prog g (#[.agg #[.int .i64 x.day, .string x.rope, .int .i64 x.kind, .int .i64 x.runs]] ++ cb) (wr.alloc (.cells #[.int .i64 x.day, .string x.rope, .int .i64 x.kind, .int .i64 x.runs] 55)) _ from HP.out _ x hBa)
        cases hp : p x
        · rw [hp] at HCL
          have HK := Lib.hid (HPT.out.keep x hx hp)
          have HML := Lib.hid hml
          have hBa' := Lib.hid hBa
          clear hx hM hml hp hBa f0 f1 f2 f3
          go_wp2_with ((with_reducible refine HCL.out.mono ?_); rintro e w2 ⟨rfl, hb2⟩; have hz2 : wr.heap.size < w2.heap.size := (by have := hb2.size; simp at this; omega); have hr2 := Lib.hid (ownsRow_below (HR.out.alloc _) hb2); have q0 : w2.cell? ⟨wr.heap.size, 0, none⟩ = some (.int .i64 x.day) := ((hb2.cell (p := ⟨wr.heap.size, 0, none⟩) (by simp)).trans (by simp)); have z0 : w2.frozen? ⟨g0, i * 4, none⟩ = false := (hr2.out.frozenAt _); obtain ⟨u0, y0⟩ : ∃ u, w2.cell? ⟨g0, i * 4, none⟩ = some u := ⟨_, (hr2.out.cellAt _ (by omega)).trans (List.getElem?_eq_getElem (by rw [hr2.out.1]; omega))⟩; have q1 : w2.cell? ⟨wr.heap.size, 1, none⟩ = some (.string x.rope) := ((hb2.cell (p := ⟨wr.heap.size, 1, none⟩) (by simp)).trans (by simp)); have z1 : w2.frozen? ⟨g0, i * 4 + 1, none⟩ = false := (hr2.out.frozenAt _); obtain ⟨u1, y1⟩ : ∃ u, w2.cell? ⟨g0, i * 4 + 1, none⟩ = some u := ⟨_, (hr2.out.cellAt _ (by omega)).trans (List.getElem?_eq_getElem (by rw [hr2.out.1]; omega))⟩; have q2 : w2.cell? ⟨wr.heap.size, 2, none⟩ = some (.int .i64 x.kind) := ((hb2.cell (p := ⟨wr.heap.size, 2, none⟩) (by simp)).trans (by simp)); have z2 : w2.frozen? ⟨g0, i * 4 + 2, none⟩ = false := (hr2.out.frozenAt _); obtain ⟨u2, y2⟩ : ∃ u, w2.cell? ⟨g0, i * 4 + 2, none⟩ = some u := ⟨_, (hr2.out.cellAt _ (by omega)).trans (List.getElem?_eq_getElem (by rw [hr2.out.1]; omega))⟩; have q3 : w2.cell? ⟨wr.heap.size, 3, none⟩ = some (.int .i64 x.runs) := ((hb2.cell (p := ⟨wr.heap.size, 3, none⟩) (by simp)).trans (by simp)); have z3 : w2.frozen? ⟨g0, i * 4 + 3, none⟩ = false := (hr2.out.frozenAt _); obtain ⟨u3, y3⟩ : ∃ u, w2.cell? ⟨g0, i * 4 + 3, none⟩ = some u := ⟨_, (hr2.out.cellAt _ (by omega)).trans (List.getElem?_eq_getElem (by rw [hr2.out.1]; omega))⟩; skip)
          have hn2 : n₀ ≤ w2.heap.size := by have := hb2.size; simp at this; omega
          have hB2 : Below n₀ w w2 := hBa'.out.trans (hb2.mono (by simp; omega))
          go_roundw
          case rel =>
            have s0 := hr2.out
            have s1 := (s0.stored (i * 4) (.int .i64 x.day)).1
            have s2 := (s1.stored (i * 4 + 1) (.string x.rope)).1
            have s3 := (s2.stored (i * 4 + 2) (.int .i64 x.kind)).1
            have s4 := (s3.stored (i * 4 + 3) (.int .i64 x.runs)).1
            rw [log_set M i x (by rw [HML.out]; omega)] at s4
            exact ⟨i + 1, j + 1, _, by go_num, by go_num, by omega, by omega, HK, Lib.hid s4, by repeat (first | exact hB2 | refine Below.setCell ?_ (by omega) _)⟩
          case measure => simp [intOf]; omega
        · rw [hp] at HCL
          have HK := Lib.hid (HPT.out.skip x hx hp)
          have hBa' := Lib.hid hBa
          clear hx hM hml hp hBa f0 f1 f2 f3
          go_wp2_with ((with_reducible refine HCL.out.mono ?_); rintro e w2 ⟨rfl, hb2⟩)
          go_roundw
          case rel => exact ⟨i, j + 1, M, rfl, by go_num, by omega, by omega, HK, Lib.hid (ownsRow_below (HR.out.alloc _) hb2), hBa'.out.trans (hb2.mono (by have := hB.size; simp; omega))⟩
          case measure => simp [intOf]; omega
      · obtain rfl : j = L.length := by omega
        obtain ⟨t1, t2⟩ := HPT.out.done
        have hcl : ∀ ty, (Builtin.clear_ #[35] ty #[.slice (some ⟨g0, i * 4, none⟩) (L.length - i) (cap - i)]).run Tryd.prog wr = .ok (.tuple #[]) (wr.setCells g0 (i * 4) (Builtin.zeroCells #[.int .i64 0, .string ⟨#[]⟩, .int .i64 0, .int .i64 0] (L.length - i)).toList) := fun ty =>
          run_clear_rows wr _ _ ty (.agg #[.int .i64 0, .string ⟨#[]⟩, .int .i64 0, .int .i64 0]) 4 Tryd.underlying35 log_zero rfl (by simp [Value.cells, Value.oneCell']) g0 (i * 4) (L.length - i) (cap - i) (by omega)
            (fun t ht => by rw [HR.out.cellAt (i * 4 + t) (by omega), List.getElem?_eq_getElem (by rw [HR.out.1]; omega)]; rfl) (fun t ht => HR.out.frozenAt _)
        obtain ⟨⟨ys, hy, hr2⟩, hg2⟩ := row_cells HR.out (Builtin.zeroCells #[.int .i64 0, .string ⟨#[]⟩, .int .i64 0, .int .i64 0] (L.length - i)).toList (i * 4)
        have HEND : Hid (∃ v', Ending.returned (.slice (some ⟨g0, 0, none⟩) i cap) = .returned v' ∧ (wr.setCells g0 (i * 4) (Builtin.zeroCells #[.int .i64 0, .string ⟨#[]⟩, .int .i64 0, .int .i64 0] (L.length - i)).toList).ownsRow n₀ 55 4 v' (L.filter fun x => !p x).length (lflat (L.filter fun x => !p x)) ∧ Below n₀ w (wr.setCells g0 (i * 4) (Builtin.zeroCells #[.int .i64 0, .string ⟨#[]⟩, .int .i64 0, .int .i64 0] (L.length - i)).toList)) := by
          have h := row_cut hr2 i (by omega)
          rw [hy, log_take, t1] at h
          refine Lib.hid ⟨_, rfl, by rw [t2]; exact h, hB.grown hg2 (Nat.le_trans hn₀ hB.size) fun k hk => by cases hk; exact hg0⟩
        clear t1 t2 hy hr2 hg2
        go_wp2
        go_ret
        exact HEND.out

theorem fin_set (M : List (Int × ByteArray)) (i : Nat) (x : Int × ByteArray) (hi : i < M.length) : ((flat M).set (i * 2) (.int .i64 x.1)).set (i * 2 + 1) (.string x.2) = flat (M.set i x) := by
  induction M generalizing i with
  | nil => simp at hi
  | cons y r ih =>
    have e : flat (y :: r) = .int .i64 y.1 :: .string y.2 :: flat r := rfl
    match i with
    | 0 => rw [e]; rfl
    | i + 1 =>
      have := ih i (by simpa using hi)
      have e2 : flat ((y :: r).set (i + 1) x) = .int .i64 y.1 :: .string y.2 :: flat (r.set i x) := rfl
      rw [e, e2, ← this, show (i + 1) * 2 = i * 2 + 1 + 1 by omega]
      rfl
theorem fin_take (M : List (Int × ByteArray)) (i : Nat) : (flat M).take (i * 2) = flat (M.take i) := by
  induction M generalizing i with
  | nil => simp [flat]
  | cons y r ih =>
    have e : flat (y :: r) = .int .i64 y.1 :: .string y.2 :: flat r := rfl
    match i with
    | 0 => simp [flat]
    | i + 1 =>
      have e2 : flat ((y :: r).take (i + 1)) = .int .i64 y.1 :: .string y.2 :: flat (r.take i) := rfl
      rw [e, e2, ← ih i, show (i + 1) * 2 = i * 2 + 1 + 1 by omega]
      rfl
theorem fin_asks_mono {g : Nat} {cb : Array Value} {n₀ n₁ : Nat} {w : World} {p : Int × ByteArray → Bool} (h : AsksF g cb n₀ w p) (hn : n₀ ≤ n₁) : AsksF g cb n₁ w p := fun W r hb => h W r (hb.mono hn)
theorem fin_zero (w : World) : (zeroValue 43).run Tryd.prog w = .ok (.agg #[.int .i64 0, .string ⟨#[]⟩]) w := by kernel_rfl
set_option maxRecDepth 100000 in
set_option maxHeartbeats 4000000 in
theorem fin_deleteFunc (v : Value) (L : List (Int × ByteArray)) (n₀ g : Nat) (cb : Array Value) (p : Int × ByteArray → Bool) (w : World) (eg : ∀ args w, (callFunc g args).run Tryd.prog w = .ok (.enter g args) w)
    (hlen : L.length ≤ 1100) (hn₀ : n₀ ≤ w.heap.size) (hown : w.ownsRow n₀ 43 2 v L.length (flat L)) (hp : AsksF g cb n₀ w p) :
    Calls Tryd.prog 36 #[v, .func (.func g) #[] cb] w fun e w' => Hid (∃ v', e = .returned v' ∧ w'.ownsRow n₀ 43 2 v' (L.filter fun x => !p x).length (flat (L.filter fun x => !p x)) ∧ Below n₀ w w') := by
  obtain ⟨a, cap, rfl, hcap, hcm, hI⟩ := finds_of_row2 hown
  have HN : Hid (∀ (L : List (Int × ByteArray)) (j : Nat) (y : Int × ByteArray), L[j]? = some y → fg L j = y) := Lib.hid fun L j y h => by unfold fg; rw [h]; rfl
  have HC := Lib.hid (indexFuncF_any a L L.length cap _ _ _ _ w eg (Nat.le_refl _) hlen (Nat.le_refl _) hI (fin_asks_mono hp hn₀))
  have hcm' : cap ≤ 9223372036854775807 := by unfold maxLen at hcm; exact hcm
  rcases fin_firstcases L p with ⟨h1, h2⟩ | ⟨k, hk, h1, h2, h3⟩
  · have HF := Lib.hid (filter_all L p fun j y h => by rw [← HN.out _ _ _ h]; exact h2 j (List.getElem?_eq_some_iff.1 h).1)
    rw [h1] at HC
    have HO := Lib.hid hown
    clear hI hp eg hown h1 h2
    go_enter Tryd.func36, Tryd.ntmps36
    go_wp2_with (go_at_call 32; (with_reducible refine HC.out.mono ?_); rintro e w1 ⟨rfl, hb1⟩)
    go_ret
    refine Lib.hid ⟨_, rfl, ?_, hb1.mono hn₀⟩
    rw [HF.out]
    exact ownsRow_below HO.out hb1
  · have HP0 : Hid (Part L L p k (k + 1)) := Lib.hid (Part.start L p k (fg L k) (by unfold fg; rw [List.getElem?_eq_getElem hk]; rfl) h2 fun j y hj h => by rw [← HN.out _ _ _ h]; exact h3 j hj)
    rw [h1] at HC
    rcases hown.2 with ⟨_, h0⟩ | ⟨g0, cap', cur, hv, hg0, hgb, _, _, _, _⟩
    · omega
    simp only [Value.slice.injEq, true_and] at hv
    obtain ⟨rfl, rfl⟩ := hv
    have hgw : g0 < w.heap.size := (Array.getElem?_eq_some_iff.1 hgb).1
    have HO := Lib.hid hown
    have HP := Lib.hid hp
    have ge0 : ((k : Int) == -1) = false := beq_eq_false_iff_ne.2 (by omega)
    clear hI hp hown h1 h2 h3 hgb
    go_enter Tryd.func36, Tryd.ntmps36
    go_wp2_with (go_at_call 32; (with_reducible refine HC.out.mono ?_); rintro e w1 ⟨rfl, hb1⟩)
    go_loopw [5, 6] (fun vi vj wr => ∃ i j : Nat, ∃ M : List (Int × ByteArray), vi = .int .i64 i ∧ vj = .int .i64 j ∧ i < j ∧ j ≤ L.length ∧ Hid (Part L M p i j) ∧ Hid (wr.ownsRow n₀ 43 2 (.slice (some ⟨g0, 0, none⟩) L.length cap) L.length (flat M)) ∧ Below n₀ w wr) (fun _ j _ => L.length - (intOf j).toNat)
    case atStart => exact ⟨k, k + 1, L, rfl, by go_num, by omega, by omega, HP0, Lib.hid (ownsRow_below HO.out hb1), hb1.mono hn₀⟩
    case round =>
      obtain ⟨i, j, M, rfl, rfl, hij, hj, HPT, HR, hB⟩ := hrel
      by_cases hlt : j < L.length
      · obtain ⟨x, hx⟩ : ∃ x, L[j]? = some x := ⟨_, List.getElem?_eq_getElem hlt⟩
        have hM := HPT.out.at_j x hx
        have hml := HPT.out.len
        obtain ⟨f0, f1⟩ := flat_at M j (by omega)
        rw [HN.out _ _ _ hM] at f0 f1
        have d0 : wr.cell? ⟨g0, j * 2, none⟩ = some (.int .i64 x.1) := by rw [HR.out.cellAt (j * 2) (by omega)]; exact f0
        have d1 : wr.cell? ⟨g0, j * 2 + 1, none⟩ = some (.string x.2) := by rw [HR.out.cellAt (j * 2 + 1) (by omega)]; exact f1
        have hgr : g0 < wr.heap.size := (HR.out.lt g0 rfl).2
        have hBa : Below n₀ w (wr.alloc (.cells #[.int .i64 x.1, .string x.2] 43)) := hB.alloc (Nat.le_trans hn₀ hB.size) _
        have HCL := Lib.hid (show Calls Tryd.prog g (#[.agg #[.int .i64 x.1, .string x.2]] ++ cb) (wr.alloc (.cells #[.int .i64 x.1, .string x.2] 43)) _ from HP.out _ x hBa)
        cases hp : p x
        · rw [hp] at HCL
          have HK := Lib.hid (HPT.out.keep x hx hp)
          have HML := Lib.hid hml
          have hBa' := Lib.hid hBa
          clear hx hM hml hp hBa f0 f1
          go_wp2_with ((with_reducible refine HCL.out.mono ?_); rintro e w2 ⟨rfl, hb2⟩; have hz2 : wr.heap.size < w2.heap.size := (by have := hb2.size; simp at this; omega); have hr2 := Lib.hid (ownsRow_below (HR.out.alloc _) hb2); have q0 : w2.cell? ⟨wr.heap.size, 0, none⟩ = some (.int .i64 x.1) := ((hb2.cell (p := ⟨wr.heap.size, 0, none⟩) (by simp)).trans (by simp)); have z0 : w2.frozen? ⟨g0, i * 2, none⟩ = false := (hr2.out.frozenAt _); obtain ⟨u0, y0⟩ : ∃ u, w2.cell? ⟨g0, i * 2, none⟩ = some u := ⟨_, (hr2.out.cellAt _ (by omega)).trans (List.getElem?_eq_getElem (by rw [hr2.out.1]; omega))⟩; have q1 : w2.cell? ⟨wr.heap.size, 1, none⟩ = some (.string x.2) := ((hb2.cell (p := ⟨wr.heap.size, 1, none⟩) (by simp)).trans (by simp)); have z1 : w2.frozen? ⟨g0, i * 2 + 1, none⟩ = false := (hr2.out.frozenAt _); obtain ⟨u1, y1⟩ : ∃ u, w2.cell? ⟨g0, i * 2 + 1, none⟩ = some u := ⟨_, (hr2.out.cellAt _ (by omega)).trans (List.getElem?_eq_getElem (by rw [hr2.out.1]; omega))⟩; skip)
          have hn2 : n₀ ≤ w2.heap.size := by have := hb2.size; simp at this; omega
          have hB2 : Below n₀ w w2 := hBa'.out.trans (hb2.mono (by simp; omega))
          go_roundw
          case rel =>
            have s0 := hr2.out
            have s1 := (s0.stored (i * 2) (.int .i64 x.1)).1
            have s2 := (s1.stored (i * 2 + 1) (.string x.2)).1
            rw [fin_set M i x (by rw [HML.out]; omega)] at s2
            exact ⟨i + 1, j + 1, _, by go_num, by go_num, by omega, by omega, HK, Lib.hid s2, by repeat (first | exact hB2 | refine Below.setCell ?_ (by omega) _)⟩
          case measure => simp [intOf]; omega
        · rw [hp] at HCL
          have HK := Lib.hid (HPT.out.skip x hx hp)
          have hBa' := Lib.hid hBa
          clear hx hM hml hp hBa f0 f1
          go_wp2_with ((with_reducible refine HCL.out.mono ?_); rintro e w2 ⟨rfl, hb2⟩)
          go_roundw
          case rel => exact ⟨i, j + 1, M, rfl, by go_num, by omega, by omega, HK, Lib.hid (ownsRow_below (HR.out.alloc _) hb2), hBa'.out.trans (hb2.mono (by have := hB.size; simp; omega))⟩
          case measure => simp [intOf]; omega
      · obtain rfl : j = L.length := by omega
        obtain ⟨t1, t2⟩ := HPT.out.done
        have hcl : ∀ ty, (Builtin.clear_ #[37] ty #[.slice (some ⟨g0, i * 2, none⟩) (L.length - i) (cap - i)]).run Tryd.prog wr = .ok (.tuple #[]) (wr.setCells g0 (i * 2) (Builtin.zeroCells #[.int .i64 0, .string ⟨#[]⟩] (L.length - i)).toList) := fun ty =>
          run_clear_rows wr _ _ ty (.agg #[.int .i64 0, .string ⟨#[]⟩]) 2 Tryd.underlying37 fin_zero rfl (by simp [Value.cells, Value.oneCell']) g0 (i * 2) (L.length - i) (cap - i) (by omega)
            (fun t ht => by rw [HR.out.cellAt (i * 2 + t) (by omega), List.getElem?_eq_getElem (by rw [HR.out.1]; omega)]; rfl) (fun t ht => HR.out.frozenAt _)
        obtain ⟨⟨ys, hy, hr2⟩, hg2⟩ := row_cells HR.out (Builtin.zeroCells #[.int .i64 0, .string ⟨#[]⟩] (L.length - i)).toList (i * 2)
        have HEND : Hid (∃ v', Ending.returned (.slice (some ⟨g0, 0, none⟩) i cap) = .returned v' ∧ (wr.setCells g0 (i * 2) (Builtin.zeroCells #[.int .i64 0, .string ⟨#[]⟩] (L.length - i)).toList).ownsRow n₀ 43 2 v' (L.filter fun x => !p x).length (flat (L.filter fun x => !p x)) ∧ Below n₀ w (wr.setCells g0 (i * 2) (Builtin.zeroCells #[.int .i64 0, .string ⟨#[]⟩] (L.length - i)).toList)) := by
          have h := row_cut hr2 i (by omega)
          rw [hy, fin_take, t1] at h
          refine Lib.hid ⟨_, rfl, by rw [t2]; exact h, hB.grown hg2 (Nat.le_trans hn₀ hB.size) fun k hk => by cases hk; exact hg0⟩
        clear t1 t2 hy hr2 hg2
        go_wp2
        go_ret
        exact HEND.out
end Go.Proofs.YtfojipgbenbigaaDoor
