/-
  THE WALKS of arbor.Valid and of the reference's Bricks (21), Right and Count (26): which bricks are right.
-/
import Derived.Test.YtfkmnneieglolaaGreatDoorApp
import Derived.Test.YtfkmnneieglolaaGreatDoorDec
import Derived.BigQuiet
import Derived.IntWalk
namespace Go.Proofs.YtfkmnneieglolaaGreatDoor
open Go.RowKit Go.Shelf
theorem str_eq (a b : ByteArray) : (a.toList == b.toList) = decide (a = b) := by
  rw [Bool.eq_iff_iff, beq_iff_eq, decide_eq_true_eq, ByteArray.toList_eq, ByteArray.toList_eq]
  constructor
  · intro h
    obtain ⟨⟨x⟩⟩ := a
    obtain ⟨⟨y⟩⟩ := b
    simpa using h
  · exact fun h => by rw [h]
def sameN (s : ByteArray) (r : BrickR) : Bool := decide (r.name = s)
def brick1 (b : BrickR) : Bool := isNameB b.name && (decide (1 ≤ b.weight) && (decide (b.weight ≤ 1048576) && (decide (0 ≤ b.count) && decide (b.count ≤ 60))))
def brickK (L : List BrickR) (k : Nat) : Bool := brick1 (bg L k) && !(brick_any (L.take k) (sameN (bg L k).name))
def okTo (L : List BrickR) : Nat → Bool
  | 0 => true
  | k + 1 => okTo L k && brickK L k
def cntTo (L : List BrickR) : Nat → Int
  | 0 => 0
  | k + 1 => cntTo L k + (bg L k).count
def brickB (L : List BrickR) : Bool := decide (L.length ≤ 8) && (okTo L L.length && decide (cntTo L L.length ≤ 60))
theorem brick1_iff (b : BrickR) : brick1 b = true ↔ isNameB b.name = true ∧ 1 ≤ b.weight ∧ b.weight ≤ 1048576 ∧ 0 ≤ b.count ∧ b.count ≤ 60 := by
  unfold brick1
  simp only [Bool.and_eq_true, decide_eq_true_eq]
theorem ok_all {L : List BrickR} : ∀ {k : Nat}, okTo L k = true → ∀ j, j < k → brickK L j = true
  | 0, _, j, hj => absurd hj (Nat.not_lt_zero _)
  | k + 1, h, j, hj => by
    simp only [okTo, Bool.and_eq_true] at h
    rcases (show j < k ∨ j = k by omega) with l | l
    · exact ok_all h.1 j l
    · subst l; exact h.2
theorem brickK_1 {L : List BrickR} {k : Nat} (h : brickK L k = true) : brick1 (bg L k) = true := by
  unfold brickK at h
  rw [Bool.and_eq_true] at h
  exact h.1
theorem cnt_bd {L : List BrickR} : ∀ {k : Nat}, okTo L k = true → 0 ≤ cntTo L k ∧ cntTo L k ≤ 60 * k
  | 0, _ => by simp [cntTo]
  | k + 1, h => by
    simp only [okTo, Bool.and_eq_true] at h
    obtain ⟨a, b⟩ := cnt_bd h.1
    obtain ⟨_, _, _, c, d⟩ := (brick1_iff _).1 (brickK_1 h.2)
    simp only [cntTo]
    omega
theorem brick_no {L : List BrickR} {k : Nat} (hk : k < L.length) (h : brickK L k = false) : brickB L = false := by
  unfold brickB
  rw [Bool.eq_false_iff]
  intro q
  simp only [Bool.and_eq_true] at q
  have := ok_all q.2.1 k hk
  rw [h] at this
  cases this
theorem brick_ok {L : List BrickR} (h : brickB L = true) : L.length ≤ 8 ∧ okTo L L.length = true ∧ cntTo L L.length ≤ 60 ∧ BrickOK L := by
  unfold brickB at h
  simp only [Bool.and_eq_true, decide_eq_true_eq] at h
  refine ⟨h.1, h.2.1, h.2.2, fun b hb => ?_⟩
  obtain ⟨j, hj, rfl⟩ := List.mem_iff_getElem.1 hb
  have := (brick1_iff _).1 (brickK_1 (ok_all h.2.1 j hj))
  rw [bg_eq L j hj] at this
  exact ⟨this.2.1, this.2.2.1, this.2.2.2.1, this.2.2.2.2⟩
theorem ent_same (args : Array Value) (w : World) : (callFunc 55 args).run Tryz.prog w = .ok (.enter 55 args) w := enters_of Tryz.func55 (by kernel_rfl) rfl args w
set_option maxHeartbeats 1000000 in
theorem asks_same (bx : Nat) (s : ByteArray) (n₀ : Nat) (w : World) (hbx : bx < n₀) (hc : w.cell? ⟨bx, 0, none⟩ = some (.string s)) :
    AsksK 55 #[.pointer (some ⟨bx, 0, none⟩)] n₀ w (sameN s) := by
  intro W r hB
  have hc' := (hB.cell (p := ⟨bx, 0, none⟩) hbx).trans hc
  have hc2 : ∀ o, (W.alloc o).cell? ⟨bx, 0, none⟩ = some (.string s) := fun o => ((Below.refl W.heap.size W).alloc (Nat.le_refl _) o |>.cell (p := ⟨bx, 0, none⟩) (World.block_lt_of_cell? W _ hc')).trans hc'
  have H := Lib.hid (str_eq r.name s)
  show Calls _ _ #[brickV r, .pointer (some ⟨bx, 0, none⟩)] _ _
  unfold brickV
  go_enter Tryz.func55, Tryz.ntmps55
  go_wp2_with fail
  go_ret
  exact ⟨ret_bool H.out, (Below.refl _ _).alloc (Nat.le_refl _) _⟩
theorem b_cases (b : BrickR) : (isNameB b.name = false ∧ brick1 b = false) ∨ (isNameB b.name = true ∧ decide (b.weight < 1) = true ∧ decide (1 ≤ b.weight) = false ∧ brick1 b = false) ∨ (isNameB b.name = true ∧ decide (b.weight < 1) = false ∧ decide (1 ≤ b.weight) = true ∧ decide (1048576 < b.weight) = true ∧ decide (b.weight ≤ 1048576) = false ∧ brick1 b = false) ∨
    (isNameB b.name = true ∧ decide (b.weight < 1) = false ∧ decide (1 ≤ b.weight) = true ∧ decide (1048576 < b.weight) = false ∧ decide (b.weight ≤ 1048576) = true ∧ decide (b.count < 0) = true ∧ decide (0 ≤ b.count) = false ∧ brick1 b = false) ∨
    (isNameB b.name = true ∧ decide (b.weight < 1) = false ∧ decide (1 ≤ b.weight) = true ∧ decide (1048576 < b.weight) = false ∧ decide (b.weight ≤ 1048576) = true ∧ decide (b.count < 0) = false ∧ decide (0 ≤ b.count) = true ∧ decide (60 < b.count) = true ∧ decide (b.count ≤ 60) = false ∧ brick1 b = false) ∨
    (isNameB b.name = true ∧ decide (b.weight < 1) = false ∧ decide (1 ≤ b.weight) = true ∧ decide (1048576 < b.weight) = false ∧ decide (b.weight ≤ 1048576) = true ∧ decide (b.count < 0) = false ∧ decide (0 ≤ b.count) = true ∧ decide (60 < b.count) = false ∧ decide (b.count ≤ 60) = true ∧ brick1 b = true) := by
  have hb := brick1_iff b
  have hn : brick1 b = false ↔ ¬ brick1 b = true := by rw [Bool.not_eq_true]
  rw [hn, hb]
  simp only [decide_eq_true_eq, decide_eq_false_iff_not]
  cases isNameB b.name <;> simp <;> omega
set_option maxRecDepth 100000 in
set_option maxHeartbeats 16000000 in
theorem valid_any (a : Option Addr) (L : List BrickR) (cap : Nat) (w : World) (hcap : L.length ≤ cap) (h : Bricks w.heap.size w a L) :
    Calls Tryz.prog 30 #[.slice a L.length cap] w fun e w' => e = .returned (.bool (brickB L)) ∧ Below w.heap.size w w' := by
  have HU := Lib.hid h
  clear h
  obtain ⟨R, hR⟩ : ∃ R, brickB L = R := ⟨_, rfl⟩
  have HR := Lib.hid hR
  rw [hR]
  by_cases q : 8 < L.length
  · obtain rfl : R = false := by rw [← hR]; unfold brickB; rw [decide_eq_false (by omega)]; rfl
    have g : decide ((8 : Int) < L.length) = true := decide_eq_true (by omega)
    clear hR HR q
    go_enter Tryz.func30, Tryz.ntmps30
    go_wp2_with fail
    go_ret
    exact ⟨rfl, Below.refl _ _⟩
  have g : decide ((8 : Int) < L.length) = false := decide_eq_false (by omega)
  have hq : L.length ≤ 8 := by omega
  clear hR q
  go_enter Tryz.func30, Tryz.ntmps30
  go_wp2_with fail
  go_loopw [3, 11] (fun s i wr => ∃ k : Nat, k ≤ L.length ∧ i = .int .i64 k ∧ s = .int .i64 (cntTo L k) ∧ Hid (okTo L k = true) ∧ Below w.heap.size w wr) (fun _ i _ => L.length - (intOf i).toNat)
  case atStart => exact ⟨0, Nat.zero_le _, rfl, rfl, Lib.hid rfl, Below.refl _ _⟩
  case round =>
    obtain ⟨k, hk, rfl, rfl, HO, hB⟩ := hrel
    by_cases hlt : k < L.length
    · obtain ⟨b, off, rfl, hb, hc⟩ := HU.out (by omega)
      obtain ⟨e0, e1, e2⟩ := hc k hlt
      have c0 := (hB.cell (p := ⟨b, off + k * 3, none⟩) hb).trans e0
      have c1 := (hB.cell (p := ⟨b, off + k * 3 + 1, none⟩) hb).trans e1
      have c2 := (hB.cell (p := ⟨b, off + k * 3 + 2, none⟩) hb).trans e2
      have hbd := cnt_bd HO.out
      have HC : Hid (cntTo L (k + 1) = cntTo L k + (bg L k).count) := Lib.hid rfl
      have HK : Hid (brickK L k = (brick1 (bg L k) && !(brick_any (L.take k) (sameN (bg L k).name)))) := Lib.hid rfl
      have HN : Hid (brickK L k = false → R = false) := Lib.hid fun h => by rw [← HR.out, brick_no hlt h]
      have HY : Hid (brickK L k = true → okTo L (k + 1) = true) := Lib.hid fun h => by simp only [okTo]; rw [HO.out, h]; rfl
      have hcs := b_cases (bg L k)
      have h1f := brick1_iff (bg L k)
      generalize cntTo L k = s at *
      generalize bg L k = r at *
      clear hc e0 e1 e2
      have hB2 := hB.alloc hB.size (.cells #[.string r.name, .int .i64 r.weight, .int .i64 r.count] 61)
      rcases hcs with ⟨q1, q9⟩ | ⟨q1, q2, _, q9⟩ | ⟨q1, q2, _, q3, _, q9⟩ | ⟨q1, q2, _, q3, _, q4, _, q9⟩ | ⟨q1, q2, _, q3, _, q4, _, q5, _, q9⟩ | ⟨q1, q2, _, q3, _, q4, _, q5, _, q9⟩
      iterate 5
        · have HQ := Lib.hid q1
          obtain rfl : R = false := HN.out (by rw [HK.out, q9]; rfl)
          clear q1 q9 HN HY HK h1f HR
          go_wp2_with (go_at_call 48; (with_reducible refine (isName_any _ _).mono ?_); rintro e w2 ⟨rfl, rfl⟩; rw [HQ.out])
          go_ret
          exact ⟨rfl, hB2⟩
      · have HQ := Lib.hid q1
        have hcnt := (h1f.1 q9).2.2.2
        obtain ⟨d, hd⟩ : ∃ d, brick_any (L.take k) (sameN r.name) = d := ⟨_, rfl⟩
        have HD := Lib.hid hd
        have HK2 : Hid (brickK L k = !d) := Lib.hid (by rw [HK.out, q9, hd]; rfl)
        have t1 : IntKind.i64.wrap (s + r.count) = s + r.count := IntWalk.i64_in _ (by omega)
        have hT := (HU.out : Bricks _ _ _ _).take k
        have hTl : (L.take k).length = k := by rw [List.length_take]; omega
        have x0 : (wr.alloc (.cells #[.string r.name, .int .i64 r.weight, .int .i64 r.count] 61)).cell? ⟨wr.heap.size, 0, none⟩ = some (.string r.name) := by simp
        have x2 : (wr.alloc (.cells #[.string r.name, .int .i64 r.weight, .int .i64 r.count] 61)).cell? ⟨wr.heap.size, 2, none⟩ = some (.int .i64 r.count) := by simp
        have hz : wr.heap.size < (wr.alloc (.cells #[.string r.name, .int .i64 r.weight, .int .i64 r.count] 61)).heap.size := by simp
        have hT2 := (hT.below hB2).mono hB2.size
        have HC1 := Lib.hid (brick_containsFunc _ (L.take k) cap _ _ _ (sameN r.name) _ ent_same (by omega) (Nat.le_refl _) hT2 (asks_same wr.heap.size r.name _ _ hz x0))
        rw [hTl] at HC1
        clear q1 q9 HK h1f hd hT hT2
        have k1 : k ≤ cap := by omega
        have k2 : (k : Int) ≤ (cap : Int) := by omega
        cases d
        · have HO2 : Hid (okTo L (k + 1) = true) := Lib.hid (HY.out HK2.out)
          clear HN HY HR HK2
          go_wp2_with (first
            | (go_at_call 48; (with_reducible refine (isName_any _ _).mono ?_); rintro e w2 ⟨rfl, rfl⟩; rw [HQ.out])
            | (go_at_call 54; (with_reducible refine HC1.out.mono ?_); rintro e w3 ⟨rfl, hb3⟩; rw [HD.out]; have y2 := (hb3.cell (p := ⟨wr.heap.size, 2, none⟩) hz).trans x2; have hB3 := hB2.trans (hb3.mono hB2.size)))
          go_roundw
          case rel => exact ⟨k + 1, by omega, by go_num, by rw [HC.out], HO2, hB3⟩
          case measure => simp [intOf]; omega
        · obtain rfl : R = false := HN.out HK2.out
          clear HN HY HR HK2
          go_wp2_with (first
            | (go_at_call 48; (with_reducible refine (isName_any _ _).mono ?_); rintro e w2 ⟨rfl, rfl⟩; rw [HQ.out])
            | (go_at_call 54; (with_reducible refine HC1.out.mono ?_); rintro e w3 ⟨rfl, hb3⟩; rw [HD.out]; have hB3 := hB2.trans (hb3.mono hB2.size)))
          go_ret
          exact ⟨rfl, hB3⟩
    · obtain rfl : k = L.length := by omega
      have HF : Hid (decide (cntTo L L.length ≤ 60) = R) := Lib.hid (by rw [← HR.out]; unfold brickB; rw [decide_eq_true hq, HO.out]; rfl)
      clear HR
      go_wp2_with fail
      go_ret
      exact ⟨ret_bool HF.out, hB⟩
theorem brick_any_take {L : List BrickR} {k : Nat} (hk : k ≤ L.length) (p : BrickR → Bool) : brick_any (L.take k) p = false ↔ ∀ j, j < k → p (bg L j) = false := by
  have hT : (L.take k).length = k := by rw [List.length_take]; omega
  have hg : ∀ j, j < k → bg (L.take k) j = bg L j := fun j hj => by unfold bg; rw [List.getElem?_take, if_pos hj]
  unfold brick_any
  rcases brick_first_cases (L.take k) p with ⟨e, h⟩ | ⟨j, hj, e, h1, _⟩
  · rw [e]
    refine ⟨fun _ j hj => ?_, fun _ => rfl⟩
    have := h j (by omega)
    rwa [hg j hj] at this
  · rw [e]
    rw [hT] at hj
    rw [hg j hj] at h1
    refine ⟨fun h => ?_, fun h => ?_⟩
    · have := of_decide_eq_false h; omega
    · have := h j hj; rw [h1] at this; cases this
set_option maxHeartbeats 1000000 in
theorem between_any (n lo hi : Int) (w : World) : Calls Tryz.prog 18 #[.int .i64 n, .int .i64 lo, .int .i64 hi] w fun e w' => e = .returned (.bool (decide (lo ≤ n) && decide (n ≤ hi))) ∧ w = w' := by
  obtain ⟨x, hx⟩ : ∃ x, decide (lo ≤ n) = x := ⟨_, rfl⟩
  obtain ⟨y, hy⟩ : ∃ y, decide (n ≤ hi) = y := ⟨_, rfl⟩
  rw [hx, hy]
  cases x
  all_goals
    go_enter Tryz.func18, Tryz.ntmps18
    go_wp2
    go_ret
    exact ⟨by simp, rfl⟩
set_option maxRecDepth 100000 in
set_option maxHeartbeats 16000000 in
theorem refbricks_any (a : Option Addr) (L : List BrickR) (cap : Nat) (w : World) (h : Bricks w.heap.size w a L) :
    Calls Tryz.prog 20 #[.slice a L.length cap] w fun e w' => e = .returned (.bool (brickB L)) ∧ Below w.heap.size w w' := by
  have HU := Lib.hid h
  clear h
  obtain ⟨R, hR⟩ : ∃ R, brickB L = R := ⟨_, rfl⟩
  have HR := Lib.hid hR
  rw [hR]
  by_cases q : 8 < L.length
  · obtain rfl : R = false := by rw [← hR]; unfold brickB; rw [decide_eq_false (by omega)]; rfl
    have g : decide ((8 : Int) < L.length) = true := decide_eq_true (by omega)
    clear hR HR q
    go_enter Tryz.func20, Tryz.ntmps20
    go_wp2_with fail
    go_ret
    exact ⟨rfl, Below.refl _ _⟩
  have g : decide ((8 : Int) < L.length) = false := decide_eq_false (by omega)
  have hq : L.length ≤ 8 := by omega
  clear hR q
  go_enter Tryz.func20, Tryz.ntmps20
  go_wp2_with fail
  go_loopw [3, 4] (fun s i wr => ∃ k : Nat, k ≤ L.length ∧ i = .int .i64 k ∧ s = .int .i64 (cntTo L k) ∧ Hid (okTo L k = true) ∧ Below w.heap.size w wr) (fun _ i _ => L.length - (intOf i).toNat)
  case atStart => exact ⟨0, Nat.zero_le _, rfl, rfl, Lib.hid rfl, Below.refl _ _⟩
  case round =>
    obtain ⟨k, hk, rfl, rfl, HO, hB⟩ := hrel
    by_cases hlt : k < L.length
    · obtain ⟨b, off, rfl, hb, hc⟩ := HU.out (by omega)
      obtain ⟨e0, e1, e2⟩ := hc k hlt
      have c0 := (hB.cell (p := ⟨b, off + k * 3, none⟩) hb).trans e0
      have c1 := (hB.cell (p := ⟨b, off + k * 3 + 1, none⟩) hb).trans e1
      have c2 := (hB.cell (p := ⟨b, off + k * 3 + 2, none⟩) hb).trans e2
      have hbd := cnt_bd HO.out
      have HC : Hid (cntTo L (k + 1) = cntTo L k + (bg L k).count) := Lib.hid rfl
      have HK : Hid (brickK L k = (brick1 (bg L k) && !(brick_any (L.take k) (sameN (bg L k).name)))) := Lib.hid rfl
      have HN : Hid (brickK L k = false → R = false) := Lib.hid fun h => by rw [← HR.out, brick_no hlt h]
      have HY : Hid (brickK L k = true → okTo L (k + 1) = true) := Lib.hid fun h => by simp only [okTo]; rw [HO.out, h]; rfl
      have HA : Hid (brick_any (L.take k) (sameN (bg L k).name) = false ↔ ∀ j, j < k → sameN (bg L k).name (bg L j) = false) := Lib.hid (brick_any_take hk _)
      have hcs := b_cases (bg L k)
      have h1f := brick1_iff (bg L k)
      have HCJ : Hid (∀ wr, Below w.heap.size w wr → ∀ j, j < k → wr.cell? ⟨b, off + j * 3, none⟩ = some (.string (bg L j).name)) := Lib.hid fun wr hB j hj => (hB.cell (p := ⟨b, off + j * 3, none⟩) hb).trans (hc j (by omega)).1
      generalize cntTo L k = s at *
      generalize bg L k = r at *
      clear hc e0 e1 e2
      rcases hcs with ⟨q1, q9⟩ | ⟨q1, q2, q6, q9⟩ | ⟨q1, q2, q6, q3, q7, q9⟩ | ⟨q1, q2, q6, q3, q7, q4, q8, q9⟩ | ⟨q1, q2, q6, q3, q7, q4, q8, q5, qa, q9⟩ | ⟨q1, q2, q6, q3, q7, q4, q8, q5, qa, q9⟩
      iterate 5
        · have HQ := Lib.hid q1
          obtain rfl : R = false := HN.out (by rw [HK.out, q9]; rfl)
          clear q1 q9 HN HY HK h1f HR HA
          go_wp2_with (first
            | (go_at_call 17; (with_reducible refine (refisName_any _ _).mono ?_); rintro e w2 ⟨rfl, rfl⟩; rw [HQ.out])
            | (go_at_call 18; (with_reducible refine (between_any _ _ _ _).mono ?_); rintro e w2 ⟨rfl, rfl⟩))
          go_ret
          exact ⟨rfl, hB⟩
      · have HQ := Lib.hid q1
        have hcnt := (h1f.1 q9).2.2.2
        have HK2 : Hid (brickK L k = !(brick_any (L.take k) (sameN r.name))) := Lib.hid (by rw [HK.out, q9]; rfl)
        have t1 : IntKind.i64.wrap (s + r.count) = s + r.count := IntWalk.i64_in _ (by omega)
        clear q1 q9 HK h1f
        obtain ⟨wo, rfl⟩ : ∃ W : World, W = wr := ⟨_, rfl⟩
        go_wp2_with (first
          | (go_at_call 17; (with_reducible refine (refisName_any _ _).mono ?_); rintro e w2 ⟨rfl, rfl⟩; rw [HQ.out])
          | (go_at_call 18; (with_reducible refine (between_any _ _ _ _).mono ?_); rintro e w2 ⟨rfl, rfl⟩))
        go_loopw [5] (fun i wr => ∃ j : Nat, j ≤ k ∧ i = .int .i64 j ∧ Hid (∀ i, i < j → sameN r.name (bg L i) = false) ∧ Below wo.heap.size wo wr) (fun i _ => k - (intOf i).toNat)
        case atStart => exact ⟨0, Nat.zero_le _, rfl, Lib.hid fun i hi => absurd hi (Nat.not_lt_zero _), Below.refl _ _⟩
        case round =>
          obtain ⟨j, hj, rfl, HJ, hB2⟩ := hrel
          have hB3 := hB.trans (hB2.mono hB.size)
          by_cases hjk : j < k
          · have d0 := HCJ.out _ hB3 j hjk
            have d1 := (hB2.cell (p := ⟨b, off + k * 3, none⟩) (World.block_lt_of_cell? _ _ c0)).trans c0
            have hs := str_eq (bg L j).name r.name
            have j1 : (j : Int) < (L.length : Int) := by omega
            have j2 : (k : Int) < (L.length : Int) := by omega
            have j3 : (0 : Int) ≤ (j : Int) := by omega
            have j4 : (0 : Int) ≤ (k : Int) := by omega
            by_cases hx : (bg L j).name = r.name
            · obtain rfl : R = false := HN.out (by
                rw [HK2.out]
                cases hd : brick_any (L.take k) (sameN r.name)
                · have := HA.out.1 hd j hjk
                  unfold sameN at this
                  rw [decide_eq_true hx] at this
                  cases this
                · rfl)
              rw [decide_eq_true hx] at hs
              clear hx HN HY HR HK2 HA
              go_wp2_with fail
              go_quiet (fail)
              go_wp2_with fail
              go_ret
              exact ⟨rfl, below_drewN hB3 _⟩
            · rw [decide_eq_false hx] at hs
              have HJ2 : Hid (∀ i, i < j + 1 → sameN r.name (bg L i) = false) := Lib.hid fun i hi => by
                rcases (show i < j ∨ i = j by omega) with l | l
                · exact HJ.out i l
                · subst l; unfold sameN; exact decide_eq_false hx
              clear hx HN HY HR HK2 HA
              go_wp2_with fail
              go_quiet (fail)
              go_wp2_with fail
              go_roundw
              case rel => exact ⟨j + 1, by omega, by go_num, HJ2, below_drewN hB2 _⟩
              case measure => simp [intOf]; omega
          · obtain rfl : j = k := by omega
            have HO2 : Hid (okTo L (j + 1) = true) := Lib.hid (HY.out (by rw [HK2.out, HA.out.2 HJ.out]; rfl))
            clear HN HY HR HK2 HA
            go_wp2_with fail
            go_roundw
            case rel => exact ⟨j + 1, by omega, by go_num, by rw [HC.out], HO2, hB3⟩
            case measure => simp [intOf]; omega
    · obtain rfl : k = L.length := by omega
      have HF : Hid (decide (cntTo L L.length ≤ 60) = R) := Lib.hid (by rw [← HR.out]; unfold brickB; rw [decide_eq_true hq, HO.out]; rfl)
      clear HR
      go_wp2_with fail
      go_ret
      exact ⟨ret_bool HF.out, hB⟩
end Go.Proofs.YtfkmnneieglolaaGreatDoor
