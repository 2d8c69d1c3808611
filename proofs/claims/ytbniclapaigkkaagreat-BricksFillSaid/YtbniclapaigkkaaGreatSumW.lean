/-
  THE WALKS: the reference's Sum, bricks, Before (26), and arbor's Weight.
-/
import Derived.Test.YtbniclapaigkkaaGreatFew
namespace Go.Proofs.YtbniclapaigkkaaGreat
open Go.RowKit Go.Shelf
theorem isC_iff : ∀ {L : List BrickR} {c : List Int}, IsC L c ↔ c.length = L.length ∧ ∀ j, j < L.length → 0 ≤ ig c j ∧ ig c j ≤ (bg L j).count
  | [], [] => ⟨fun _ => ⟨rfl, fun j h => absurd h (Nat.not_lt_zero _)⟩, fun _ => trivial⟩
  | b :: t, n :: r => by
    simp only [IsC, isC_iff (L := t) (c := r), List.length_cons, Nat.add_right_cancel_iff]
    constructor
    · rintro ⟨h0, hl, h⟩
      refine ⟨hl, fun j hj => ?_⟩
      cases j with
      | zero => exact h0
      | succ j => exact h j (by omega)
    · rintro ⟨hl, h⟩
      exact ⟨h 0 (by omega), hl, fun j hj => h (j + 1) (by omega)⟩
  | [], _ :: _ => by simp [IsC]
  | _ :: _, [] => by simp [IsC]
instance (L : List BrickR) (c : List Int) : Decidable (IsC L c) := decidable_of_iff _ isC_iff.symm
def sumTo (L : List BrickR) (c : List Int) : Nat → Int
  | 0 => 0
  | k + 1 => sumTo L c k + (bg L k).weight * ig c k
def numTo (c : List Int) : Nat → Int
  | 0 => 0
  | k + 1 => numTo c k + ig c k
theorem sumTo_cons (b : BrickR) (t : List BrickR) (n : Int) (r : List Int) : ∀ k, sumTo (b :: t) (n :: r) (k + 1) = b.weight * n + sumTo t r k
  | 0 => by simp [sumTo, bg, ig]
  | k + 1 => by
    have := sumTo_cons b t n r k
    unfold sumTo
    rw [this]
    unfold sumTo
    have e1 : bg (b :: t) (k + 1) = bg t k := rfl
    have e2 : ig (n :: r) (k + 1) = ig r k := rfl
    rw [e1, e2]
    omega
theorem sumTo_all : ∀ {L : List BrickR} {c : List Int}, c.length = L.length → sumTo L c L.length = sumC L c
  | [], [], _ => rfl
  | b :: t, n :: r, h => by
    rw [List.length_cons, sumTo_cons, sumTo_all (by simpa using h)]
    rfl
  | [], _ :: _, h => by simp at h
  | _ :: _, [], h => by simp at h
theorem numTo_cons (n : Int) (r : List Int) : ∀ k, numTo (n :: r) (k + 1) = n + numTo r k
  | 0 => by simp [numTo, ig]
  | k + 1 => by
    have := numTo_cons n r k
    unfold numTo
    rw [this]
    have e2 : ig (n :: r) (k + 1) = ig r k := rfl
    rw [e2]
    cases k <;> simp [numTo] <;> omega
theorem numTo_all : ∀ (c : List Int), numTo c c.length = numC c
  | [] => rfl
  | n :: r => by
    rw [List.length_cons, numTo_cons, numTo_all r]
    rfl
theorem sumTo_bd {L : List BrickR} {c : List Int} (ok : BrickOK L) (h : ∀ j, j < L.length → 0 ≤ ig c j ∧ ig c j ≤ (bg L j).count) : ∀ k : Nat, k ≤ L.length → 0 ≤ sumTo L c k ∧ sumTo L c k ≤ 62914560 * (k : Int)
  | 0, _ => by simp [sumTo]
  | k + 1, hk => by
    obtain ⟨i1, i2⟩ := sumTo_bd ok h k (by omega)
    obtain ⟨w1, w2, _, c2⟩ := ok_bg ok (show k < L.length by omega)
    obtain ⟨n1, n2⟩ := h k (by omega)
    have a1 : 0 ≤ (bg L k).weight * ig c k := Int.mul_nonneg (by omega) n1
    have a2 : (bg L k).weight * ig c k ≤ 1048576 * 60 := Int.mul_le_mul w2 (by omega) n1 (by omega)
    simp only [sumTo]
    omega
theorem numTo_bd {L : List BrickR} {c : List Int} (ok : BrickOK L) (hl : c.length = L.length) (h : ∀ j, j < L.length → 0 ≤ ig c j ∧ ig c j ≤ (bg L j).count) : ∀ k : Nat, k ≤ c.length → 0 ≤ numTo c k ∧ numTo c k ≤ 60 * (k : Int)
  | 0, _ => by simp [numTo]
  | k + 1, hk => by
    obtain ⟨i1, i2⟩ := numTo_bd ok hl h k (by omega)
    obtain ⟨w1, w2, _, c2⟩ := ok_bg ok (show k < L.length by omega)
    obtain ⟨n1, n2⟩ := h k (by omega)
    simp only [numTo]
    omega
set_option maxRecDepth 100000 in
set_option maxHeartbeats 8000000 in
theorem refsum_any (a : Option Addr) (L : List BrickR) (cap : Nat) (ac : Option Addr) (c : List Int) (cc : Nat) (w : World) (ok : BrickOK L) (hl : L.length ≤ 8) (hc : IsC L c) (h : Bricks w.heap.size w a L) (hN : Nums w.heap.size w ac c) :
    Calls Tryz.prog 68 #[.slice a L.length cap, .slice ac c.length cc] w fun e w' => e = .returned (.int .i64 (sumC L c)) ∧ Below w.heap.size w w' := by
  obtain ⟨he, hb⟩ := isC_iff.1 hc
  rw [← sumTo_all he]
  have HU := Lib.hid h
  have HN := Lib.hid hN
  have HBD := Lib.hid hb
  have HOK := Lib.hid ok
  have HSB := Lib.hid (sumTo_bd ok hb)
  rw [he]
  clear h hN hb ok hc
  go_enter Tryz.func68, Tryz.ntmps68
  go_wp2_with fail
  go_loopw [5, 6] (fun s i wr => ∃ k : Nat, k ≤ L.length ∧ i = .int .i64 k ∧ s = .int .i64 (sumTo L c k) ∧ Below w.heap.size w wr) (fun _ i _ => L.length - (intOf i).toNat)
  case atStart => exact ⟨0, Nat.zero_le _, rfl, rfl, Below.refl _ _⟩
  case round =>
    obtain ⟨k, hk, rfl, rfl, hB⟩ := hrel
    by_cases hlt : k < L.length
    · obtain ⟨b, off, rfl, hb, hx⟩ := HU.out (by omega)
      obtain ⟨_, e1, _⟩ := hx k hlt
      obtain ⟨b2, off2, rfl, hb2, hx2⟩ := HN.out (by omega)
      have e2 := hx2 k (by omega)
      obtain ⟨w1, w2, _, c2⟩ := ok_bg HOK.out hlt
      obtain ⟨n1, n2⟩ := HBD.out k hlt
      obtain ⟨s1, s2⟩ := HSB.out k hk
      have HS : Hid (sumTo L c (k + 1) = sumTo L c k + (bg L k).weight * ig c k) := Lib.hid rfl
      have a1 : 0 ≤ (bg L k).weight * ig c k := Int.mul_nonneg (by omega) n1
      have a2 : (bg L k).weight * ig c k ≤ 1048576 * 60 := Int.mul_le_mul w2 (by omega) n1 (by omega)
      generalize (bg L k).weight = W at *
      generalize ig c k = n at *
      generalize sumTo L c k = s at *
      clear hx hx2
      have t1 : IntKind.i64.wrap (W * n) = W * n := IntWalk.i64_in _ (by omega)
      have t2 : IntKind.i64.wrap (s + W * n) = s + W * n := IntWalk.i64_in _ (by omega)
      have j0 : (0 : Int) ≤ (k : Int) := by omega
      have j1 : (k : Int) < (L.length : Int) := by omega
      have d1 := (hB.cell (p := ⟨b, off + k * 3 + 1, none⟩) hb).trans e1
      have d2 := (hB.cell (p := ⟨b2, off2 + k, none⟩) hb2).trans e2
      clear a1 a2 e1 e2
      go_wp2_with fail
      go_quiet (fail)
      go_wp2_with fail
      go_roundw
      case rel => exact ⟨k + 1, by omega, by go_num, by rw [HS.out], below_drewN hB nq⟩
      case measure => simp [intOf]; omega
    · obtain rfl : k = L.length := by omega
      go_wp2_with fail
      go_ret
      exact ⟨rfl, hB⟩
set_option maxRecDepth 100000 in
set_option maxHeartbeats 8000000 in
theorem refnum_any (L : List BrickR) (ac : Option Addr) (c : List Int) (cc : Nat) (n₀ : Nat) (w : World) (ok : BrickOK L) (hl : L.length ≤ 8) (hc : IsC L c) (hN : Nums n₀ w ac c) :
    Calls Tryz.prog 95 #[.slice ac c.length cc] w fun e w' => e = .returned (.int .i64 (numC c)) ∧ w = w' := by
  obtain ⟨he, hb⟩ := isC_iff.1 hc
  rw [← numTo_all c]
  have HN := Lib.hid hN
  have HSB := Lib.hid (numTo_bd ok he hb)
  have HBD : Hid (∀ k, k < c.length → 0 ≤ ig c k ∧ ig c k ≤ 60) := Lib.hid fun k hk => by
    have h1 := hb k (by omega)
    have h2 := ok_bg ok (show k < L.length by omega)
    omega
  have hcl : c.length ≤ 8 := by omega
  clear hN hb ok hc he
  go_enter Tryz.func95, Tryz.ntmps95
  go_wp2
  go_loop [3, 4] (fun s i => ∃ k : Nat, k ≤ c.length ∧ i = .int .i64 k ∧ s = .int .i64 (numTo c k)) (fun _ i => c.length - (intOf i).toNat)
  case atStart => exact ⟨0, Nat.zero_le _, rfl, rfl⟩
  case round =>
    obtain ⟨k, hk, rfl, rfl⟩ := hrel
    by_cases hlt : k < c.length
    · obtain ⟨b2, off2, rfl, hb2, hx2⟩ := HN.out (by omega)
      have e2 := hx2 k (by omega)
      obtain ⟨n1, n2⟩ := HBD.out k hlt
      obtain ⟨s1, s2⟩ := HSB.out k hk
      have HS : Hid (numTo c (k + 1) = numTo c k + ig c k) := Lib.hid rfl
      generalize ig c k = n at *
      generalize numTo c k = s at *
      clear hx2
      have t2 : IntKind.i64.wrap (s + n) = s + n := IntWalk.i64_in _ (by omega)
      go_wp2
      go_round
      case rel => exact ⟨k + 1, by omega, by go_num, by rw [HS.out]⟩
      case measure => simp [intOf]; omega
    · obtain rfl : k = c.length := by omega
      go_wp2
      go_ret
      exact ⟨rfl, rfl⟩
theorem lexB_go {a b : List Int} (h : a.length = b.length) : ∀ k, k ≤ a.length → (∀ j, j < k → ig a j = ig b j) → lexB a b = lexB (a.drop k) (b.drop k)
  | 0, _, _ => rfl
  | k + 1, hk, he => by
    rw [lexB_go h k (by omega) fun j hj => he j (by omega), List.drop_eq_getElem_cons (show k < a.length by omega), List.drop_eq_getElem_cons (show k < b.length by omega), ← ig_eq a k (by omega), ← ig_eq b k (by omega), he k (by omega), lexB_cons]
theorem lexB_at {a b : List Int} (h : a.length = b.length) {k : Nat} (hk : k < a.length) (he : ∀ j, j < k → ig a j = ig b j) (hn : ig a k ≠ ig b k) : lexB a b = decide (ig a k < ig b k) := by
  rw [lexB_go h k (by omega) he, List.drop_eq_getElem_cons (show k < a.length by omega), List.drop_eq_getElem_cons (show k < b.length by omega), ← ig_eq a k (by omega), ← ig_eq b k (by omega)]
  simp only [lexB]
  rw [if_neg hn]
set_option maxRecDepth 100000 in
set_option maxHeartbeats 8000000 in
theorem before_any (L : List BrickR) (aa ab : Option Addr) (a b : List Int) (ca cb : Nat) (w : World) (ok : BrickOK L) (hl : L.length ≤ 8) (ha : IsC L a) (hb : IsC L b) (hA : Nums w.heap.size w aa a) (hB : Nums w.heap.size w ab b) :
    Calls Tryz.prog 70 #[.slice aa a.length ca, .slice ab b.length cb] w fun e w' => e = .returned (.bool (beforeB a b)) ∧ Below w.heap.size w w' := by
  have he : a.length = b.length := by rw [isC_len ha, isC_len hb]
  have hal : a.length ≤ 8 := by rw [isC_len ha]; exact hl
  have HA := Lib.hid hA
  have HB := Lib.hid hB
  have HOK := Lib.hid ok
  have HIA := Lib.hid ha
  have HIB := Lib.hid hb
  have HGO : Hid (∀ k, k < a.length → (∀ j, j < k → ig a j = ig b j) → ig a k ≠ ig b k → lexB a b = decide (ig a k < ig b k)) := Lib.hid fun k hk h1 h2 => lexB_at he hk h1 h2
  have HEQ : Hid ((∀ j, j < a.length → ig a j = ig b j) → lexB a b = false) := Lib.hid fun h => by
    rw [ig_ext a b he h, lexB_irr]
  have HE := Lib.hid he
  clear ha hb hA hB ok he
  by_cases q : numC a = numC b
  · have HR : Hid (beforeB a b = lexB a b) := Lib.hid (by unfold beforeB; rw [if_pos q])
    rw [HR.out]
    have g1 : (numC a != numC b) = false := by simpa using q
    clear q
    go_enter Tryz.func70, Tryz.ntmps70
    go_wp2_with (go_at_call 95; (first | (with_reducible refine (refnum_any L _ a _ _ _ HOK.out hl HIA.out HA.out).mono ?_) | (with_reducible refine (refnum_any L _ b _ _ _ HOK.out hl HIB.out HB.out).mono ?_)); rintro e w1 ⟨rfl, rfl⟩)
    go_loopw [5] (fun i wr => ∃ k : Nat, k ≤ a.length ∧ i = .int .i64 k ∧ Hid (∀ j, j < k → ig a j = ig b j) ∧ Below w.heap.size w wr) (fun i _ => a.length - (intOf i).toNat)
    case atStart => exact ⟨0, Nat.zero_le _, rfl, Lib.hid fun j hj => absurd hj (Nat.not_lt_zero _), Below.refl _ _⟩
    case round =>
      obtain ⟨k, hk, rfl, HS, hB⟩ := hrel
      by_cases hlt : k < a.length
      · obtain ⟨b1, o1, rfl, hb1, hx1⟩ := HA.out (by omega)
        obtain ⟨b2, o2, rfl, hb2, hx2⟩ := HB.out (by have := HE.out; omega)
        have d1 := (hB.cell (p := ⟨b1, o1 + k, none⟩) hb1).trans (hx1 k hlt)
        have d2 := (hB.cell (p := ⟨b2, o2 + k, none⟩) hb2).trans (hx2 k (by have := HE.out; omega))
        have j0 : (0 : Int) ≤ (k : Int) := by omega
        have j1 : (k : Int) < (a.length : Int) := by omega
        have j2 : (k : Int) < (b.length : Int) := by have := HE.out; omega
        have j3 : k < b.length := by have := HE.out; omega
        have HG := Lib.hid (HGO.out k hlt HS.out)
        have HN : Hid (ig a k = ig b k → ∀ j, j < k + 1 → ig a j = ig b j) := Lib.hid fun e j hj => by
          rcases Nat.lt_succ_iff_lt_or_eq.1 hj with h | rfl
          · exact HS.out j h
          · exact e
        clear hx1 hx2
        generalize ig a k = x at *
        generalize ig b k = y at *
        by_cases q : x = y
        · have HN1 := Lib.hid (HN.out q)
          clear HN HG
          subst q
          have g2 : (x != x) = false := bne_self_eq_false _
          go_wp2_with fail
          go_quiet (fail)
          go_wp2_with fail
          go_roundw
          case rel => exact ⟨k + 1, by omega, by go_num, HN1, below_drewN hB nq⟩
          case measure => simp [intOf]; omega
        · have g2 : (x != y) = true := bne_iff_ne.2 q
          have HR2 := Lib.hid (HG.out q)
          clear HN HG
          go_wp2_with fail
          go_quiet (fail)
          go_wp2_with fail
          have d3 : (wr.drewN nq).cell? ⟨b1, o1 + k, none⟩ = some (.int .i64 x) := d1
          have d4 : (wr.drewN nq).cell? ⟨b2, o2 + k, none⟩ = some (.int .i64 y) := d2
          have hB3 := below_drewN hB nq
          generalize wr.drewN nq = wz at *
          clear g2
          go_quiet (fail)
          go_wp2_with fail
          go_ret
          exact ⟨by rw [HR2.out]; rfl, below_drewN hB3 _⟩
      · obtain rfl : k = a.length := by omega
        have HR2 := Lib.hid (HEQ.out HS.out)
        go_wp2_with fail
        go_ret
        exact ⟨by rw [HR2.out]; rfl, hB⟩
  · have HR : Hid (beforeB a b = decide (numC a < numC b)) := Lib.hid (by unfold beforeB; rw [if_neg q])
    have g1 : (numC a != numC b) = true := by simpa using q
    rw [HR.out]
    go_enter Tryz.func70, Tryz.ntmps70
    go_wp2_with (go_at_call 95; (first | (with_reducible refine (refnum_any L _ a _ _ _ HOK.out hl HIA.out HA.out).mono ?_) | (with_reducible refine (refnum_any L _ b _ _ _ HOK.out hl HIB.out HB.out).mono ?_)); rintro e w1 ⟨rfl, rfl⟩)
    go_ret
    exact ⟨rfl, Below.refl _ _⟩
end Go.Proofs.YtbniclapaigkkaaGreat
