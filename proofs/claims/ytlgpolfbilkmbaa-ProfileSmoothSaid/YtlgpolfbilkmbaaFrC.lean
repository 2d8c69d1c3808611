/-
  PLAIN: the values and the slopes that package quadratic reckons are those of the curve over the rational numbers.
-/
import Derived.Test.YtlgpolfbilkmbaaFrR
import Derived.Test.YtlgpolfbilkmbaaQuad4
namespace Go.Proofs.Ytlgpolfbilkmbaa

def qp (p : Pc) : QP := ⟨fr (p.f0, p.f1), fr (p.a0, p.a1), fr (p.b0, p.b1), fr (p.c0, p.c1)⟩
def qL (L : List Pc) : List QP := L.map qp
theorem qL_len (L : List Pc) : (qL L).length = L.length := by simp [qL]
theorem qL_get (L : List Pc) (i : Nat) (h : i < (qL L).length) : (qL L)[i] = qp (pcg L i) := by
  have h' : i < L.length := by rwa [qL_len] at h
  have e : pcg L i = L[i] := by unfold pcg; simp [h']
  rw [e]
  simp [qL]
theorem PcOK.vf {p : Pc} (h : PcOK p) : vF (p.f0, p.f1) = true := h.f
theorem PcOK.va {p : Pc} (h : PcOK p) : vF (p.a0, p.a1) = true := h.a
theorem PcOK.vb {p : Pc} (h : PcOK p) : vF (p.b0, p.b1) = true := h.b
theorem PcOK.vc {p : Pc} (h : PcOK p) : vF (p.c0, p.c1) = true := h.c
/-- The times of a curve ascend. -/
def Asc (L : List QP) : Prop := ∀ i (h : i + 1 < L.length), L[i].f < L[i + 1].f
theorem Asc.tail {p : QP} {L : List QP} (h : Asc (p :: L)) : Asc L := fun i hi => h (i + 1) (by simp only [List.length_cons]; omega)
theorem Asc.head {p : QP} {L : List QP} (h : Asc (p :: L)) : ∀ k (hk : k < L.length), p.f < L[k].f := by
  intro k
  induction k with
  | zero => intro hk; exact h 0 (by simp only [List.length_cons]; omega)
  | succ k ih =>
    intro hk
    have a := ih (by omega)
    have b := h.tail k hk
    grind
theorem atL_at : ∀ (L : List QP) (k : Nat) (hk : k < L.length) (t : Rat), Asc L → L[k].f ≤ t → (∀ j (hj : j < L.length), k < j → t < L[j].f) → atL L t = qv L[k] t ∧ slL L t = qs L[k] t
  | [p], 0, _, t, _, h, _ => by
    simp only [List.getElem_cons_zero] at h ⊢
    rw [atL, if_pos h, slL, if_pos h]
    exact ⟨rfl, rfl⟩
  | p :: q :: r, 0, _, t, _, h, g => by
    have g1 := g 1 (by simp) (by omega)
    simp only [List.getElem_cons_zero, List.getElem_cons_succ] at h g1 ⊢
    have n : ¬ q.f ≤ t := Rat.not_le.2 g1
    rw [atL, if_neg n, if_pos h, slL, if_neg n, if_pos h]
    exact ⟨rfl, rfl⟩
  | p :: q :: r, k + 1, hk, t, a, h, g => by
    have hk' : k < (q :: r).length := by simp only [List.length_cons] at hk ⊢; omega
    have h' : (q :: r)[k].f ≤ t := h
    have c : q.f ≤ t := by
      rcases Nat.eq_zero_or_pos k with z | z
      · subst z; exact h'
      · obtain ⟨k, rfl⟩ : ∃ m, k = m + 1 := ⟨k - 1, by omega⟩
        have kr : k < r.length := by simp only [List.length_cons] at hk'; omega
        have := a.tail.head k kr
        have e : (q :: r)[k + 1].f = (r[k]'kr).f := rfl
        grind
    rw [atL, if_pos c, slL, if_pos c]
    exact atL_at (q :: r) k hk' t a.tail h' (fun j hj kj => g (j + 1) (by simp only [List.length_cons] at hj ⊢; omega) (by omega))
theorem atL_before (L : List QP) (t : Rat) (h0 : 0 < L.length) (a : Asc L) (h : t < L[0].f) : atL L t = headA L ∧ slL L t = 0 := by
  match L, h0, a, h with
  | [p], _, _, h =>
    simp only [List.getElem_cons_zero] at h
    have n := Rat.not_le.2 h
    simp only [atL, slL, headA, if_neg n]
    exact ⟨trivial, trivial⟩
  | p :: q :: r, _, a, h =>
    simp only [List.getElem_cons_zero] at h
    have b := a 0 (by simp)
    simp only [List.getElem_cons_zero, List.getElem_cons_succ] at b
    have n := Rat.not_le.2 h
    have n2 := Rat.not_le.2 (show t < q.f by grind)
    simp only [atL, slL, headA, if_neg n, if_neg n2]
    exact ⟨trivial, trivial⟩
theorem CurveOK.asc' {L : List Pc} (ok : CurveOK L) : Asc (qL L) := fun i h => by
  have h' : i + 1 < L.length := by rwa [qL_len] at h
  rw [qL_get, qL_get]
  exact (frq_lt (a := ((pcg L i).f0, (pcg L i).f1)) (b := ((pcg L (i + 1)).f0, (pcg L (i + 1)).f1)) (den_pos (ok.val i (by omega)).vf) (den_pos (ok.val (i + 1) h').vf)).2 (ok.asc i h')
theorem pieceN_spec (L : List Pc) (t : Int × Int) (k : Nat) : (∀ j, j < k → pieceN L t k < (j : Int) → ¬ (pcg L j).f0 * t.2 ≤ t.1 * (pcg L j).f1) ∧ (0 ≤ pieceN L t k → (pcg L (pieceN L t k).toNat).f0 * t.2 ≤ t.1 * (pcg L (pieceN L t k).toNat).f1) := by
  induction k with
  | zero => exact ⟨fun j h => absurd h (by omega), fun h => by unfold pieceN at h; omega⟩
  | succ k ih =>
    unfold pieceN
    split
    next h => exact ⟨fun j h1 h2 => absurd h1 (by omega), fun _ => by simpa using h⟩
    next h =>
      refine ⟨fun j h1 h2 => ?_, ih.2⟩
      rcases Nat.lt_or_eq_of_le (Nat.le_of_lt_succ h1) with l | l
      · exact ih.1 j l h2
      · subst l; exact h
theorem resV_ok {v : (Int × Int) × Int} (h : (resV v).2.2 = 0) : v.2 = 0 ∧ ((resV v).1, (resV v).2.1) = v.1 := by
  have z : v.2 = 0 := h
  refine ⟨z, ?_⟩
  unfold resV
  rw [if_pos z, if_pos z]
theorem valAt_ok {L : List Pc} (ok : CurveOK L) {t : Int × Int} (vt : vF t = true) {i : Nat} (hi : i < L.length) (h : (valAt L t i).2.2 = 0) : fr ((valAt L t i).1, (valAt L t i).2.1) = qv (qp (pcg L i)) (fr t) := by
  obtain ⟨z, e⟩ := resV_ok h
  have v := ok.val i hi
  unfold valAt
  rw [e]
  obtain ⟨z1, e1⟩ := kVal_ok v.va v.vb v.vc (kSub_valid vt v.vf) z
  obtain ⟨_, e2⟩ := kSub_ok (den_pos vt) (den_pos v.vf) z1
  rw [e1, e2]
  rfl
theorem slopeAt_ok {L : List Pc} (ok : CurveOK L) {t : Int × Int} (vt : vF t = true) {i : Nat} (hi : i < L.length) (h : (slopeAt L t i).2.2 = 0) : fr ((slopeAt L t i).1, (slopeAt L t i).2.1) = qs (qp (pcg L i)) (fr t) := by
  obtain ⟨z, e⟩ := resV_ok h
  have v := ok.val i hi
  unfold slopeAt
  rw [e]
  obtain ⟨z1, e1⟩ := kSlope_ok v.vb v.vc (kSub_valid vt v.vf) z
  obtain ⟨_, e2⟩ := kSub_ok (den_pos vt) (den_pos v.vf) z1
  rw [e1, e2]
  rfl
theorem headA_qL {L : List Pc} (h : 1 ≤ L.length) : headA (qL L) = fr ((pcg L 0).a0, (pcg L 0).a1) := by
  cases L with
  | nil => simp at h
  | cons p r => rfl
/-- Ahead of the first time, or at a piece. -/
theorem piece_cases {L : List Pc} (ok : CurveOK L) {t : Int × Int} (vt : vF t = true) :
    (pieceN L t L.length < 0 ∧ atL (qL L) (fr t) = fr ((pcg L 0).a0, (pcg L 0).a1) ∧ slL (qL L) (fr t) = 0) ∨
    (¬ pieceN L t L.length < 0 ∧ (pieceN L t L.length).toNat < L.length ∧ atL (qL L) (fr t) = qv (qp (pcg L (pieceN L t L.length).toNat)) (fr t) ∧ slL (qL L) (fr t) = qs (qp (pcg L (pieceN L t L.length).toNat)) (fr t)) := by
  obtain ⟨s1, s2⟩ := pieceN_spec L t L.length
  obtain ⟨r1, r2⟩ := pieceN_range L t L.length
  have hp := ok.pos
  by_cases c : pieceN L t L.length < 0
  · left
    have h0 := s1 0 (by omega) (by simpa using c)
    have h1 : fr t < ((qL L)[0]'(by rw [qL_len]; omega)).f := by
      rw [qL_get]
      exact (frq_lt (a := t) (b := ((pcg L 0).f0, (pcg L 0).f1)) (den_pos vt) (den_pos (ok.val 0 (by omega)).vf)).2 (by show t.1 * (pcg L 0).f1 < (pcg L 0).f0 * t.2; omega)
    obtain ⟨a, b⟩ := atL_before (qL L) (fr t) (by rw [qL_len]; omega) ok.asc' h1
    exact ⟨c, by rw [a, headA_qL hp], b⟩
  · right
    obtain ⟨k, hk⟩ : ∃ k : Nat, (pieceN L t L.length).toNat = k := ⟨_, rfl⟩
    have hkl : k < L.length := by omega
    have s2' := s2 (by omega)
    rw [hk] at s2' ⊢
    have vk := (ok.val k hkl).vf
    have a1 : ((qL L)[k]'(by rw [qL_len]; exact hkl)).f ≤ fr t := by
      rw [qL_get]
      exact (frq_le (a := ((pcg L k).f0, (pcg L k).f1)) (b := t) (den_pos vk) (den_pos vt)).2 s2'
    have a2 : ∀ j (hj : j < (qL L).length), k < j → fr t < (qL L)[j].f := fun j hj kj => by
      rw [qL_get]
      have hj' : j < L.length := by rwa [qL_len] at hj
      have := s1 j hj' (by omega)
      exact (frq_lt (a := t) (b := ((pcg L j).f0, (pcg L j).f1)) (den_pos vt) (den_pos (ok.val j hj').vf)).2 (by show t.1 * (pcg L j).f1 < (pcg L j).f0 * t.2; omega)
    obtain ⟨x, y⟩ := atL_at (qL L) k (by rw [qL_len]; exact hkl) (fr t) ok.asc' a1 a2
    rw [qL_get] at x y
    exact ⟨c, hkl, x, y⟩
/-- A value that At gives is the curve's. -/
theorem atP_ok {L : List Pc} (ok : CurveOK L) {t : Int × Int} (vt : vF t = true) (h : (atP L t).2.2 = 0) : fr ((atP L t).1, (atP L t).2.1) = atL (qL L) (fr t) := by
  unfold atP at h ⊢
  rw [if_pos vt] at h ⊢
  rcases piece_cases ok vt with ⟨c, e, _⟩ | ⟨c, hk, e, _⟩
  · rw [if_pos c, e]
  · rw [if_neg c] at h ⊢
    rw [e]
    exact valAt_ok ok vt hk h
theorem slopeP_ok {L : List Pc} (ok : CurveOK L) {t : Int × Int} (vt : vF t = true) (h : (slopeP L t).2.2 = 0) : fr ((slopeP L t).1, (slopeP L t).2.1) = slL (qL L) (fr t) := by
  unfold slopeP at h ⊢
  rw [if_pos vt] at h ⊢
  rcases piece_cases ok vt with ⟨c, _, e⟩ | ⟨c, hk, _, e⟩
  · rw [if_pos c, e, ← frq_zero]
  · rw [if_neg c] at h ⊢
    rw [e]
    exact slopeAt_ok ok vt hk h
/-- An error is ErrBig. -/
theorem kp_err {e p q : Int} (h : e = 0 ∨ e = 5) : (kp e (fitP p q)).2 = 0 ∨ (kp e (fitP p q)).2 = 5 := by
  have f := fit_valid (p := p) (q := q)
  unfold kp
  split
  · exact h
  · simp only
    split <;> omega
theorem kAdd_err {e : Int} {a b : Int × Int} (h : e = 0 ∨ e = 5) : (kAdd e a b).2 = 0 ∨ (kAdd e a b).2 = 5 := kp_err h
theorem kSub_err {e : Int} {a b : Int × Int} (h : e = 0 ∨ e = 5) : (kSub e a b).2 = 0 ∨ (kSub e a b).2 = 5 := kp_err h
theorem kMul_err {e : Int} {a b : Int × Int} (h : e = 0 ∨ e = 5) : (kMul e a b).2 = 0 ∨ (kMul e a b).2 = 5 := kp_err h
theorem kVal_err {e : Int} {A B C u : Int × Int} (h : e = 0 ∨ e = 5) : (kVal e A B C u).2 = 0 ∨ (kVal e A B C u).2 = 5 := kAdd_err (kMul_err (kAdd_err (kMul_err h)))
theorem kSlope_err {e : Int} {B C u : Int × Int} (h : e = 0 ∨ e = 5) : (kSlope e B C u).2 = 0 ∨ (kSlope e B C u).2 = 5 := kAdd_err (kMul_err (kMul_err h))
theorem atP_err {L : List Pc} {t : Int × Int} (vt : vF t = true) : (atP L t).2.2 = 0 ∨ (atP L t).2.2 = 5 := by
  unfold atP
  rw [if_pos vt]
  split
  · exact .inl rfl
  · exact kVal_err (kSub_err (.inl rfl))
theorem slopeP_err {L : List Pc} {t : Int × Int} (vt : vF t = true) : (slopeP L t).2.2 = 0 ∨ (slopeP L t).2.2 = 5 := by
  unfold slopeP
  rw [if_pos vt]
  split
  · exact .inl rfl
  · exact kSlope_err (kSub_err (.inl rfl))
/-- A value is in lowest terms. -/
theorem resV_valid {v : (Int × Int) × Int} (h : (resV v).2.2 = 0) (hv : vF v.1 = true) : vF ((resV v).1, (resV v).2.1) = true := by
  rw [(resV_ok h).2]; exact hv
theorem atP_valid {L : List Pc} (ok : CurveOK L) {t : Int × Int} (vt : vF t = true) (h : (atP L t).2.2 = 0) : vF ((atP L t).1, (atP L t).2.1) = true := by
  unfold atP at h ⊢
  rw [if_pos vt] at h ⊢
  rcases piece_cases ok vt with ⟨c, _, _⟩ | ⟨c, hk, _, _⟩
  · rw [if_pos c]; exact (ok.val 0 (by have := ok.pos; omega)).va
  · rw [if_neg c] at h ⊢
    have v := ok.val _ hk
    exact resV_valid h (kVal_valid v.va v.vb v.vc (kSub_valid vt v.vf))
theorem slopeP_valid {L : List Pc} (ok : CurveOK L) {t : Int × Int} (vt : vF t = true) (h : (slopeP L t).2.2 = 0) : vF ((slopeP L t).1, (slopeP L t).2.1) = true := by
  unfold slopeP at h ⊢
  rw [if_pos vt] at h ⊢
  rcases piece_cases ok vt with ⟨c, _, _⟩ | ⟨c, hk, _, _⟩
  · rw [if_pos c]; exact vF_zero
  · rw [if_neg c] at h ⊢
    have v := ok.val _ hk
    exact resV_valid h (kSlope_valid v.vb v.vc (kSub_valid vt v.vf))
end Go.Proofs.Ytlgpolfbilkmbaa
