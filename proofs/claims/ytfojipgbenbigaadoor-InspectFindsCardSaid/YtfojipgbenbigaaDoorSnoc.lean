/-
  PLAIN: what an entry more does to a log: validity, the last entries, the runs, the due day.
-/
import Derived.Test.YtfojipgbenbigaaDoorLawC
namespace Go.Proofs.YtfojipgbenbigaaDoor

theorem lg_old (L : List LogR) (x : LogR) (i : Nat) (h : i < L.length) : lg (L ++ [x]) i = lg L i := by
  unfold lg; rw [List.getElem?_append_left h]
theorem lg_new (L : List LogR) (x : LogR) : lg (L ++ [x]) L.length = x := by
  unfold lg; simp
theorem mt_old (L : List LogR) (x : LogR) (rope : ByteArray) (ks : List Int) (i : Nat) (h : i < L.length) : mt (L ++ [x]) rope ks i = mt L rope ks i := by unfold mt; rw [lg_old L x i h]
theorem lastTo_old (L : List LogR) (x : LogR) (rope : ByteArray) (ks : List Int) (m : Nat) (h : m ≤ L.length) : lastTo (L ++ [x]) rope ks m = lastTo L rope ks m := by
  induction m with
  | zero => rfl
  | succ m ih =>
    show (if mt (L ++ [x]) rope ks m then (m : Int) else lastTo (L ++ [x]) rope ks m) = (if mt L rope ks m then (m : Int) else lastTo L rope ks m)
    rw [mt_old L x rope ks m (by omega), ih (by omega)]
theorem retTo_old (L : List LogR) (x : LogR) (rope : ByteArray) (m : Nat) (h : m ≤ L.length) : retTo (L ++ [x]) rope m = retTo L rope m := by
  unfold retTo
  rw [lastTo_old L x rope _ m h]
  rcases last_cases L rope [2, 4] m with ⟨e, _⟩ | ⟨k, hk, e, _⟩
  · rw [e]; rfl
  · rw [e, Int.toNat_natCast, lg_old L x k (by omega)]
theorem vTo_old (L : List LogR) (x : LogR) (m : Nat) (h : m ≤ L.length) : vTo (L ++ [x]) m = vTo L m := by
  induction m with
  | zero => rfl
  | succ m ih =>
    show (vTo (L ++ [x]) m && (headOK (L ++ [x]) m && runsOK (L ++ [x]) m && stateOK (L ++ [x]) m)) = (vTo L m && (headOK L m && runsOK L m && stateOK L m))
    have e : lg (L ++ [x]) m = lg L m := lg_old L x m (by omega)
    have e1 : headOK (L ++ [x]) m = headOK L m := by
      unfold headOK
      rw [e]
      rcases Nat.eq_zero_or_pos m with hz | hp
      · subst hz; rfl
      · rw [lg_old L x (m - 1) (by omega)]
    have e2 : runsOK (L ++ [x]) m = runsOK L m := by unfold runsOK; rw [e]
    have e3 : stateOK (L ++ [x]) m = stateOK L m := by unfold stateOK; rw [e, retTo_old L x _ m (by omega)]
    rw [ih (by omega), e1, e2, e3]
theorem snoc_valid (L : List LogR) (x : LogR) (h : validB (L ++ [x]) = true) : validB L = true ∧ headOK (L ++ [x]) L.length = true ∧ runsOK (L ++ [x]) L.length = true ∧ stateOK (L ++ [x]) L.length = true := by
  unfold validB at h
  simp only [Bool.and_eq_true, decide_eq_true_eq, List.length_append, List.length_singleton] at h
  have hv : (vTo (L ++ [x]) L.length && (headOK (L ++ [x]) L.length && runsOK (L ++ [x]) L.length && stateOK (L ++ [x]) L.length)) = true := h.2
  simp only [Bool.and_eq_true] at hv
  refine ⟨?_, hv.2.1.1, hv.2.1.2, hv.2.2⟩
  unfold validB
  rw [vTo_old L x _ (Nat.le_refl _)] at hv
  rw [hv.1, decide_eq_true (by omega)]
  rfl
theorem snoc_first (L : List LogR) (x : LogR) : firstI (L ++ [x]) x.rope ≠ -1 := by
  have := first_not (L ++ [x]) L.length (by simp)
  rwa [lg_new] at this
theorem snoc_given (L : List LogR) (x : LogR) (h : validB (L ++ [x]) = true) : givenI (L ++ [x]) x.rope = 0 := (given_zero _ _).2 ⟨h, snoc_first L x⟩
theorem snoc_ret (L : List LogR) (x : LogR) (h : validB (L ++ [x]) = true) : retB (L ++ [x]) x.rope = (x.kind == 4) := by
  have hs := (snoc_valid L x h).2.2.2
  have := ret_succ (L ++ [x]) L.length x.rope hs
  rw [lg_new, if_pos rfl] at this
  unfold retB
  rw [List.length_append, List.length_singleton]
  exact this.symm
theorem snoc_last (L : List LogR) (x : LogR) (ks : List Int) : lastI (L ++ [x]) x.rope ks = if hasB ks x.kind then (L.length : Int) else lastI L x.rope ks := by
  unfold lastI
  rw [List.length_append, List.length_singleton]
  show (if mt (L ++ [x]) x.rope ks L.length then (L.length : Int) else lastTo (L ++ [x]) x.rope ks L.length) = _
  rw [lastTo_old L x _ _ _ (Nat.le_refl _)]
  have : mt (L ++ [x]) x.rope ks L.length = hasB ks x.kind := by unfold mt; rw [lg_new, decide_eq_true rfl, Bool.true_and]
  rw [this]
theorem snoc_due (L : List LogR) (x : LogR) (every : Int) (hk : x.kind = 1 ∨ x.kind = 2) : dueI (L ++ [x]) x.rope every = x.day + every := by
  have h := snoc_last L x [1, 2]
  rw [hasB_two, show ((x.kind == 1) || (x.kind == 2)) = true by rcases hk with e | e <;> simp [e], if_pos rfl] at h
  rw [due_at (L ++ [x]) x.rope every L.length h, lg_new]
theorem runsFrom_old (L : List LogR) (x : LogR) (rope : ByteArray) (s k : Nat) (h : s + k ≤ L.length) : runsFrom (L ++ [x]) rope s k = runsFrom L rope s k := by
  induction k with
  | zero => rfl
  | succ k ih => rw [runsFrom_eq, runsFrom_eq, ih (by omega), lg_old L x (s + k) (by omega)]
theorem snoc_worn2 (L : List LogR) (x : LogR) (hk : x.kind = 2) : wornI (L ++ [x]) x.rope = 0 := by
  have h := snoc_last L x [2]
  rw [show hasB [2] x.kind = true by unfold hasB; simp [hk], if_pos rfl] at h
  unfold wornI
  rw [h, List.length_append, List.length_singleton, show ((L.length : Int) + 1).toNat = L.length + 1 by omega, Nat.sub_self]
  rfl
theorem snoc_worn (L : List LogR) (x : LogR) (hk : x.kind ≠ 2) : wornI (L ++ [x]) x.rope = wornI L x.rope + x.runs := by
  have h := snoc_last L x [2]
  rw [show hasB [2] x.kind = false by unfold hasB; simp [hk], if_neg (by simp)] at h
  obtain ⟨s, hs, hsl⟩ := last_bd L x.rope [2] L.length
  have hs' : lastI L x.rope [2] + 1 = s := hs
  unfold wornI
  rw [h, hs', Int.toNat_natCast, List.length_append, List.length_singleton, show L.length + 1 - s = (L.length - s) + 1 by omega, runsFrom_eq, runsFrom_old L x x.rope s _ (by omega), show s + (L.length - s) = L.length by omega, lg_new, if_pos rfl]
theorem worn_none (L : List LogR) (rope : ByteArray) (h : firstI L rope = -1) : wornI L rope = 0 := by
  have hn : ∀ j, j < L.length → (lg L j).rope ≠ rope := by
    rcases first_cases L rope with ⟨_, h'⟩ | ⟨k, _, h', _⟩
    · exact h'
    · omega
  have : ∀ s k, s + k ≤ L.length → runsFrom L rope s k = 0 := fun s k => by
    induction k with
    | zero => exact fun _ => rfl
    | succ k ih => exact fun hk => by rw [runsFrom_eq, ih (by omega), if_neg (hn _ (by omega))]; rfl
  obtain ⟨s, hs, hsl⟩ := last_bd L rope [2] L.length
  have hs' : lastI L rope [2] + 1 = s := hs
  unfold wornI
  rw [hs', Int.toNat_natCast]
  exact this _ _ (by omega)
theorem worn_bd (L : List LogR) (rope : ByteArray) (ht : Tame L) (hl : L.length ≤ 1100) : 0 ≤ wornI L rope ∧ wornI L rope ≤ 1100000000 := by
  obtain ⟨s, hs, hsl⟩ := last_bd L rope [2] L.length
  have hs' : lastI L rope [2] + 1 = s := hs
  unfold wornI
  rw [hs', Int.toNat_natCast]
  have := runsFrom_bd L rope s ht (L.length - s) (by omega)
  omega
end Go.Proofs.YtfojipgbenbigaaDoor
