/-
  THE WALKS of slices.Backward at []api.Log and of inspect.last (a range over it that returns from its body), and of the reference's last: the last entry of a rope that has one of some kinds; -1 if there is none.
-/
import Derived.Test.YtfojipgbenbigaaDoorMem
namespace Go.Proofs.YtfojipgbenbigaaDoor
open Go.RowKit Go.Shelf
attribute [local go_sem] Oper.semAt_some

/-- What Backward has handed out when m entries are left. -/
def dn (n m : Nat) : List Nat := (List.range' m (n - m)).reverse
theorem dn_all (n : Nat) : dn n n = [] := by simp [dn]
theorem dn_succ (n m : Nat) (h : m < n) : dn n m = dn n (m + 1) ++ [m] := by
  unfold dn
  rw [show n - m = (n - (m + 1)) + 1 by omega, List.range'_succ, List.reverse_cons]
theorem dn_length (n m : Nat) : (dn n m).length = n - m := by simp [dn]
def logV (r : LogR) : Value := .agg #[.int .i64 r.day, .string r.rope, .int .i64 r.kind, .int .i64 r.runs]

set_option maxRecDepth 100000 in
set_option maxHeartbeats 2000000 in
theorem backward1_in (F : Fence) (n : Nat) (hF : F.fn 64) (hro : F.round = none) (hn : 1 ≤ n) (l Bs n₀ cap : Nat) (a : Option Addr) (L : List LogR) (hlen : L.length ≤ 1100) (J Jx : List Nat → World → Prop)
    (hY : ∀ (pre : List Nat) (x : Nat) (W : World), J pre W → pre.length < L.length → YieldAt F (n - 1) Tryd.prog l #[.int .i64 (x : Int), logV (lg L x)] W fun e W' =>
      (e = .returned (.bool true) ∧ J (pre ++ [x]) W' ∧ Below n₀ W W') ∨ (e = .returned (.bool false) ∧ Jx (pre ++ [x]) W'))
    (W : World) (hBs : W.cell? ⟨Bs, 0, none⟩ = some (.slice a L.length cap)) (hBl : Bs < n₀) (hc : Logs n₀ W a L) (h0 : J [] W) :
    CallsIn F n Tryd.prog 64 #[.func (.yield l) #[] #[], .pointer (some ⟨Bs, 0, none⟩)] W fun e W' => (∃ v, e = .returned v) ∧
      ((∃ ys, ys = dn L.length 0 ∧ J ys W') ∨ (∃ pre, (∃ k, k < L.length ∧ pre = dn L.length k) ∧ Jx pre W')) := by
  have HC := Lib.hid hc; clear hc
  refine callsIn_of_wp Tryd.func64 rfl hF ?_ hro
  simp only [Tryd.ntmps64, List.size_toArray, List.length_cons, List.length_nil, Nat.reduceAdd, Nat.reduceSub, Array.replicate_succ, Array.replicate_zero, List.push_toArray, List.append_toArray, List.nil_append, List.cons_append]
  gi_wp2
  gi_loopw [3] (fun i wr => ∃ m : Nat, m ≤ L.length ∧ i = .int .i64 ((m : Int) - 1) ∧ J (dn L.length m) wr ∧ Below n₀ W wr)
    (fun i _ => (intOf i + 1).toNat)
  case atStart => exact ⟨L.length, Nat.le_refl _, rfl, by rw [dn_all]; exact h0, Below.refl _ _⟩
  case round =>
    obtain ⟨m, hm, rfl, hJs, hnx⟩ := hrel
    rcases m with _ | m
    · rw [show (((0 : Nat) : Int) - 1) = -1 from rfl]
      gi_wp2
      go_end0
      exact ⟨⟨_, rfl⟩, .inl ⟨_, rfl, hJs⟩⟩
    · rw [show (((m + 1 : Nat) : Int) - 1) = (m : Int) from by omega]
      obtain ⟨b, off, rfl, hb, hcx⟩ := HC.out (by omega)
      obtain ⟨c0, c1, c2, c3⟩ := hcx m (by omega)
      have d0 := (hnx.cell (p := ⟨b, off + m * 4, none⟩) hb).trans c0
      have d1 := (hnx.cell (p := ⟨b, off + m * 4 + 1, none⟩) hb).trans c1
      have d2 := (hnx.cell (p := ⟨b, off + m * 4 + 2, none⟩) hb).trans c2
      have d3 := (hnx.cell (p := ⟨b, off + m * 4 + 3, none⟩) hb).trans c3
      have dB := (hnx.cell (p := ⟨Bs, 0, none⟩) hBl).trans hBs
      clear c0 c1 c2 c3 hcx
      obtain ⟨fn, tmps, assign, body, hy, hR⟩ := hY _ m wr hJs (by rw [dn_length]; omega)
      dsimp only [logV] at hy
      gi_wp2
      refine hR.mono ?_
      rintro e W3 (⟨rfl, hJ3, hk3⟩ | ⟨rfl, hJx3⟩)
      · gi_wp2
        go_roundw
        case rel => exact ⟨m, by omega, rfl, by rw [dn_succ _ _ (by omega)]; exact hJ3, hnx.trans hk3⟩
        case measure => simp [intOf]
      · gi_wp2
        refine bodyPost_ret (results_none rfl _ _ _) rfl ?_
        exact ⟨⟨_, rfl⟩, .inr ⟨_, ⟨m, by omega, (dn_succ _ _ (by omega)).symm⟩, hJx3⟩⟩

set_option maxHeartbeats 1000000 in
theorem backward_in (F : Fence) (n : Nat) (hF : F.fn 59) (hro : F.round = none) (a : Option Addr) (len cap : Nat) (w : World) :
    CallsIn F n Tryd.prog 59 #[.slice a len cap] w fun e w' => e = .returned (.func (.func 64) #[] #[.pointer (some ⟨w.heap.size, 0, none⟩)]) ∧ w' = w.alloc (.cells #[.slice a len cap] 35) := by
  refine callsIn_of_wp Tryd.func59 rfl hF ?_ hro
  simp only [Tryd.ntmps59, List.size_toArray, List.length_cons, List.length_nil, Nat.reduceAdd, Nat.reduceSub, Array.replicate_succ, Array.replicate_zero, List.push_toArray, List.append_toArray, List.nil_append, List.cons_append]
  gi_wp2
  go_ret
  exact ⟨rfl, rfl⟩

theorem backward_stops (F : Fence) (n : Nat) (hF : F.fn 64) (hro : F.round = none) (hn : 1 ≤ n) (Bs n₀ cap : Nat) (a : Option Addr) (L : List LogR) (hlen : L.length ≤ 1100) (w : World)
    (hc : w.cell? ⟨Bs, 0, none⟩ = some (.slice a L.length cap)) (hBl : Bs < n₀) (hn₀ : n₀ ≤ w.heap.size) (hI : Logs n₀ w a L) :
    SeqStopsK F n Tryd.prog 64 #[.pointer (some ⟨Bs, 0, none⟩)] (fun x : Nat => #[Value.int .i64 (x : Int), logV (lg L x)]) (Below n₀) (fun ys => ys = dn L.length 0) (fun pre => ∃ k, k < L.length ∧ pre = dn L.length k) L.length w :=
  fun l J Jx W hW _ _ hY h0 =>
    backward1_in F n hF hro hn l Bs n₀ cap a L hlen J Jx hY W ((hW.cell (p := ⟨Bs, 0, none⟩) (show Bs < w.heap.size by omega)).trans hc) hBl (hI.below (hW.mono hn₀)) h0

/-- Entry i is one of the rope, of one of the kinds. -/
def mt (L : List LogR) (rope : ByteArray) (ks : List Int) (i : Nat) : Bool := decide ((lg L i).rope = rope) && hasB ks (lg L i).kind
def lastTo (L : List LogR) (rope : ByteArray) (ks : List Int) : Nat → Int
  | 0 => -1
  | m + 1 => if mt L rope ks m then (m : Int) else lastTo L rope ks m
def lastI (L : List LogR) (rope : ByteArray) (ks : List Int) : Int := lastTo L rope ks L.length

theorem last_none (L : List LogR) (rope : ByteArray) (ks : List Int) (n m : Nat) (hm : m ≤ n) (h : ∀ y ∈ dn n m, mt L rope ks y = false) : lastTo L rope ks n = lastTo L rope ks m := by
  induction n with
  | zero => obtain rfl : m = 0 := by omega
            rfl
  | succ n ih =>
    rcases Nat.lt_or_ge m (n + 1) with hl | hl
    · have e : ∀ y, y ∈ dn (n + 1) m ↔ m ≤ y ∧ y < n + 1 := fun y => by simp only [dn, List.mem_reverse, List.mem_range'_1]; omega
      have e' : ∀ y, y ∈ dn n m ↔ m ≤ y ∧ y < n := fun y => by simp only [dn, List.mem_reverse, List.mem_range'_1]; omega
      have h0 := h n ((e n).2 (by omega))
      simp only [lastTo, h0]
      exact ih (by omega) (fun y hy => h y ((e y).2 (by have := (e' y).1 hy; omega)))
    · obtain rfl : m = n + 1 := by omega
      rfl
theorem str_eq (a b : ByteArray) : (a.toList == b.toList) = decide (a = b) := by
  rw [Bool.eq_iff_iff]
  simp only [beq_iff_eq, decide_eq_true_eq, ByteArray.toList_eq]
  refine ⟨fun h => ?_, fun h => by rw [h]⟩
  obtain ⟨⟨x⟩⟩ := a
  obtain ⟨⟨y⟩⟩ := b
  simp at h
  rw [h]

set_option maxRecDepth 100000 in
set_option maxHeartbeats 2000000 in
theorem last_any (a ka : Option Addr) (L : List LogR) (ks : List Int) (cap kcap : Nat) (rope : ByteArray) (w : World) (hlen : L.length ≤ 1100) (hkl : ks.length ≤ 1000) (hI : Logs w.heap.size w a L) (hK : Nums w.heap.size w ka ks) :
    Calls Tryd.prog 51 #[.slice a L.length cap, .string rope, .slice ka ks.length kcap] w fun e w' => e = .returned (.int .i64 (lastI L rope ks)) ∧ Below w.heap.size w w' := by
  refine (callsIn_wide (n := 5)).1 ?_
  refine callsIn_of_wp_marks Tryd.func51 rfl trivial ?_ rfl
  simp only [Tryd.ntmps51, List.size_toArray, List.length_cons, List.length_nil, Nat.reduceAdd, Nat.reduceSub, Array.replicate_succ, Array.replicate_zero, List.push_toArray, List.append_toArray, List.nil_append, List.cons_append]
  gi_wp2_with (refine ⟨trivial, ?_⟩; gi_at_call 59; refine (backward_in Fence.wide _ trivial rfl _ _ _ _).mono ?_; rintro e w' ⟨rfl, rfl⟩)
  obtain ⟨W0, hW0⟩ : ∃ W0, (((w.alloc (.cells #[.string rope] 9)).alloc (.cells #[.slice ka ks.length kcap] 78)).alloc (.cells #[.int .i64 0] 3)).alloc (.cells #[.slice a L.length cap] 35) = W0 := ⟨_, rfl⟩
  have hs0 : W0.heap.size = w.heap.size + 4 := by rw [← hW0]; simp
  have hb0 : Below w.heap.size w W0 := by
    rw [← hW0]
    exact ((((Below.refl _ w).alloc (Nat.le_refl _) _).alloc (by simp) _).alloc (by simp; omega) _).alloc (by simp; omega) _
  have c4 : W0.cell? ⟨w.heap.size, 0, none⟩ = some (.string rope) := by rw [← hW0]; simp [go_sem, World.cell?_alloc_past]
  have c5 : W0.cell? ⟨w.heap.size + 1, 0, none⟩ = some (.slice ka ks.length kcap) := by rw [← hW0]; simp [go_sem, World.cell?_alloc_past]
  have c6 : W0.cell? ⟨w.heap.size + 1 + 1, 0, none⟩ = some (.int .i64 0) := by rw [← hW0]; simp [go_sem, World.cell?_alloc_past]
  have f6 : W0.frozen? ⟨w.heap.size + 1 + 1, 0, none⟩ = false := by rw [← hW0]; simp [go_sem]
  have c7 : W0.cell? ⟨w.heap.size + 1 + 1 + 1, 0, none⟩ = some (.slice a L.length cap) := by rw [← hW0]; simp [go_sem]
  rw [hW0]
  have HI := Lib.hid (hI.below hb0); clear hI
  have HK := Lib.hid (hK.below hb0); clear hK
  clear hW0
  refine wpIn_rangeFunc_ownH (F := Fence.wide) (n := 5) rfl (by omega) (gf := 64) (lb := #[.pointer (some ⟨w.heap.size + 1 + 1 + 1, 0, none⟩)]) rfl trivial (enters_of Tryd.func64 (by kernel_rfl) rfl)
    (backward_stops Fence.wide (5 - 1) trivial rfl (by omega) (w.heap.size + 1 + 1 + 1) W0.heap.size cap a L hlen W0 c7 (by omega) (Nat.le_refl _) (HI.out.mono (by omega))) belowK_t (belowK_b (by omega)) (Below.refl _ _) (fun _ => rfl)
    (fun pre W => (∀ y ∈ pre, mt L rope ks y = false) ∧ Below W0.heap.size W0 W)
    (fun c pre W => c = .ret ∧ (∃ pre' x, pre = pre' ++ [x] ∧ (∀ y ∈ pre', mt L rope ks y = false) ∧ mt L rope ks x = true ∧ W.cell? ⟨w.heap.size + 1 + 1, 0, none⟩ = some (.int .i64 (x : Int))) ∧ Below w.heap.size w W)
    (OwnFrom.and (ownFrom_pure _ _) (ownFrom_below (Nat.le_refl _) (Nat.le_refl _)))
    (fun c s A B row hs hg hr => ⟨hs.1, let ⟨pre', x, e, h1, h2, h3⟩ := hs.2.1; ⟨pre', x, e, h1, h2, cell_kept h3 hg (fun r e => (hr r e).2)⟩, hs.2.2.grown hg hs.2.2.size (fun k e => by have := (hr k e).1; omega)⟩)
    ⟨(fun _ h => absurd h List.not_mem_nil), Below.refl _ _⟩
    (fun x a' W => ∃ Bx, W0.heap.size ≤ Bx ∧ W.cell? ⟨Bx, 0, none⟩ = some (.int .i64 (lg L x).day) ∧ W.cell? ⟨Bx, 1, none⟩ = some (.string (lg L x).rope) ∧ W.cell? ⟨Bx, 2, none⟩ = some (.int .i64 (lg L x).kind) ∧ a' = { tmps := #[.slice a L.length cap, .string rope, .slice ka ks.length kcap, undef, .pointer (some ⟨w.heap.size, 0, none⟩), .pointer (some ⟨w.heap.size + 1, 0, none⟩), .pointer (some ⟨w.heap.size + 1 + 1, 0, none⟩), .int .i64 (x : Int), .pointer (some ⟨Bx, 0, none⟩), .slice a L.length cap, .func (.func 64) #[] #[.pointer (some ⟨w.heap.size + 1 + 1 + 1, 0, none⟩)], .int .i64 (x : Int), logV (lg L x), undef, undef, undef, undef, undef, undef, undef, undef, undef, undef, undef], defers := [] })
    (fun x a' s A B row hs hg hr => let ⟨Bx, h0, h1, h2, h3, h4⟩ := hs; ⟨Bx, h0, cell_kept h1 hg (fun r e => (hr r e).2), cell_kept h2 hg (fun r e => (hr r e).2), cell_kept h3 hg (fun r e => (hr r e).2), h4⟩) ?assign ?body ?done ?stop
  case assign =>
    rintro l pre x W K ⟨hp, hB⟩ hK
    dsimp only [logV] at hK ⊢
    gi_wp2
    refine hK _ _ ((KeepsOthers.alloc _ _).from _) ((Below.refl _ W).alloc hB.size _) ⟨hp, hB.alloc hB.size _⟩ ⟨W.heap.size, hB.size, ?_, ?_, ?_, rfl⟩
    all_goals simp [go_sem]
  case body =>
    rintro l pre x a' W hl hr ⟨hp, hB⟩ ⟨Bx, hBx, d0, d1, d2, rfl⟩ hlt
    have e4 := (hB.cell (p := ⟨w.heap.size, 0, none⟩) (show w.heap.size < _ by omega)).trans c4
    have e5 := (hB.cell (p := ⟨w.heap.size + 1, 0, none⟩) (show w.heap.size + 1 < _ by omega)).trans c5
    have e6 := (hB.cell (p := ⟨w.heap.size + 1 + 1, 0, none⟩) (show w.heap.size + 1 + 1 < _ by omega)).trans c6
    have e6f := (hB.frozen (p := ⟨w.heap.size + 1 + 1, 0, none⟩) (show w.heap.size + 1 + 1 < _ by omega)).trans f6
    have HK' := Lib.hid (HK.out.below (hB.mono (by omega)))
    clear c4 c5 c6 f6 c7 hr
    have hBw : Below w.heap.size w W := hb0.trans (hB.mono (by omega))
    have Hp := Lib.hid hp; clear hp
    obtain ⟨b1, hb1⟩ : ∃ b, decide ((lg L x).rope = rope) = b := ⟨_, rfl⟩
    obtain ⟨b2, hb2⟩ : ∃ b, hasB ks (lg L x).kind = b := ⟨_, rfl⟩
    have hs1 := str_eq (lg L x).rope rope
    have hmt : Hid (mt L rope ks x = (b1 && b2)) := Lib.hid (by unfold mt; rw [hb1, hb2])
    rw [hb1] at hs1
    clear hb1
    cases b1
    · gi_wp2_with fail
      refine ⟨trivial, ?_⟩
      gi_wp2_with fail
      exact ⟨KeepsFrom.refl _ _, Below.refl _ _, fun y hy => (List.mem_append.1 hy).elim (Hp.out y) (fun e => (show y = x by simpa using e) ▸ hmt.out), hB⟩
    · cases b2
      · gi_wp2_with (refine ⟨trivial, ?_⟩; gi_at_call 60; refine (CallsIn.inRound l (callsIn_wide.2 (contains_any _ _ _ _ w.heap.size _ hkl HK'.out))).mono ?_; rintro e w' ⟨rfl, rfl⟩)
        exact ⟨KeepsFrom.refl _ _, Below.refl _ _, fun y hy => (List.mem_append.1 hy).elim (Hp.out y) (fun e => (show y = x by simpa using e) ▸ hmt.out), hB⟩
      · gi_wp2_with (refine ⟨trivial, ?_⟩; gi_at_call 60; refine (CallsIn.inRound l (callsIn_wide.2 (contains_any _ _ _ _ w.heap.size _ hkl HK'.out))).mono ?_; rintro e w' ⟨rfl, rfl⟩)
        exact ⟨(KeepsOthers.setCell _ _ _).from _, rfl, ⟨pre, x, rfl, Hp.out, by rw [hmt.out]; rfl, World.cell?_setCell_same' _ _ _ (by rw [e6]; rfl)⟩, hBw.setCell (by simp; omega) _⟩
  case done =>
    rintro D ys W hD rfl ⟨hp, hB⟩ hK
    have H : Hid (lastI L rope ks = -1) := Lib.hid (by unfold lastI; rw [last_none L rope ks _ 0 (Nat.zero_le _) hp]; rfl)
    clear hp
    have e6 := (hB.cell (p := ⟨w.heap.size + 1 + 1, 0, none⟩) (show w.heap.size + 1 + 1 < _ by omega)).trans c6
    have e6f := (hB.frozen (p := ⟨w.heap.size + 1 + 1, 0, none⟩) (show w.heap.size + 1 + 1 < _ by omega)).trans f6
    have hBw : Below w.heap.size w W := hb0.trans (hB.mono (by omega))
    clear c4 c5 c6 f6 c7
    gi_wp2
    have hK' := (KeepsOthers.setCell W ⟨w.heap.size + 1 + 1, 0, none⟩ (.int .i64 (-1))).same D _ hK rfl
    refine ⟨by simp, .inl ⟨_, _, rfl, run_takeDeferred hK', ?_⟩⟩
    have hc5 := cell_kept (World.cell?_setCell_same' W ⟨w.heap.size + 1 + 1, 0, none⟩ (.int .i64 (-1)) (by rw [e6]; rfl)) (grownBy_putObj' _ D (.deferred none)) (fun r e => by cases e; exact ⟨_, hK', rfl⟩)
    refine ⟨.int .i64 (-1), ?_, by rw [H.out], ((hBw.setCell (by simp; omega) _).trans (belowK_b (w := w) (Nat.le_refl _) _ D _ _ (by omega) hK' rfl rfl))⟩
    simp [results, Tryd.f51, go_sem, hc5]
  case stop =>
    rintro D c pre W hD ⟨k, hk, rfl⟩ ⟨rfl, ⟨pre', x, e, h1, h2, h3⟩, hBw⟩ hK
    rw [dn_succ _ _ hk] at e
    obtain ⟨e1, e2⟩ := List.append_inj' e rfl
    obtain rfl : k = x := by simpa using e2
    have H : Hid (lastI L rope ks = k) := Lib.hid (by unfold lastI; rw [last_none L rope ks _ (k + 1) (by omega) (by rw [e1]; exact h1)]; simp [lastTo, h2])
    clear h1 h2 e e1 e2
    clear c4 c5 c6 f6 c7
    gi_wp2
    refine ⟨by simp, .inl ⟨_, _, rfl, run_takeDeferred hK, ?_⟩⟩
    have hc5 := cell_kept h3 (grownBy_putObj' _ D (.deferred none)) (fun r e => by cases e; exact ⟨_, hK, rfl⟩)
    refine ⟨.int .i64 k, ?_, by rw [H.out], hBw.trans (belowK_b (w := w) (Nat.le_refl _) _ D _ _ (by omega) hK rfl rfl)⟩
    simp [results, Tryd.f51, go_sem, hc5]
end Go.Proofs.YtfojipgbenbigaaDoor
