/-
  THE WALKS of the reference's next and put (26).
-/
import Derived.Test.YtbniclapaigkkaaGreatSumW
import Derived.Test.YtbniclapaigkkaaGreatBrickF
import Derived.Test.YtbniclapaigkkaaGreatSearch
import Derived.Laws.AppendOwnNone
namespace Go.Proofs.YtbniclapaigkkaaGreat
open Go.RowKit Go.Shelf
/-- A slice that holds these numbers. -/
def NumsV (n₀ : Nat) (w : World) (v : Value) (L : List Int) : Prop := ∃ a cap, v = .slice a L.length cap ∧ L.length ≤ cap ∧ cap ≤ maxLen ∧ (a = none → cap = 0) ∧ Nums n₀ w a L
theorem NumsV.of_row {w : World} {base : Nat} {v : Value} {L : List Int} (h : w.ownsRow base 3 1 v L.length (nflat L)) : NumsV w.heap.size w v L := num_of_row h
theorem NumsV.grow {w w' : World} {v : Value} {L : List Int} (h : NumsV w.heap.size w v L) (hb : Below w.heap.size w w') : NumsV w'.heap.size w' v L := by
  obtain ⟨a, cap, h1, h2, h3, h4, h5⟩ := h
  exact ⟨a, cap, h1, h2, h3, h4, h5.grow hb⟩
theorem NumsV.of_own {w : World} {base n : Nat} {v : Value} {L : List Int} (h : w.ownsRow base 3 1 v n (nflat L)) (hn : L.length = n) : NumsV w.heap.size w v L := by
  subst hn
  exact num_of_row h
theorem NumsV.nil {n₀ : Nat} {w : World} : NumsV n₀ w (.slice none 0 0) [] := ⟨none, 0, rfl, Nat.le_refl _, Nat.zero_le _, fun _ => rfl, Nums.nil⟩
theorem num_appends {ops : Array Oper} {rest : List Oper} {o : Oper} {a : Act} {w : World} {Q : Exit → Act → World → Prop} (hgd : o.guard = none) (s x : Operand)
    (ho : o.op = .call { callee := .builtin .append, args := #[s, x], argTypes := #[22, 22] })
    (base : Nat) (v : Value) (L : List (Int)) (hs : a.eval s = v) (hown : w.ownsRow base 3 1 v L.length (nflat L))
    (ax : Option Addr) (X : List Int) (m cx n₀ : Nat) (hx : a.eval x = .slice ax m cx) (hm : X.length = m) (hnil : ax = none → cx = 0) (hX : Nums n₀ w ax X) (hl : L.length + X.length ≤ 1000000) (hbase : base ≤ w.heap.size)
    (h : ∀ v' w', w'.ownsRow base 3 1 v' (L ++ X).length (nflat (L ++ X)) → w.grownBy w' v.ownBlock → wpList Tryz.prog ops Q rest (a.put o.dst v') w') : wpList Tryz.prog ops Q (o :: rest) a w := by
  subst hm
  obtain ⟨i0, hi, hz0, hz1, hz2⟩ := info_parts num_info
  cases ax with
  | none =>
    obtain rfl : X = [] := List.eq_nil_of_length_eq_zero (by
      rcases Nat.eq_zero_or_pos X.length with h | h
      · exact h
      · obtain ⟨b, off, e, _⟩ := hX h
        cases e)
    obtain rfl := hnil rfl
    refine wpList_append_own_none hgd s x 22 ho base 3 i0 1 Tryz.underlying22 hi v L.length (nflat L) hs hown hx ?_
    refine h v w (by rw [List.append_nil]; exact hown) ⟨rfl, rfl, rfl, Nat.le_refl _, fun _ _ _ => rfl⟩
  | some ad =>
    refine wpList_append_own _ hgd s x 22 ho base 3 i0 _ 1 8 Tryz.underlying22 hi hz0 hz1 hz2 rfl (by decide) v L.length (nflat L) hs hown ad X.length cx (nflat X) hx (by rw [num_len, Nat.mul_one]) (fun j u hj => ?_) (num_one X) (by unfold maxLen; omega) (by omega) hbase ?_
    · have hlt : j < X.length := by
        rw [← num_len]
        exact (List.getElem?_eq_some_iff.1 hj).1
      obtain ⟨b, off, e, _⟩ := hX (by omega)
      cases e
      exact num_cells hX j u hj
    · intro v' w' h1 h2 _
      refine h v' w' ?_ h2
      rw [List.length_append, show nflat (L ++ X) = nflat L ++ nflat X by simp [nflat]]
      exact h1
def zerosC (c : List Int) (k : Nat) : List Int := List.replicate k 0 ++ c.drop k
theorem Nums.drop {n₀ : Nat} {w : World} {b off : Nat} {L : List Int} (h : Nums n₀ w (some ⟨b, off, none⟩) L) (k : Nat) : Nums n₀ w (some ⟨b, off + k, none⟩) (L.drop k) := fun hl => by
  rw [List.length_drop] at hl
  obtain ⟨b', off', e, hb, hc⟩ := h (by omega)
  cases e
  refine ⟨b, off + k, rfl, hb, fun i hi => ?_⟩
  rw [List.length_drop] at hi
  have e : ig (L.drop k) i = ig L (k + i) := by unfold ig; rw [List.getElem?_drop]
  rw [e, show off + k + i = off + (k + i) by omega]
  exact hc (k + i) (by omega)
theorem zerosC_len {c : List Int} {k : Nat} (h : k ≤ c.length) : (zerosC c k).length = c.length := by simp [zerosC]; omega
theorem zerosC_at {c : List Int} {k : Nat} : ig (zerosC c k) k = ig c k := by
  unfold ig zerosC
  rw [List.getElem?_append_right (by simp), List.length_replicate, Nat.sub_self, List.getElem?_drop, Nat.add_zero]
theorem zerosC_set {c : List Int} {k : Nat} (h : k < c.length) (x : Int) : (zerosC c k).set k x = List.replicate k 0 ++ x :: c.drop (k + 1) := by
  unfold zerosC
  rw [List.set_append_right _ _ (by simp), List.length_replicate, Nat.sub_self, List.drop_eq_getElem_cons h, List.set_cons_zero]
theorem zerosC_next {c : List Int} {k : Nat} (h : k < c.length) : (zerosC c k).set k 0 = zerosC c (k + 1) := by
  rw [zerosC_set h, zerosC, List.replicate_succ', List.append_assoc]
  rfl
theorem next_hit {L : List BrickR} {c : List Int} (he : c.length = L.length) {k : Nat} (hk : k < L.length) (hf : ∀ j, j < k → (bg L j).count ≤ ig c j) (hn : ig c k < (bg L k).count) : nextC L c = ((zerosC c k).set k (ig c k + 1), true) := by
  rw [nextC_at he k (by omega) fun j hj h1 h2 => by have := hf j hj; rw [ig_eq c j h2, bg_eq L j h1] at this; omega]
  rw [zerosC_set (by omega), List.drop_eq_getElem_cons hk, List.drop_eq_getElem_cons (show k < c.length by omega), ← ig_eq c k (by omega), ← bg_eq L k hk]
  simp only [nextC]
  rw [if_pos hn]
theorem next_none {L : List BrickR} {c : List Int} (he : c.length = L.length) (hf : ∀ j, j < L.length → (bg L j).count ≤ ig c j) : nextC L c = (zerosC c c.length, false) := by
  rw [nextC_at he L.length (Nat.le_refl _) fun j hj h1 h2 => by have := hf j hj; rw [ig_eq c j h2, bg_eq L j h1] at this; omega]
  rw [← he, List.drop_length, he, List.drop_length, zerosC, ← he, List.drop_length]
  rfl
set_option maxRecDepth 100000 in
set_option maxHeartbeats 8000000 in
theorem next_any (a : Option Addr) (L : List BrickR) (cap : Nat) (ac : Option Addr) (c : List Int) (cc : Nat) (w : World) (ok : BrickOK L) (hl : L.length ≤ 8) (hc : IsC L c) (h : Bricks w.heap.size w a L) (hnil : ac = none → cc = 0) (hN : Nums w.heap.size w ac c) :
    Calls Tryz.prog 69 #[.slice a L.length cap, .slice ac c.length cc] w fun e w' => Hid (∃ v, e = .returned (.tuple #[v, .bool (nextC L c).2]) ∧ NumsV w'.heap.size w' v (nextC L c).1) ∧ Below w.heap.size w w' := by
  obtain ⟨he, hb⟩ := isC_iff.1 hc
  have HU := Lib.hid h
  have HN := Lib.hid hN
  have HE := Lib.hid he
  have HBD := Lib.hid hb
  have HOK := Lib.hid ok
  have hcl : c.length ≤ 8 := by omega
  have HHIT : Hid (∀ k, k < L.length → (∀ j, j < k → (bg L j).count ≤ ig c j) → ig c k < (bg L k).count → nextC L c = ((zerosC c k).set k (ig c k + 1), true)) := Lib.hid fun k hk h1 h2 => next_hit he hk h1 h2
  have HNONE : Hid ((∀ j, j < L.length → (bg L j).count ≤ ig c j) → nextC L c = (zerosC c c.length, false)) := Lib.hid fun h => next_none he h
  clear h hN hb ok hc he
  go_enter Tryz.func69, Tryz.ntmps69
  go_wp2_with (at_builtin; refine num_appends rfl _ _ rfl w.heap.size _ [] rfl (World.ownsRow_lit w #[] 0 (Nat.le_refl _) (by unfold maxLen; omega) rfl) ac c c.length cc w.heap.size rfl rfl hnil (HN.out.below (below_new w _)) (by simp; omega) (by simp) ?_; intro v5 w5 hown5 hg5; rw [List.nil_append] at hown5; have hB5 : Below w.heap.size w w5 := (below_new w (.cells #[] 3)).grown hg5 (by simp) (fun k e => by cases e; exact Nat.le_refl _); have HR5 := Lib.hid hown5; clear hown5 hg5)
  obtain ⟨va, vc, rfl, hv1, hv2, hv3, hv4⟩ := num_of_row HR5.out
  go_loopw [7] (fun i wr => ∃ k : Nat, k ≤ L.length ∧ i = .int .i64 k ∧ Below w.heap.size w wr ∧ Hid (wr.ownsRow w.heap.size 3 1 (.slice va c.length vc) c.length (nflat (zerosC c k))) ∧ Hid (∀ j, j < k → (bg L j).count ≤ ig c j)) (fun i _ => L.length - (intOf i).toNat)
  case atStart => exact ⟨0, Nat.zero_le _, rfl, hB5, Lib.hid HR5.out, Lib.hid fun j hj => absurd hj (Nat.not_lt_zero _)⟩
  case round =>
    clear hB5 HR5 hv4
    obtain ⟨k, hk, rfl, hB, HR, HS⟩ := hrel
    by_cases hlt : k < L.length
    · obtain ⟨b, off, rfl, hb, hx⟩ := HU.out (by omega)
      obtain ⟨_, _, e3⟩ := hx k hlt
      have d1 := (hB.cell (p := ⟨b, off + k * 3 + 2, none⟩) hb).trans e3
      have hkc : k < c.length := by have := HE.out; omega
      obtain ⟨g, rfl, hg1, hg2⟩ := row_addr HR.out (by omega)
      have d2 : wr.cell? ⟨g, k, none⟩ = some (.int .i64 (ig c k)) := by rw [HR.out.cellAt k (by omega), nflat_at _ _ (by rw [zerosC_len (by omega)]; omega), zerosC_at]
      have d3 := HR.out.frozenAt k
      obtain ⟨n1, n2⟩ := HBD.out k hlt
      obtain ⟨q1, q2, q3, q4⟩ := ok_bg HOK.out hlt
      have HH := Lib.hid (HHIT.out k hlt HS.out)
      have HK : Hid ((bg L k).count ≤ ig c k → ∀ j, j < k + 1 → (bg L j).count ≤ ig c j) := Lib.hid fun h1 j hj => by
        rcases Nat.lt_succ_iff_lt_or_eq.1 hj with h | rfl
        · exact HS.out j h
        · exact h1
      have j0 : (0 : Int) ≤ (k : Int) := by omega
      have j1 : (k : Int) < (L.length : Int) := by omega
      have j2 : (k : Int) < (c.length : Int) := by omega
      clear hx e3
      generalize ig c k = n at *
      generalize (bg L k).count = C at *
      by_cases q : n < C
      · have HH2 := Lib.hid (HH.out q)
        have t1 : IntKind.i64.wrap (n + 1) = n + 1 := IntWalk.i64_in _ (by omega)
        have g1 : decide (n < C) = true := decide_eq_true q
        clear HH HK
        go_wp2_with fail
        go_quiet (fail)
        have d4 : (wr.drewN nq).cell? ⟨g, k, none⟩ = some (.int .i64 n) := d2
        have d5 : (wr.drewN nq).frozen? ⟨g, k, none⟩ = false := d3
        have HR6 := Lib.hid (own_drewN HR.out nq)
        have hB6 := below_drewN hB nq
        generalize wr.drewN nq = wz at *
        go_wp2_with fail
        go_ret2
        rw [HH2.out]
        have hst := (HR6.out.stored k (.int .i64 (n + 1))).1
        rw [nflat_set] at hst
        exact ⟨Lib.hid ⟨_, rfl, NumsV.of_own hst (by rw [List.length_set, zerosC_len (by omega)])⟩, hB6.setCell (show w.heap.size ≤ g from hg1) _⟩
      · have HK1 := Lib.hid (HK.out (by omega))
        have g1 : decide (n < C) = false := decide_eq_false q
        clear HH HK
        go_wp2_with fail
        go_quiet (fail)
        have d4 : (wr.drewN nq).cell? ⟨g, k, none⟩ = some (.int .i64 n) := d2
        have d5 : (wr.drewN nq).frozen? ⟨g, k, none⟩ = false := d3
        have HR6 := Lib.hid (own_drewN HR.out nq)
        have hB6 := below_drewN hB nq
        generalize wr.drewN nq = wz at *
        go_wp2_with fail
        have hst := (HR6.out.stored k (.int .i64 0)).1
        rw [nflat_set, zerosC_next hkc] at hst
        have HST := Lib.hid hst
        go_roundw
        case rel => exact ⟨k + 1, by omega, by go_num, hB6.setCell (show w.heap.size ≤ g from hg1) _, HST, HK1⟩
        case measure => simp [intOf]; omega
    · obtain rfl : k = L.length := by omega
      have HN2 := Lib.hid (HNONE.out HS.out)
      have HE2 := Lib.hid HE.out.symm
      go_wp2_with fail
      go_ret2
      rw [HN2.out]
      have hr := HR.out
      rw [HE2.out] at hr
      exact ⟨Lib.hid ⟨_, rfl, NumsV.of_own hr (zerosC_len (Nat.le_refl _))⟩, hB⟩
theorem putN_stop {K : List Int} {x : Int} {k : Nat} (hk : k ≤ K.length) (hj : ∀ j, j < k → ig K j < x) (hn : k < K.length → x < ig K k) : insK x K = (K.take k ++ [x]) ++ K.drop k := by
  rw [insK_at hk hj]
  by_cases h : k < K.length
  · rw [List.drop_eq_getElem_cons h, ← ig_eq K k h]
    simp only [insK]
    rw [if_pos (hn h), List.append_assoc]
    rfl
  · rw [List.drop_eq_nil_of_le (by omega)]
    simp [insK]
theorem putN_same {K : List Int} {x : Int} {k : Nat} (hk : k < K.length) (hj : ∀ j, j < k → ig K j < x) (hn : ig K k = x) : insK x K = K := by
  rw [insK_at (by omega) hj, List.drop_eq_getElem_cons hk, ← ig_eq K k hk]
  simp only [insK]
  rw [if_neg (by omega), if_pos hn.symm, ig_eq K k hk, ← List.drop_eq_getElem_cons hk, List.take_append_drop]
set_option maxRecDepth 100000 in
set_option maxHeartbeats 8000000 in
theorem put_any (x : Int) (ak : Option Addr) (K : List Int) (ck : Nat) (w : World) (hl : K.length ≤ 1000) (hcap : K.length ≤ ck) (hcm : ck ≤ maxLen) (hnil : ak = none → ck = 0) (hN : Nums w.heap.size w ak K) :
    Calls Tryz.prog 67 #[.slice ak K.length ck, .int .i64 x] w fun e w' => Hid (∃ v, e = .returned v ∧ NumsV w'.heap.size w' v (insK x K)) ∧ Below w.heap.size w w' := by
  have HN := Lib.hid hN
  have HSTOP : Hid (∀ k, k ≤ K.length → (∀ j, j < k → ig K j < x) → (k < K.length → x < ig K k) → insK x K = (K.take k ++ [x]) ++ K.drop k) := Lib.hid fun k hk h1 h2 => putN_stop hk h1 h2
  have HSAME : Hid (∀ k, k < K.length → (∀ j, j < k → ig K j < x) → ig K k = x → insK x K = K) := Lib.hid fun k hk h1 h2 => putN_same hk h1 h2
  clear hN
  go_enter Tryz.func67, Tryz.ntmps67
  go_wp2
  go_loop [5] (fun i => ∃ k : Nat, k ≤ K.length ∧ i = .int .i64 k ∧ Hid (∀ j, j < k → ig K j < x)) (fun i => K.length - (intOf i).toNat)
  case atStart => exact ⟨0, Nat.zero_le _, rfl, Lib.hid fun j hj => absurd hj (Nat.not_lt_zero _)⟩
  case round =>
    obtain ⟨k, hk, rfl, HS⟩ := hrel
    by_cases hlt : k < K.length
    · obtain ⟨b, off, rfl, hb, hx⟩ := HN.out (by omega)
      have d1 := hx k hlt
      clear hx
      have g0 : decide ((k : Int) < (K.length : Int)) = true := decide_eq_true (by omega)
      rcases Int.lt_trichotomy (ig K k) x with q | q | q
      · have HK : Hid (∀ j, j < k + 1 → ig K j < x) := Lib.hid fun j hj => by
          rcases Nat.lt_succ_iff_lt_or_eq.1 hj with h | rfl
          · exact HS.out j h
          · exact q
        have g1 : decide (ig K k < x) = true := decide_eq_true q
        generalize ig K k = y at *
        go_wp2
        go_round
        case rel => exact ⟨k + 1, by omega, by go_num, HK⟩
        case measure => simp [intOf]; omega
      · have HSM := Lib.hid (HSAME.out k hlt HS.out q)
        have g1 : decide (ig K k < x) = false := decide_eq_false (by omega)
        have g2 : (ig K k == x) = true := beq_iff_eq.2 q
        generalize ig K k = y at *
        clear q
        go_wp2
        go_ret
        rw [HSM.out]
        exact ⟨Lib.hid ⟨_, rfl, _, _, rfl, hcap, hcm, hnil, HN.out⟩, Below.refl _ _⟩
      · have HSP := Lib.hid (HSTOP.out k hk HS.out fun _ => q)
        have g1 : decide (ig K k < x) = false := decide_eq_false (by omega)
        have g2 : (ig K k == x) = false := beq_eq_false_iff_ne.2 (by omega)
        generalize ig K k = y at *
        clear q
        have HN1 : Hid (Nums w.heap.size w (some ⟨b, off, none⟩) (K.take k)) := Lib.hid (HN.out.take k)
        have HA1 : Hid ((K.take k).length = k) := Lib.hid (List.length_take_of_le hk)
        have HD1 : Hid ((K.drop k).length = K.length - k) := Lib.hid List.length_drop
        have HN2 : Hid (Nums w.heap.size w (some ⟨b, off + k, none⟩) (K.drop k)) := Lib.hid (HN.out.drop k)
        generalize K.take k = A at *
        generalize K.drop k = D at *
        obtain ⟨A2, hA2⟩ : ∃ A2, A ++ [x] = A2 := ⟨_, rfl⟩
        have HA2 := Lib.hid hA2
        rw [hA2] at HSP
        have HA3 : Hid (A2.length = k + 1) := Lib.hid (by rw [← hA2, List.length_append, HA1.out]; rfl)
        clear hA2
        go_wp2_with (first
          | (at_builtin; refine num_appends rfl _ _ rfl w.heap.size _ [] rfl (World.ownsRow_lit w #[] 0 (Nat.le_refl _) (by unfold maxLen; omega) rfl) (some ⟨b, off, none⟩) A k _ w.heap.size rfl HA1.out (fun e => by cases e) (HN1.out.below (below_new w _)) (by rw [HA1.out]; simp <;> omega) (by simp) ?_; intro v5 w5 hown5 hg5; rw [List.nil_append] at hown5; have hB5 : Below w.heap.size w w5 := (below_new w (.cells #[] 3)).grown hg5 (by simp) (fun k e => by cases e; exact Nat.le_refl _); have HR5 := Lib.hid hown5; clear hown5 hg5; obtain ⟨va, vc, rfl, _, _, _, _⟩ := num_of_row HR5.out)
          | (at_builtin; refine num_append rfl _ _ rfl w.heap.size _ A rfl (HR5.out.alloc _) _ x rfl (by simp) (by rw [HA1.out]; omega) (by simp; have := hB5.size; omega) ?_; intro v6 w6 hown6 hg6; have hB6 : Below w.heap.size w w6 := grown_own (HR5.out.alloc (.cells #[.int .i64 x] 3)) hg6 (hB5.alloc hB5.size _) (by simp; have := hB5.size; omega) (Nat.le_refl _); rw [HA2.out] at hown6; have HR6 := Lib.hid hown6; clear hown6 hg6; obtain ⟨vb, vd, rfl, _, _, _, _⟩ := num_of_row HR6.out)
          | (at_builtin; refine num_appends rfl _ _ rfl w.heap.size _ A2 rfl HR6.out (some ⟨b, off + k, none⟩) D (K.length - k) _ w.heap.size rfl HD1.out (fun e => by cases e) (HN2.out.below hB6) (by rw [HA3.out, HD1.out]; omega) hB6.size ?_; intro v7 w7 hown7 hg7; have hB7 : Below w.heap.size w w7 := grown_own HR6.out hg7 hB6 hB6.size (Nat.le_refl _); have HR7 := Lib.hid hown7; clear hown7 hg7))
        go_ret
        exact ⟨Lib.hid ⟨_, rfl, by rw [HSP.out]; exact NumsV.of_row HR7.out⟩, hB7⟩
    · have g0 : decide ((k : Int) < (K.length : Int)) = false := decide_eq_false (by omega)
      have HSP := Lib.hid (HSTOP.out k hk HS.out fun h => absurd h hlt)
      by_cases hpos : 0 < K.length
      · skip
        obtain ⟨b, off, rfl, hb, hx⟩ := HN.out hpos
        clear hx
        have HN1 : Hid (Nums w.heap.size w (some ⟨b, off, none⟩) (K.take k)) := Lib.hid (HN.out.take k)
        have HA1 : Hid ((K.take k).length = k) := Lib.hid (List.length_take_of_le hk)
        have HD1 : Hid ((K.drop k).length = K.length - k) := Lib.hid List.length_drop
        have HN2 : Hid (Nums w.heap.size w (some ⟨b, off + k, none⟩) (K.drop k)) := Lib.hid (HN.out.drop k)
        generalize K.take k = A at *
        generalize K.drop k = D at *
        have HD0 : Hid (D.length = 0) := Lib.hid (by rw [HD1.out]; omega)
        have HN0 : Hid (∀ n W a, Nums n W a D) := Lib.hid fun _ _ _ h => absurd h (by rw [HD0.out]; omega)
        obtain ⟨A2, hA2⟩ : ∃ A2, A ++ [x] = A2 := ⟨_, rfl⟩
        have HA2 := Lib.hid hA2
        rw [hA2] at HSP
        have HA3 : Hid (A2.length = k + 1) := Lib.hid (by rw [← hA2, List.length_append, HA1.out]; rfl)
        clear hA2
        by_cases hck : ck = k
        all_goals go_wp2_with (first
          | (at_builtin; refine num_appends rfl _ _ rfl w.heap.size _ [] rfl (World.ownsRow_lit w #[] 0 (Nat.le_refl _) (by unfold maxLen; omega) rfl) (some ⟨b, off, none⟩) A k _ w.heap.size rfl HA1.out (fun e => by cases e) (HN1.out.below (below_new w _)) (by rw [HA1.out]; simp <;> omega) (by simp) ?_; intro v5 w5 hown5 hg5; rw [List.nil_append] at hown5; have hB5 : Below w.heap.size w w5 := (below_new w (.cells #[] 3)).grown hg5 (by simp) (fun k e => by cases e; exact Nat.le_refl _); have HR5 := Lib.hid hown5; clear hown5 hg5; obtain ⟨va, vc, rfl, _, _, _, _⟩ := num_of_row HR5.out)
          | (at_builtin; refine num_append rfl _ _ rfl w.heap.size _ A rfl (HR5.out.alloc _) _ x rfl (by simp) (by rw [HA1.out]; omega) (by simp; have := hB5.size; omega) ?_; intro v6 w6 hown6 hg6; have hB6 : Below w.heap.size w w6 := grown_own (HR5.out.alloc (.cells #[.int .i64 x] 3)) hg6 (hB5.alloc hB5.size _) (by simp; have := hB5.size; omega) (Nat.le_refl _); rw [HA2.out] at hown6; have HR6 := Lib.hid hown6; clear hown6 hg6; obtain ⟨vb, vd, rfl, _, _, _, _⟩ := num_of_row HR6.out)
          | (at_builtin; refine num_appends rfl _ _ rfl w.heap.size _ A2 rfl HR6.out (some _) D _ _ w.heap.size rfl (by first | exact HD0.out | exact HD1.out) (fun e => by cases e) (HN0.out _ _ _) (by rw [HA3.out, HD0.out]; omega) hB6.size ?_; intro v7 w7 hown7 hg7; have hB7 : Below w.heap.size w w7 := grown_own HR6.out hg7 hB6 hB6.size (Nat.le_refl _); have HR7 := Lib.hid hown7; clear hown7 hg7))
        all_goals go_ret
        all_goals exact ⟨Lib.hid ⟨_, rfl, by rw [HSP.out]; exact NumsV.of_row HR7.out⟩, hB7⟩
      · obtain rfl : K = [] := List.eq_nil_of_length_eq_zero (by omega)
        obtain rfl : k = 0 := by simpa using hk
        clear hpos
        clear hlt hk HSTOP HSAME HS HN
        rw [List.take_nil, List.drop_nil, List.nil_append, List.append_nil] at HSP
        simp only [List.length_nil] at hcap hl g0 ⊢
        have HN1 : Hid (∀ a, Nums w.heap.size w a ([] : List Int)) := Lib.hid fun a => Nums.nil
        have HA1 : Hid (([] : List Int).length = 0) := Lib.hid rfl
        obtain ⟨A, hA⟩ : ∃ A : List Int, [] = A := ⟨_, rfl⟩
        have HD1 := HA1
        have HN2 := HN1
        have HAD : Hid ([] = A) := Lib.hid hA
        rw [hA] at HN1 HA1
        obtain ⟨D, hD⟩ : ∃ D : List Int, [] = D := ⟨_, rfl⟩
        rw [hD] at HN2 HD1
        have HDD : Hid ([] = D) := Lib.hid hD
        clear hA hD
        obtain ⟨A2, hA2⟩ : ∃ A2, A ++ [x] = A2 := ⟨_, rfl⟩
        have HA2 := Lib.hid hA2
        have HSQ : Hid (insK x [] = A2 ++ D) := Lib.hid (by rw [HSP.out, ← hA2, ← HAD.out, ← HDD.out]; rfl)
        have HA3 : Hid (A2.length = 1) := Lib.hid (by rw [← hA2, List.length_append, HA1.out]; rfl)
        clear hA2 HSP
        cases ak with
        | none =>
          obtain rfl := hnil rfl
          go_wp2_with (first
            | (at_builtin; refine num_appends rfl _ _ rfl w.heap.size _ [] rfl (World.ownsRow_lit w #[] 0 (Nat.le_refl _) (by unfold maxLen; omega) rfl) (none) A 0 _ w.heap.size rfl HA1.out (fun _ => rfl) ((HN1.out none).below (below_new w _)) (by rw [HA1.out]; simp <;> omega) (by simp) ?_; intro v5 w5 hown5 hg5; rw [List.nil_append] at hown5; have hB5 : Below w.heap.size w w5 := (below_new w (.cells #[] 3)).grown hg5 (by simp) (fun k e => by cases e; exact Nat.le_refl _); have HR5 := Lib.hid hown5; clear hown5 hg5; obtain ⟨va, vc, rfl, _, _, _, _⟩ := num_of_row HR5.out)
            | (at_builtin; refine num_append rfl _ _ rfl w.heap.size _ A rfl (HR5.out.alloc _) _ x rfl (by simp) (by rw [HA1.out]; omega) (by simp; have := hB5.size; omega) ?_; intro v6 w6 hown6 hg6; have hB6 : Below w.heap.size w w6 := grown_own (HR5.out.alloc (.cells #[.int .i64 x] 3)) hg6 (hB5.alloc hB5.size _) (by simp; have := hB5.size; omega) (Nat.le_refl _); rw [HA2.out] at hown6; have HR6 := Lib.hid hown6; clear hown6 hg6; obtain ⟨vb, vd, rfl, _, _, _, _⟩ := num_of_row HR6.out)
            | (at_builtin; refine num_appends rfl _ _ rfl w.heap.size _ A2 rfl HR6.out (none) D 0 _ w.heap.size rfl HD1.out (fun _ => rfl) ((HN2.out none).below hB6) (by rw [HA3.out, HD1.out]; omega) hB6.size ?_; intro v7 w7 hown7 hg7; have hB7 : Below w.heap.size w w7 := grown_own HR6.out hg7 hB6 hB6.size (Nat.le_refl _); have HR7 := Lib.hid hown7; clear hown7 hg7))
          go_ret
          exact ⟨Lib.hid ⟨_, rfl, by rw [HSQ.out]; exact NumsV.of_row HR7.out⟩, hB7⟩
        | some ad =>
          go_wp2_with (first
            | (at_builtin; refine num_appends rfl _ _ rfl w.heap.size _ [] rfl (World.ownsRow_lit w #[] 0 (Nat.le_refl _) (by unfold maxLen; omega) rfl) (some ad) A 0 _ w.heap.size rfl HA1.out (fun e => by cases e) ((HN1.out (some ad)).below (below_new w _)) (by rw [HA1.out]; simp <;> omega) (by simp) ?_; intro v5 w5 hown5 hg5; rw [List.nil_append] at hown5; have hB5 : Below w.heap.size w w5 := (below_new w (.cells #[] 3)).grown hg5 (by simp) (fun k e => by cases e; exact Nat.le_refl _); have HR5 := Lib.hid hown5; clear hown5 hg5; obtain ⟨va, vc, rfl, _, _, _, _⟩ := num_of_row HR5.out)
            | (at_builtin; refine num_append rfl _ _ rfl w.heap.size _ A rfl (HR5.out.alloc _) _ x rfl (by simp) (by rw [HA1.out]; omega) (by simp; have := hB5.size; omega) ?_; intro v6 w6 hown6 hg6; have hB6 : Below w.heap.size w w6 := grown_own (HR5.out.alloc (.cells #[.int .i64 x] 3)) hg6 (hB5.alloc hB5.size _) (by simp; have := hB5.size; omega) (Nat.le_refl _); rw [HA2.out] at hown6; have HR6 := Lib.hid hown6; clear hown6 hg6; obtain ⟨vb, vd, rfl, _, _, _, _⟩ := num_of_row HR6.out)
            | (at_builtin; refine num_appends rfl _ _ rfl w.heap.size _ A2 rfl HR6.out (some ad) D 0 _ w.heap.size rfl HD1.out (fun e => by cases e) ((HN2.out (some ad)).below hB6) (by rw [HA3.out, HD1.out]; omega) hB6.size ?_; intro v7 w7 hown7 hg7; have hB7 : Below w.heap.size w w7 := grown_own HR6.out hg7 hB6 hB6.size (Nat.le_refl _); have HR7 := Lib.hid hown7; clear hown7 hg7))
          go_ret
          exact ⟨Lib.hid ⟨_, rfl, by rw [HSQ.out]; exact NumsV.of_row HR7.out⟩, hB7⟩
end Go.Proofs.YtbniclapaigkkaaGreat
