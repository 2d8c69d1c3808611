/-
  THE WALKS of the reference's Sums and Nearest.
-/
import Derived.Test.YtfiefmhnonddhaaDoorRefB
import Derived.Test.YtfiefmhnonddhaaDoorPartsA
import Derived.Laws.AppendOwnNone
import Derived.Deep.RegionHeld3
namespace Go.Proofs.YtfiefmhnonddhaaDoor
open Go.RowKit Go.Shelf

theorem Nums.drop {n₀ : Nat} {w : World} {b off : Nat} {L : List Int} (h : Nums n₀ w (some ⟨b, off, none⟩) L) (k : Nat) : Nums n₀ w (some ⟨b, off + k, none⟩) (L.drop k) := fun hl => by
  rw [List.length_drop] at hl
  obtain ⟨b', off', e, hb, hc⟩ := h (by omega)
  cases e
  refine ⟨b, off + k, rfl, hb, fun i hi => ?_⟩
  rw [List.length_drop] at hi
  have e : ig (L.drop k) i = ig L (k + i) := by unfold ig; rw [List.getElem?_drop]
  rw [e, show off + k + i = off + (k + i) by omega]
  exact hc (k + i) (by omega)
/-- An append of a list of numbers to a row of the call's own: what it gives. -/
theorem num_run (w : World) (ty : TypeId) (base : Nat) (v : Value) (L : List Int) (hown : w.ownsRow base 3 1 v L.length (nflat L))
    (ax : Option Addr) (X : List Int) (m cx n₀ : Nat) (hm : X.length = m) (hnil : ax = none → cx = 0) (hX : Nums n₀ w ax X) (hl : L.length + X.length ≤ 1000000) (hbase : base ≤ w.heap.size) :
    ∃ v' w', (Builtin.append_ #[22, 22] ty #[v, .slice ax m cx]).run Tryd.prog w = .ok v' w' ∧ w'.ownsRow base 3 1 v' (L ++ X).length (nflat (L ++ X)) ∧ w.grownBy w' v.ownBlock := by
  subst hm
  obtain ⟨i0, hi, hz0, hz1, hz2⟩ := info_parts num_info
  cases ax with
  | none =>
    obtain rfl : X = [] := List.eq_nil_of_length_eq_zero (by
      rcases Nat.eq_zero_or_pos X.length with h | h
      · exact h
      · obtain ⟨b, off, e, _⟩ := hX h
        cases e)
    obtain rfl := hnil rfl
    exact ⟨v, w, run_append_owned_none (P := Tryd.prog) (w := w) base 22 ty 3 i0 1 Tryd.underlying22 hi v L.length (nflat L) hown, by rw [List.append_nil]; exact hown, ⟨rfl, rfl, rfl, Nat.le_refl _, fun _ _ _ => rfl⟩⟩
  | some ad =>
    obtain ⟨v', w', hr, h2, h3, _, _⟩ := run_append_own_at (P := Tryd.prog) w base 22 ty 3 i0 _ 1 8 Tryd.underlying22 hi hz0 hz1 hz2 rfl (by decide) v L.length (nflat L) hown ad X.length cx (nflat X) (by rw [num_len, Nat.mul_one]) (fun j u hj => by
      have hlt : j < X.length := by
        rw [← num_len]
        exact (List.getElem?_eq_some_iff.1 hj).1
      obtain ⟨b, off, e, _⟩ := hX (by omega)
      cases e
      exact num_cells hX j u hj) (num_one X) (by unfold maxLen; omega) (by omega) hbase
    exact ⟨v', w', hr, by rw [List.length_append, show nflat (L ++ X) = nflat L ++ nflat X by simp [nflat]]; exact h2, h3⟩
theorem num_step {ops : Array Oper} {o : Oper} {a : Act} {w : World} {K : Act → World → Prop} {Q : Exit → Act → World → Prop} {E : Prop} (hgd : o.guard = none) (s x : Operand)
    (ho : o.op = .call { callee := .builtin .append, args := #[s, x], argTypes := #[22, 22] })
    (base : Nat) (v : Value) (L : List Int) (hs : a.eval s = v) (hown : w.ownsRow base 3 1 v L.length (nflat L))
    (ax : Option Addr) (X : List Int) (m cx n₀ : Nat) (hx : a.eval x = .slice ax m cx) (hm : X.length = m) (hnil : ax = none → cx = 0) (hX : Nums n₀ w ax X) (hl : L.length + X.length ≤ 1000000) (hbase : base ≤ w.heap.size)
    (h : ∀ v' w', w'.ownsRow base 3 1 v' (L ++ X).length (nflat (L ++ X)) → w.grownBy w' v.ownBlock → K (a.put o.dst v') w') :
    if Region.wanted o (yielded ops a.tmps) = true then Oper.wp Tryd.prog o a w K Q else E := by
  have hw : Region.wanted o (yielded ops a.tmps) = true := by simp [Region.wanted, hgd]
  rw [if_pos hw]
  obtain ⟨v', w', hr, h2, h3⟩ := num_run w o.type base v L hown ax X m cx n₀ hm hnil hX hl hbase
  unfold Oper.wp execOp
  simp only [ho, resolve, invoke, builtin, Sem.run_bind, Sem.run_pure, Result.andThen_ok, List.map_toArray, List.map_cons, List.map_nil, hs, hx, hr]
  exact h v' w' h2 h3
/-- A number at the head of a block. -/
def AtI (w : World) (b : Nat) (n : Int) : Prop := w.cell? ⟨b, 0, none⟩ = some (.int .i64 n) ∧ b < w.heap.size
theorem AtI.new (w : World) (n : Int) (t : TypeId) : AtI (w.alloc (.cells #[.int .i64 n] t)) w.heap.size n := ⟨cell_of_row _ _ 0 #[.int .i64 n] _ (0, 0) (heap_alloc_new _ _), by simp⟩
theorem AtI.alloc {w : World} {b : Nat} {n : Int} (h : AtI w b n) (o : Obj) : AtI (w.alloc o) b n := ⟨(World.cell?_alloc_lt w o ⟨b, 0, none⟩ h.2).trans h.1, by have := h.2; simp; omega⟩
theorem AtI.grown {w w' : World} {b c : Nat} {n : Int} (h : AtI w b n) (hg : w.grownBy w' (Value.slice (some ⟨c, 0, none⟩) 0 0).ownBlock) (hne : b ≠ c) : AtI w' b n :=
  ⟨(World.cell?_of_block (hg.block b h.2 (fun e => hne (by simpa [Value.ownBlock] using e)))).trans h.1, Nat.lt_of_lt_of_le h.2 hg.size⟩
theorem AtI.nums {w : World} {b : Nat} {n : Int} (h : AtI w b n) : Nums w.heap.size w (some ⟨b, 0, none⟩) [n] := fun _ => ⟨b, 0, rfl, h.2, fun i hi => by
  obtain rfl : i = 0 := by simp at hi; omega
  exact h.1⟩
theorem Nums.nil' {n₀ : Nat} {w : World} {a : Option Addr} {L : List Int} (h : L = []) : Nums n₀ w a L := by rw [h]; exact Nums.nil

theorem ins_at {n : Int} : ∀ (S : List Int) (k : Nat), k ≤ S.length → (∀ j, j < k → ig S j < n) → (k = S.length ∨ (¬ ig S k < n ∧ ig S k ≠ n)) → insU n S = S.take k ++ n :: S.drop k
  | [], k, h, _, _ => by
    obtain rfl : k = 0 := by simp at h; omega
    rfl
  | y :: r, 0, _, _, h => by
    have e : ig (y :: r) 0 = y := by simp [ig]
    rw [e] at h
    rcases h with h | ⟨h1, h2⟩
    · simp at h
    · unfold insU
      rw [if_neg h1, if_neg h2]; rfl
  | y :: r, k + 1, h, h2, h3 => by
    have e0 : ig (y :: r) 0 = y := by simp [ig]
    have e1 : ∀ j, ig (y :: r) (j + 1) = ig r j := fun j => by simp [ig]
    have := h2 0 (by omega)
    rw [e0] at this
    rw [insU, if_pos this, ins_at r k (by simpa using h) (fun j hj => by rw [← e1]; exact h2 (j + 1) (by omega)) (by rw [← e1]; simpa using h3)]
    rfl
theorem ins_same {n : Int} : ∀ (S : List Int) (k : Nat), k < S.length → (∀ j, j < k → ig S j < n) → ig S k = n → insU n S = S
  | [], k, h, _, _ => by simp at h
  | y :: r, 0, _, _, h => by
    have e : ig (y :: r) 0 = y := by simp [ig]
    rw [e] at h
    subst h
    rw [insU, if_neg (by omega), if_pos rfl]
  | y :: r, k + 1, h, h2, h3 => by
    have e0 : ig (y :: r) 0 = y := by simp [ig]
    have e1 : ∀ j, ig (y :: r) (j + 1) = ig r j := fun j => by simp [ig]
    have := h2 0 (by omega)
    rw [e0] at this
    rw [insU, if_pos this, ins_same r k (by simpa using h) (fun j hj => by rw [← e1]; exact h2 (j + 1) (by omega)) (by rw [← e1]; exact h3)]
theorem ins_pos (n : Int) : ∀ S : List Int, 0 < (insU n S).length
  | [] => by simp [insU]
  | y :: r => by
    unfold insU
    split
    · simp
    · split <;> simp
theorem ins_len {n : Int} : ∀ S : List Int, (insU n S).length ≤ S.length + 1
  | [] => by simp [insU]
  | y :: r => by
    have := ins_len (n := n) r
    unfold insU
    split
    · simpa using this
    · split <;> simp

set_option maxHeartbeats 8000000 in
theorem refsums_any (a : Option Addr) (L : List Int) (cap : Nat) (w : World) (hG : givenE L = 0) (hI : Nums w.heap.size w a L) :
    Calls Tryd.prog 24 #[.slice a L.length cap] w fun e w' => Hid (∃ v c, e = .returned (.slice v (rsumsTo L (2 ^ L.length)).length c) ∧ Nums w'.heap.size w' v (rsumsTo L (2 ^ L.length))) ∧ Below w.heap.size w w' := by
  have hl := (given_small hG).1
  have h16 : 2 ^ L.length ≤ 65536 := Nat.pow_le_pow_right (by decide) hl
  have HI := Lib.hid hI
  have HG := Lib.hid hG
  clear hI hG
  have hN : ∃ N : Nat, 2 ^ L.length = N := ⟨_, rfl⟩
  obtain ⟨N, hN⟩ := hN
  have hsh := wrap64_two hN (by omega)
  rw [hN] at h16 ⊢
  clear hN
  have HSH := Lib.hid hsh
  clear hsh
  go_enter Tryd.func24, Tryd.ntmps24
  go_wp2
  go_loopw [3, 4] (fun ov sv wr => ∃ (i : Nat) (S : List Int), sv = .int .i64 i ∧ i ≤ N ∧ Hid (rsumsTo L i = S) ∧ S.length ≤ i ∧ Hid ((ov = .slice none 0 0 ∧ S = []) ∨ ∃ b off c, ov = .slice (some ⟨b, off, none⟩) S.length c ∧ 0 < S.length ∧ S.length ≤ c ∧ c ≤ maxLen ∧ Nums wr.heap.size wr (some ⟨b, off, none⟩) S) ∧ Below w.heap.size w wr) (fun _ sv _ => N - (intOf sv).toNat)
  case atStart => exact ⟨0, [], rfl, by omega, Lib.hid rfl, by simp, Lib.hid (.inl ⟨rfl, rfl⟩), Below.refl _ _⟩
  case round =>
    obtain ⟨i, S, rfl, hiN, HS, hSl, HV, hB⟩ := hrel
    by_cases hlt : i < N
    · have g0 : decide ((i : Int) < wrap64 (2 ^ L.length)) = true := by rw [HSH.out]; exact decide_eq_true (by omega)
      have hi16 : i < 65536 := by omega
      obtain ⟨n, hn⟩ : ∃ n, sumN L i = n := ⟨_, rfl⟩
      have HC := Lib.hid (refsum_any a L cap i w.heap.size wr HG.out hi16 (HI.out.below hB))
      rw [hn] at HC
      have HNX : Hid (rsumsTo L (i + 1) = insU n S) := Lib.hid (by rw [rsumsTo, HS.out, hn])
      clear hn HS
      rcases HV.out with ⟨rfl, rfl⟩ | ⟨b0, off0, co, rfl, hS0, hcl, hcm, hNo⟩
      · have HIN : Hid (rsumsTo L (i + 1) = [n]) := HNX
        clear HV
        go_upto_region 7 with (go_at_call 40; (with_reducible refine HC.out.mono ?_); rintro e w1 ⟨rfl, rfl⟩)
        go_loop [6] (fun kv => kv = .int .i64 0) (fun _ => 0)
        case atStart => rfl
        case round =>
          obtain rfl := hrel
          have hBo := hB
          have HTRUE : Hid (∀ w' : World, Below wr.heap.size wr w' → (fun _ : World => True) w') := Lib.hid fun _ _ => trivial
          go_upto_region 10 with fail
          refine wp_region_held_drew (S := (fun _ => True)) (by kernel_rfl) (HTRUE.out _ (Below.refl _ _).drew) (fun hHeld => ?_)
          have hB0 := (Below.refl wr.heap.size wr).drew
          obtain ⟨w0, hw0⟩ : ∃ x, wr.drew = x := ⟨_, rfl⟩
          simp only [hw0] at hB0 hHeld ⊢
          clear hw0
          refine wpAnyH_take (i := 1) (oi := _) (v := ?_) (by simp only [List.getElem?_toArray, List.getElem?_cons_succ, List.getElem?_cons_zero]; rfl) (by kernel_rfl) (by kernel_rfl) (by kernel_rfl) (by exact fun _ _ _ h => h) (Or.inl ⟨by rfl, ?_⟩) (by assumption) ?_
          rotate_left
          · (intro w hSw; (try dsimp only at hSw); go_split_ands; go_simp; try with_reducible rfl)
          simp only [Act.put, List.setIfInBounds_toArray, List.set_cons_zero, List.set_cons_succ]
          refine wpAnyH_take (i := 2) (oi := _) (v := ?_) (by simp only [List.getElem?_toArray, List.getElem?_cons_succ, List.getElem?_cons_zero]; rfl) (by kernel_rfl) (by kernel_rfl) (by kernel_rfl) (by exact fun _ _ _ h => h) (Or.inl ⟨by rfl, ?_⟩) (by assumption) ?_
          rotate_left
          · (intro w hSw; (try dsimp only at hSw); go_split_ands; go_simp; try with_reducible rfl)
          simp only [Act.put, List.setIfInBounds_toArray, List.set_cons_zero, List.set_cons_succ]
          refine wpAnyH_take (i := 3) (oi := _) (v := ?_) (by simp only [List.getElem?_toArray, List.getElem?_cons_succ, List.getElem?_cons_zero]; rfl) (by kernel_rfl) (by kernel_rfl) (by kernel_rfl) (by exact fun _ _ _ h => h) (Or.inl ⟨by rfl, ?_⟩) (by assumption) ?_
          rotate_left
          · (intro w hSw; (try dsimp only at hSw); go_split_ands; go_simp; try with_reducible rfl)
          simp only [Act.put, List.setIfInBounds_toArray, List.set_cons_zero, List.set_cons_succ]
          refine wpAnyH_take (i := 5) (oi := _) (v := ?_) (by simp only [List.getElem?_toArray, List.getElem?_cons_succ, List.getElem?_cons_zero]; rfl) (by kernel_rfl) (by kernel_rfl) (by kernel_rfl) (by exact fun _ _ _ h => h) (Or.inl ⟨by rfl, ?_⟩) (by assumption) ?_
          rotate_left
          · (intro w hSw; (try dsimp only at hSw); go_split_ands; go_simp; try with_reducible rfl)
          simp only [Act.put, List.setIfInBounds_toArray, List.set_cons_zero, List.set_cons_succ]
          refine wpAnyH_take (i := 8) (oi := _) (v := ?_) (by simp only [List.getElem?_toArray, List.getElem?_cons_succ, List.getElem?_cons_zero]; rfl) (by kernel_rfl) (by kernel_rfl) (by kernel_rfl) (by exact fun _ _ _ h => h) (Or.inl ⟨by rfl, ?_⟩) (by assumption) ?_
          rotate_left
          · (intro w hSw; (try dsimp only at hSw); go_split_ands; go_simp; try with_reducible rfl)
          simp only [Act.put, List.setIfInBounds_toArray, List.set_cons_zero, List.set_cons_succ]
          refine wpAnyH_take (i := 9) (oi := _) (v := ?_) (by simp only [List.getElem?_toArray, List.getElem?_cons_succ, List.getElem?_cons_zero]; rfl) (by kernel_rfl) (by kernel_rfl) (by kernel_rfl) (by exact fun _ _ _ h => h) (Or.inl ⟨by rfl, ?_⟩) (by assumption) ?_
          rotate_left
          · (intro w hSw; (try dsimp only at hSw); go_split_ands; go_simp; try with_reducible rfl)
          simp only [Act.put, List.setIfInBounds_toArray, List.set_cons_zero, List.set_cons_succ]
          refine wpAnyH_take (i := 10) (oi := _) (v := ?_) (by simp only [List.getElem?_toArray, List.getElem?_cons_succ, List.getElem?_cons_zero]; rfl) (by kernel_rfl) (by kernel_rfl) (by kernel_rfl) (by exact fun _ _ _ h => h) (Or.inl ⟨by rfl, ?_⟩) (by assumption) ?_
          rotate_left
          · (intro w hSw; (try dsimp only at hSw); go_split_ands; go_simp; try with_reducible rfl)
          simp only [Act.put, List.setIfInBounds_toArray, List.set_cons_zero, List.set_cons_succ]
          refine wpAnyH_ready (rs := [0, 6]) (by kernel_rfl) (by simp) ?_
          refine AllReadyH.cons (o := _) (by simp only [List.getElem?_toArray, List.getElem?_cons_zero]; rfl) (fun K hK => ?_) (AllReadyH.cons (o := _) (by simp only [List.getElem?_toArray, List.getElem?_cons_succ, List.getElem?_cons_zero]; rfl) (fun K hK => ?_) (AllReadyH.nil))
          · rw [if_pos (by rfl)]
            go_split_ands
            go_wp2_with fail
            have hB1 := hB0.alloc hB0.size (.cells #[] 3)
            have R44 := World.ownsRow_lit (base := wr.heap.size) (size := 1) (e := 3) w0 #[] 0 hB0.size (by unfold maxLen; omega) rfl
            try have hne : b50 ≠ w0.heap.size := (by have := F50.2; omega)
            try replace F50 := F50.alloc (.cells #[] 3)
            obtain ⟨b44, hb44⟩ : ∃ b, w0.heap.size = b := ⟨_, rfl⟩
            try rw [hb44] at hne
            simp only [hb44] at R44 ⊢
            have hb44l : b44 < (w0.alloc (.cells #[] 3)).heap.size := by rw [← hb44]; simp
            generalize w0.alloc (.cells #[] 3) = w1 at *
            refine hK.out _ _ (HTRUE.out _ hB1) (fun hHeld => ?_)
            clear hK K
            try simp only [Act.put, List.setIfInBounds_toArray, List.set_cons_zero, List.set_cons_succ]
            refine wpAnyH_ready (rs := [4, 6]) (by kernel_rfl) (by simp) ?_
            refine AllReadyH.cons (o := _) (by simp only [List.getElem?_toArray, List.getElem?_cons_succ, List.getElem?_cons_zero]; rfl) (fun K hK => ?_) (AllReadyH.cons (o := _) (by simp only [List.getElem?_toArray, List.getElem?_cons_succ, List.getElem?_cons_zero]; rfl) (fun K hK => ?_) (AllReadyH.nil))
            · refine num_step rfl (.tmp 44) (.tmp 47) rfl wr.heap.size _ [] rfl R44 none [] _ _ wr.heap.size rfl rfl (fun _ => rfl) Nums.nil (by simp) hB1.size ?_
              intro v48 w2 R48 hg48
              rw [List.nil_append] at R48
              have hB2 := grown_own R44 hg48 hB1 hB1.size (Nat.le_refl _)
              try replace F50 := F50.grown hg48 hne
              clear hg48 R44
              refine hK.out _ _ (HTRUE.out _ hB2) (fun hHeld => ?_)
              clear hK K
              try simp only [Act.put, List.setIfInBounds_toArray, List.set_cons_zero, List.set_cons_succ]
              refine wpAnyH_ready (rs := [6]) (by kernel_rfl) (by simp) ?_
              refine AllReadyH.cons (o := _) (by simp only [List.getElem?_toArray, List.getElem?_cons_succ, List.getElem?_cons_zero]; rfl) (fun K hK => ?_) (AllReadyH.nil)
              rw [if_pos (by rfl)]
              go_split_ands
              go_wp2_with fail
              have hB3 := hB2.alloc hB2.size (.cells #[.int .i64 n] 3)
              have F50 := AtI.new w2 n 3
              try have hne : w2.heap.size ≠ b44 := (by omega)
              try replace R44 := R44.alloc (.cells #[.int .i64 n] 3)
              try replace R48 := R48.alloc (.cells #[.int .i64 n] 3)
              obtain ⟨b50, hb50⟩ : ∃ b, w2.heap.size = b := ⟨_, rfl⟩
              try rw [hb50] at hne
              simp only [hb50] at F50 ⊢
              generalize w2.alloc (.cells #[.int .i64 n] 3) = w3 at *
              refine hK.out _ _ (HTRUE.out _ hB3) (fun hHeld => ?_)
              clear hK K
              try simp only [Act.put, List.setIfInBounds_toArray, List.set_cons_zero, List.set_cons_succ]
              refine wpAnyH_ready (rs := [7]) (by kernel_rfl) (by simp) ?_
              refine AllReadyH.cons (o := _) (by simp only [List.getElem?_toArray, List.getElem?_cons_succ, List.getElem?_cons_zero]; rfl) (fun K hK => ?_) (AllReadyH.nil)
              refine num_step rfl (.tmp 48) (.tmp 50) rfl wr.heap.size _ [] rfl R48 (some ⟨b50, 0, none⟩) [n] 1 1 w3.heap.size rfl rfl (fun e => by cases e) F50.nums (by simp) hB3.size ?_
              intro v51 w4 R51 hg51
              rw [List.nil_append] at R51
              have hB4 := grown_own R48 hg51 hB3 hB3.size (Nat.le_refl _)
              clear hg51 R48 F50
              refine hK.out _ _ (HTRUE.out _ hB4) (fun hHeld => ?_)
              clear hK K
              try simp only [Act.put, List.setIfInBounds_toArray, List.set_cons_zero, List.set_cons_succ]
              refine wpAnyH_ready (rs := [11]) (by kernel_rfl) (by simp) ?_
              refine AllReadyH.cons (o := _) (by simp only [List.getElem?_toArray, List.getElem?_cons_succ, List.getElem?_cons_zero]; rfl) (fun K hK => ?_) (AllReadyH.nil)
              refine num_step rfl (.tmp 51) (.tmp 54) rfl wr.heap.size _ [n] rfl R51 none [] _ _ wr.heap.size rfl rfl (fun _ => rfl) Nums.nil (by simp) hB4.size ?_
              intro v55 w5 R55 hg55
              rw [List.append_nil] at R55
              have hB5 := grown_own R51 hg55 hB4 hB4.size (Nat.le_refl _)
              clear hg55 R51
              refine hK.out _ _ (HTRUE.out _ hB5) (fun hHeld => ?_)
              clear hK K
              try simp only [Act.put, List.setIfInBounds_toArray, List.set_cons_zero, List.set_cons_succ]
              refine wpAnyH_take (i := 12) (oi := _) (v := ?_) (by simp only [List.getElem?_toArray, List.getElem?_cons_succ, List.getElem?_cons_zero]; rfl) (by kernel_rfl) (by kernel_rfl) (by kernel_rfl) (by exact fun _ _ _ h => h) (Or.inl ⟨by rfl, ?_⟩) (by assumption) ?_
              rotate_left
              · (intro w hSw; (try dsimp only at hSw); go_split_ands; go_simp; try with_reducible rfl)
              simp only [Act.put, List.setIfInBounds_toArray, List.set_cons_zero, List.set_cons_succ]
              refine wpAnyH_done (by kernel_rfl) ?_ _
              have hB := hB5
              go_wp2_with fail
              rw [← HIN.out] at R55
              obtain ⟨g9, ⟨c9, rfl⟩, _, _⟩ := row_addr' R55 (by rw [HNX.out]; exact ins_pos _ _)
              obtain ⟨_, _, e9, h91, h92, _, h94⟩ := num_of_row R55
              cases e9
              go_roundw
              case rel => exact ⟨i + 1, _, by go_num, by omega, Lib.hid rfl, by rw [HNX.out]; have := ins_len (n := n) []; simp at this ⊢; omega, Lib.hid (.inr ⟨_, _, _, rfl, by rw [HNX.out]; exact ins_pos _ _, h91, h92, h94⟩), hBo.trans (hB.mono hBo.size)⟩
              case measure => simp [intOf]; omega
            · rw [if_pos (by rfl)]
              go_split_ands
              go_wp2_with fail
              have hB2 := hB1.alloc hB1.size (.cells #[.int .i64 n] 3)
              have F50 := AtI.new w1 n 3
              try have hne : w1.heap.size ≠ b44 := (by omega)
              try replace R44 := R44.alloc (.cells #[.int .i64 n] 3)
              try replace R48 := R48.alloc (.cells #[.int .i64 n] 3)
              obtain ⟨b50, hb50⟩ : ∃ b, w1.heap.size = b := ⟨_, rfl⟩
              try rw [hb50] at hne
              simp only [hb50] at F50 ⊢
              generalize w1.alloc (.cells #[.int .i64 n] 3) = w2 at *
              refine hK.out _ _ (HTRUE.out _ hB2) (fun hHeld => ?_)
              clear hK K
              try simp only [Act.put, List.setIfInBounds_toArray, List.set_cons_zero, List.set_cons_succ]
              refine wpAnyH_ready (rs := [4]) (by kernel_rfl) (by simp) ?_
              refine AllReadyH.cons (o := _) (by simp only [List.getElem?_toArray, List.getElem?_cons_succ, List.getElem?_cons_zero]; rfl) (fun K hK => ?_) (AllReadyH.nil)
              refine num_step rfl (.tmp 44) (.tmp 47) rfl wr.heap.size _ [] rfl R44 none [] _ _ wr.heap.size rfl rfl (fun _ => rfl) Nums.nil (by simp) hB2.size ?_
              intro v48 w3 R48 hg48
              rw [List.nil_append] at R48
              have hB3 := grown_own R44 hg48 hB2 hB2.size (Nat.le_refl _)
              try replace F50 := F50.grown hg48 hne
              clear hg48 R44
              refine hK.out _ _ (HTRUE.out _ hB3) (fun hHeld => ?_)
              clear hK K
              try simp only [Act.put, List.setIfInBounds_toArray, List.set_cons_zero, List.set_cons_succ]
              refine wpAnyH_ready (rs := [7]) (by kernel_rfl) (by simp) ?_
              refine AllReadyH.cons (o := _) (by simp only [List.getElem?_toArray, List.getElem?_cons_succ, List.getElem?_cons_zero]; rfl) (fun K hK => ?_) (AllReadyH.nil)
              refine num_step rfl (.tmp 48) (.tmp 50) rfl wr.heap.size _ [] rfl R48 (some ⟨b50, 0, none⟩) [n] 1 1 w3.heap.size rfl rfl (fun e => by cases e) F50.nums (by simp) hB3.size ?_
              intro v51 w4 R51 hg51
              rw [List.nil_append] at R51
              have hB4 := grown_own R48 hg51 hB3 hB3.size (Nat.le_refl _)
              clear hg51 R48 F50
              refine hK.out _ _ (HTRUE.out _ hB4) (fun hHeld => ?_)
              clear hK K
              try simp only [Act.put, List.setIfInBounds_toArray, List.set_cons_zero, List.set_cons_succ]
              refine wpAnyH_ready (rs := [11]) (by kernel_rfl) (by simp) ?_
              refine AllReadyH.cons (o := _) (by simp only [List.getElem?_toArray, List.getElem?_cons_succ, List.getElem?_cons_zero]; rfl) (fun K hK => ?_) (AllReadyH.nil)
              refine num_step rfl (.tmp 51) (.tmp 54) rfl wr.heap.size _ [n] rfl R51 none [] _ _ wr.heap.size rfl rfl (fun _ => rfl) Nums.nil (by simp) hB4.size ?_
              intro v55 w5 R55 hg55
              rw [List.append_nil] at R55
              have hB5 := grown_own R51 hg55 hB4 hB4.size (Nat.le_refl _)
              clear hg55 R51
              refine hK.out _ _ (HTRUE.out _ hB5) (fun hHeld => ?_)
              clear hK K
              try simp only [Act.put, List.setIfInBounds_toArray, List.set_cons_zero, List.set_cons_succ]
              refine wpAnyH_take (i := 12) (oi := _) (v := ?_) (by simp only [List.getElem?_toArray, List.getElem?_cons_succ, List.getElem?_cons_zero]; rfl) (by kernel_rfl) (by kernel_rfl) (by kernel_rfl) (by exact fun _ _ _ h => h) (Or.inl ⟨by rfl, ?_⟩) (by assumption) ?_
              rotate_left
              · (intro w hSw; (try dsimp only at hSw); go_split_ands; go_simp; try with_reducible rfl)
              simp only [Act.put, List.setIfInBounds_toArray, List.set_cons_zero, List.set_cons_succ]
              refine wpAnyH_done (by kernel_rfl) ?_ _
              have hB := hB5
              go_wp2_with fail
              rw [← HIN.out] at R55
              obtain ⟨g9, ⟨c9, rfl⟩, _, _⟩ := row_addr' R55 (by rw [HNX.out]; exact ins_pos _ _)
              obtain ⟨_, _, e9, h91, h92, _, h94⟩ := num_of_row R55
              cases e9
              go_roundw
              case rel => exact ⟨i + 1, _, by go_num, by omega, Lib.hid rfl, by rw [HNX.out]; have := ins_len (n := n) []; simp at this ⊢; omega, Lib.hid (.inr ⟨_, _, _, rfl, by rw [HNX.out]; exact ins_pos _ _, h91, h92, h94⟩), hBo.trans (hB.mono hBo.size)⟩
              case measure => simp [intOf]; omega
          · rw [if_pos (by rfl)]
            go_split_ands
            go_wp2_with fail
            have hB1 := hB0.alloc hB0.size (.cells #[.int .i64 n] 3)
            have F50 := AtI.new w0 n 3
            try have hne : w0.heap.size ≠ b44 := (by omega)
            try replace R44 := R44.alloc (.cells #[.int .i64 n] 3)
            try replace R48 := R48.alloc (.cells #[.int .i64 n] 3)
            obtain ⟨b50, hb50⟩ : ∃ b, w0.heap.size = b := ⟨_, rfl⟩
            try rw [hb50] at hne
            simp only [hb50] at F50 ⊢
            generalize w0.alloc (.cells #[.int .i64 n] 3) = w1 at *
            refine hK.out _ _ (HTRUE.out _ hB1) (fun hHeld => ?_)
            clear hK K
            try simp only [Act.put, List.setIfInBounds_toArray, List.set_cons_zero, List.set_cons_succ]
            refine wpAnyH_ready (rs := [0]) (by kernel_rfl) (by simp) ?_
            refine AllReadyH.cons (o := _) (by simp only [List.getElem?_toArray, List.getElem?_cons_zero]; rfl) (fun K hK => ?_) (AllReadyH.nil)
            rw [if_pos (by rfl)]
            go_split_ands
            go_wp2_with fail
            have hB2 := hB1.alloc hB1.size (.cells #[] 3)
            have R44 := World.ownsRow_lit (base := wr.heap.size) (size := 1) (e := 3) w1 #[] 0 hB1.size (by unfold maxLen; omega) rfl
            try have hne : b50 ≠ w1.heap.size := (by have := F50.2; omega)
            try replace F50 := F50.alloc (.cells #[] 3)
            obtain ⟨b44, hb44⟩ : ∃ b, w1.heap.size = b := ⟨_, rfl⟩
            try rw [hb44] at hne
            simp only [hb44] at R44 ⊢
            have hb44l : b44 < (w1.alloc (.cells #[] 3)).heap.size := by rw [← hb44]; simp
            generalize w1.alloc (.cells #[] 3) = w2 at *
            refine hK.out _ _ (HTRUE.out _ hB2) (fun hHeld => ?_)
            clear hK K
            try simp only [Act.put, List.setIfInBounds_toArray, List.set_cons_zero, List.set_cons_succ]
            refine wpAnyH_ready (rs := [4]) (by kernel_rfl) (by simp) ?_
            refine AllReadyH.cons (o := _) (by simp only [List.getElem?_toArray, List.getElem?_cons_succ, List.getElem?_cons_zero]; rfl) (fun K hK => ?_) (AllReadyH.nil)
            refine num_step rfl (.tmp 44) (.tmp 47) rfl wr.heap.size _ [] rfl R44 none [] _ _ wr.heap.size rfl rfl (fun _ => rfl) Nums.nil (by simp) hB2.size ?_
            intro v48 w3 R48 hg48
            rw [List.nil_append] at R48
            have hB3 := grown_own R44 hg48 hB2 hB2.size (Nat.le_refl _)
            try replace F50 := F50.grown hg48 hne
            clear hg48 R44
            refine hK.out _ _ (HTRUE.out _ hB3) (fun hHeld => ?_)
            clear hK K
            try simp only [Act.put, List.setIfInBounds_toArray, List.set_cons_zero, List.set_cons_succ]
            refine wpAnyH_ready (rs := [7]) (by kernel_rfl) (by simp) ?_
            refine AllReadyH.cons (o := _) (by simp only [List.getElem?_toArray, List.getElem?_cons_succ, List.getElem?_cons_zero]; rfl) (fun K hK => ?_) (AllReadyH.nil)
            refine num_step rfl (.tmp 48) (.tmp 50) rfl wr.heap.size _ [] rfl R48 (some ⟨b50, 0, none⟩) [n] 1 1 w3.heap.size rfl rfl (fun e => by cases e) F50.nums (by simp) hB3.size ?_
            intro v51 w4 R51 hg51
            rw [List.nil_append] at R51
            have hB4 := grown_own R48 hg51 hB3 hB3.size (Nat.le_refl _)
            clear hg51 R48 F50
            refine hK.out _ _ (HTRUE.out _ hB4) (fun hHeld => ?_)
            clear hK K
            try simp only [Act.put, List.setIfInBounds_toArray, List.set_cons_zero, List.set_cons_succ]
            refine wpAnyH_ready (rs := [11]) (by kernel_rfl) (by simp) ?_
            refine AllReadyH.cons (o := _) (by simp only [List.getElem?_toArray, List.getElem?_cons_succ, List.getElem?_cons_zero]; rfl) (fun K hK => ?_) (AllReadyH.nil)
            refine num_step rfl (.tmp 51) (.tmp 54) rfl wr.heap.size _ [n] rfl R51 none [] _ _ wr.heap.size rfl rfl (fun _ => rfl) Nums.nil (by simp) hB4.size ?_
            intro v55 w5 R55 hg55
            rw [List.append_nil] at R55
            have hB5 := grown_own R51 hg55 hB4 hB4.size (Nat.le_refl _)
            clear hg55 R51
            refine hK.out _ _ (HTRUE.out _ hB5) (fun hHeld => ?_)
            clear hK K
            try simp only [Act.put, List.setIfInBounds_toArray, List.set_cons_zero, List.set_cons_succ]
            refine wpAnyH_take (i := 12) (oi := _) (v := ?_) (by simp only [List.getElem?_toArray, List.getElem?_cons_succ, List.getElem?_cons_zero]; rfl) (by kernel_rfl) (by kernel_rfl) (by kernel_rfl) (by exact fun _ _ _ h => h) (Or.inl ⟨by rfl, ?_⟩) (by assumption) ?_
            rotate_left
            · (intro w hSw; (try dsimp only at hSw); go_split_ands; go_simp; try with_reducible rfl)
            simp only [Act.put, List.setIfInBounds_toArray, List.set_cons_zero, List.set_cons_succ]
            refine wpAnyH_done (by kernel_rfl) ?_ _
            have hB := hB5
            go_wp2_with fail
            rw [← HIN.out] at R55
            obtain ⟨g9, ⟨c9, rfl⟩, _, _⟩ := row_addr' R55 (by rw [HNX.out]; exact ins_pos _ _)
            obtain ⟨_, _, e9, h91, h92, _, h94⟩ := num_of_row R55
            cases e9
            go_roundw
            case rel => exact ⟨i + 1, _, by go_num, by omega, Lib.hid rfl, by rw [HNX.out]; have := ins_len (n := n) []; simp at this ⊢; omega, Lib.hid (.inr ⟨_, _, _, rfl, by rw [HNX.out]; exact ins_pos _ _, h91, h92, h94⟩), hBo.trans (hB.mono hBo.size)⟩
            case measure => simp [intOf]; omega
      have HNO := Lib.hid hNo
      clear hNo HV
      go_upto_region 7 with (go_at_call 40; (with_reducible refine HC.out.mono ?_); rintro e w1 ⟨rfl, rfl⟩)
      go_loop [6] (fun kv => ∃ k : Nat, kv = .int .i64 k ∧ k ≤ S.length ∧ Hid (∀ j, j < k → ig S j < n)) (fun kv => S.length - (intOf kv).toNat)
      case atStart => exact ⟨0, rfl, by omega, Lib.hid (fun j hj => absurd hj (Nat.not_lt_zero _))⟩
      case round =>
        obtain ⟨k, rfl, hk, HK⟩ := hrel
        by_cases hkl : k < S.length
        · obtain ⟨b, off, e0, hb, hc⟩ := HNO.out hS0
          simp only [Option.some.injEq, Addr.mk.injEq, and_true] at e0
          obtain ⟨rfl, rfl⟩ := e0
          have c0 := hc k hkl
          clear hc
          obtain ⟨x, hx⟩ : ∃ x, ig S k = x := ⟨_, rfl⟩
          rw [hx] at c0
          have HX := Lib.hid hx
          clear hx
          by_cases hxn : x < n
          · have g1 : decide (x < n) = true := decide_eq_true hxn
            have HKN : Hid (∀ j, j < k + 1 → ig S j < n) := Lib.hid fun j hj => by
              rcases Nat.lt_or_ge j k with l | l
              · exact HK.out j l
              · obtain rfl : j = k := by omega
                rw [HX.out]; exact hxn
            clear hxn
            go_wp2_with fail
            go_round
            case rel => exact ⟨k + 1, by go_num, by omega, HKN⟩
            case measure => simp [intOf]; omega
          · have g1 : decide (x < n) = false := decide_eq_false hxn
            have gk : ((k : Int) == S.length) = false := beq_eq_false_iff_ne.2 (by omega)
            by_cases hxe : x = n
            · have g2 : (x != n) = false := bne_eq_false_iff_eq.2 hxe
              have HSN : Hid (rsumsTo L (i + 1) = S) := Lib.hid (by rw [HNX.out, ins_same S k hkl HK.out (by rw [HX.out]; exact hxe)])
              clear hxn hxe
              go_wp2_with fail
              go_roundw
              case rel => exact ⟨i + 1, S, by go_num, by omega, HSN, by omega, Lib.hid (.inr ⟨_, _, _, rfl, hS0, hcl, hcm, HNO.out⟩), hB⟩
              case measure => simp [intOf]; omega
            · have g2 : (x != n) = true := bne_iff_ne.2 hxe
              have HIN : Hid (rsumsTo L (i + 1) = S.take k ++ n :: S.drop k) := Lib.hid (by rw [HNX.out, ins_at S k hk HK.out (.inr ⟨by rw [HX.out]; exact hxn, by rw [HX.out]; exact hxe⟩)])
              clear hxn hxe
              have hBo := hB
              have HTRUE : Hid (∀ w' : World, Below wr.heap.size wr w' → (fun _ : World => True) w') := Lib.hid fun _ _ => trivial
              go_upto_region 10 with fail
              have hkS : k < S.length := hkl
              have hkc : k ≤ co := by omega
              have hkn : ¬ co = k := by omega
              refine wp_region_held_drew (S := (fun _ => True)) (by kernel_rfl) (HTRUE.out _ (Below.refl _ _).drew) (fun hHeld => ?_)
              have hB0 := (Below.refl wr.heap.size wr).drew
              obtain ⟨w0, hw0⟩ : ∃ x, wr.drew = x := ⟨_, rfl⟩
              simp only [hw0] at hB0 hHeld ⊢
              clear hw0
              refine wpAnyH_take (i := 1) (oi := _) (v := ?_) (by simp only [List.getElem?_toArray, List.getElem?_cons_succ, List.getElem?_cons_zero]; rfl) (by kernel_rfl) (by kernel_rfl) (by kernel_rfl) (by exact fun _ _ _ h => h) (Or.inl ⟨by rfl, ?_⟩) (by assumption) ?_
              rotate_left
              · (intro w hSw; (try dsimp only at hSw); go_split_ands; go_simp; try with_reducible rfl)
              simp only [Act.put, List.setIfInBounds_toArray, List.set_cons_zero, List.set_cons_succ]
              refine wpAnyH_take (i := 2) (oi := _) (v := ?_) (by simp only [List.getElem?_toArray, List.getElem?_cons_succ, List.getElem?_cons_zero]; rfl) (by kernel_rfl) (by kernel_rfl) (by kernel_rfl) (by exact fun _ _ _ h => h) (Or.inl ⟨by rfl, ?_⟩) (by assumption) ?_
              rotate_left
              · (intro w hSw; (try dsimp only at hSw); go_split_ands; go_simp; try with_reducible rfl)
              simp only [Act.put, List.setIfInBounds_toArray, List.set_cons_zero, List.set_cons_succ]
              refine wpAnyH_take (i := 3) (oi := _) (v := ?_) (by simp only [List.getElem?_toArray, List.getElem?_cons_succ, List.getElem?_cons_zero]; rfl) (by kernel_rfl) (by kernel_rfl) (by kernel_rfl) (by exact fun _ _ _ h => h) (Or.inl ⟨by rfl, ?_⟩) (by assumption) ?_
              rotate_left
              · (intro w hSw; (try dsimp only at hSw); go_split_ands; go_simp; try with_reducible rfl)
              simp only [Act.put, List.setIfInBounds_toArray, List.set_cons_zero, List.set_cons_succ]
              refine wpAnyH_take (i := 5) (oi := _) (v := ?_) (by simp only [List.getElem?_toArray, List.getElem?_cons_succ, List.getElem?_cons_zero]; rfl) (by kernel_rfl) (by kernel_rfl) (by kernel_rfl) (by exact fun _ _ _ h => h) (Or.inl ⟨by rfl, ?_⟩) (by assumption) ?_
              rotate_left
              · (intro w hSw; (try dsimp only at hSw); go_split_ands; go_simp; try with_reducible rfl)
              simp only [Act.put, List.setIfInBounds_toArray, List.set_cons_zero, List.set_cons_succ]
              refine wpAnyH_take (i := 8) (oi := _) (v := ?_) (by simp only [List.getElem?_toArray, List.getElem?_cons_succ, List.getElem?_cons_zero]; rfl) (by kernel_rfl) (by kernel_rfl) (by kernel_rfl) (by exact fun _ _ _ h => h) (Or.inl ⟨by rfl, ?_⟩) (by assumption) ?_
              rotate_left
              · (intro w hSw; (try dsimp only at hSw); go_split_ands; go_simp; try with_reducible rfl)
              simp only [Act.put, List.setIfInBounds_toArray, List.set_cons_zero, List.set_cons_succ]
              refine wpAnyH_take (i := 9) (oi := _) (v := ?_) (by simp only [List.getElem?_toArray, List.getElem?_cons_succ, List.getElem?_cons_zero]; rfl) (by kernel_rfl) (by kernel_rfl) (by kernel_rfl) (by exact fun _ _ _ h => h) (Or.inl ⟨by rfl, ?_⟩) (by assumption) ?_
              rotate_left
              · (intro w hSw; (try dsimp only at hSw); go_split_ands; go_simp; try with_reducible rfl)
              simp only [Act.put, List.setIfInBounds_toArray, List.set_cons_zero, List.set_cons_succ]
              refine wpAnyH_take (i := 10) (oi := _) (v := ?_) (by simp only [List.getElem?_toArray, List.getElem?_cons_succ, List.getElem?_cons_zero]; rfl) (by kernel_rfl) (by kernel_rfl) (by kernel_rfl) (by exact fun _ _ _ h => h) (Or.inl ⟨by rfl, ?_⟩) (by assumption) ?_
              rotate_left
              · (intro w hSw; (try dsimp only at hSw); go_split_ands; go_simp; try with_reducible rfl)
              simp only [Act.put, List.setIfInBounds_toArray, List.set_cons_zero, List.set_cons_succ]
              refine wpAnyH_ready (rs := [0, 6]) (by kernel_rfl) (by simp) ?_
              refine AllReadyH.cons (o := _) (by simp only [List.getElem?_toArray, List.getElem?_cons_zero]; rfl) (fun K hK => ?_) (AllReadyH.cons (o := _) (by simp only [List.getElem?_toArray, List.getElem?_cons_succ, List.getElem?_cons_zero]; rfl) (fun K hK => ?_) (AllReadyH.nil))
              · rw [if_pos (by rfl)]
                go_split_ands
                go_wp2_with fail
                have hB1 := hB0.alloc hB0.size (.cells #[] 3)
                have R44 := World.ownsRow_lit (base := wr.heap.size) (size := 1) (e := 3) w0 #[] 0 hB0.size (by unfold maxLen; omega) rfl
                try have hne : b50 ≠ w0.heap.size := (by have := F50.2; omega)
                try replace F50 := F50.alloc (.cells #[] 3)
                obtain ⟨b44, hb44⟩ : ∃ b, w0.heap.size = b := ⟨_, rfl⟩
                try rw [hb44] at hne
                simp only [hb44] at R44 ⊢
                have hb44l : b44 < (w0.alloc (.cells #[] 3)).heap.size := by rw [← hb44]; simp
                generalize w0.alloc (.cells #[] 3) = w1 at *
                refine hK.out _ _ (HTRUE.out _ hB1) (fun hHeld => ?_)
                clear hK K
                try simp only [Act.put, List.setIfInBounds_toArray, List.set_cons_zero, List.set_cons_succ]
                refine wpAnyH_ready (rs := [4, 6]) (by kernel_rfl) (by simp) ?_
                refine AllReadyH.cons (o := _) (by simp only [List.getElem?_toArray, List.getElem?_cons_succ, List.getElem?_cons_zero]; rfl) (fun K hK => ?_) (AllReadyH.cons (o := _) (by simp only [List.getElem?_toArray, List.getElem?_cons_succ, List.getElem?_cons_zero]; rfl) (fun K hK => ?_) (AllReadyH.nil))
                · refine num_step rfl (.tmp 44) (.tmp 47) rfl wr.heap.size _ [] rfl R44 (some ⟨b0, off0, none⟩) (S.take k) _ _ wr.heap.size rfl (by rw [List.length_take]; omega) (fun e => by cases e) ((HNO.out.take k).below hB1) (by rw [List.length_take]; simp; omega) hB1.size ?_
                  intro v48 w2 R48 hg48
                  rw [List.nil_append] at R48
                  have hB2 := grown_own R44 hg48 hB1 hB1.size (Nat.le_refl _)
                  try replace F50 := F50.grown hg48 hne
                  clear hg48 R44
                  refine hK.out _ _ (HTRUE.out _ hB2) (fun hHeld => ?_)
                  clear hK K
                  try simp only [Act.put, List.setIfInBounds_toArray, List.set_cons_zero, List.set_cons_succ]
                  refine wpAnyH_ready (rs := [6]) (by kernel_rfl) (by simp) ?_
                  refine AllReadyH.cons (o := _) (by simp only [List.getElem?_toArray, List.getElem?_cons_succ, List.getElem?_cons_zero]; rfl) (fun K hK => ?_) (AllReadyH.nil)
                  rw [if_pos (by rfl)]
                  go_split_ands
                  go_wp2_with fail
                  have hB3 := hB2.alloc hB2.size (.cells #[.int .i64 n] 3)
                  have F50 := AtI.new w2 n 3
                  try have hne : w2.heap.size ≠ b44 := (by omega)
                  try replace R44 := R44.alloc (.cells #[.int .i64 n] 3)
                  try replace R48 := R48.alloc (.cells #[.int .i64 n] 3)
                  obtain ⟨b50, hb50⟩ : ∃ b, w2.heap.size = b := ⟨_, rfl⟩
                  try rw [hb50] at hne
                  simp only [hb50] at F50 ⊢
                  generalize w2.alloc (.cells #[.int .i64 n] 3) = w3 at *
                  refine hK.out _ _ (HTRUE.out _ hB3) (fun hHeld => ?_)
                  clear hK K
                  try simp only [Act.put, List.setIfInBounds_toArray, List.set_cons_zero, List.set_cons_succ]
                  refine wpAnyH_ready (rs := [7]) (by kernel_rfl) (by simp) ?_
                  refine AllReadyH.cons (o := _) (by simp only [List.getElem?_toArray, List.getElem?_cons_succ, List.getElem?_cons_zero]; rfl) (fun K hK => ?_) (AllReadyH.nil)
                  refine num_step rfl (.tmp 48) (.tmp 50) rfl wr.heap.size _ (S.take k) rfl R48 (some ⟨b50, 0, none⟩) [n] 1 1 w3.heap.size rfl rfl (fun e => by cases e) F50.nums (by rw [List.length_take]; simp; omega) hB3.size ?_
                  intro v51 w4 R51 hg51
                  have hB4 := grown_own R48 hg51 hB3 hB3.size (Nat.le_refl _)
                  clear hg51 R48 F50
                  refine hK.out _ _ (HTRUE.out _ hB4) (fun hHeld => ?_)
                  clear hK K
                  try simp only [Act.put, List.setIfInBounds_toArray, List.set_cons_zero, List.set_cons_succ]
                  refine wpAnyH_ready (rs := [11]) (by kernel_rfl) (by simp) ?_
                  refine AllReadyH.cons (o := _) (by simp only [List.getElem?_toArray, List.getElem?_cons_succ, List.getElem?_cons_zero]; rfl) (fun K hK => ?_) (AllReadyH.nil)
                  refine num_step rfl (.tmp 51) (.tmp 54) rfl wr.heap.size _ (S.take k ++ [n]) rfl R51 (some ⟨b0, off0 + k, none⟩) (S.drop k) _ _ wr.heap.size rfl (by first | (rw [List.length_drop]; done) | simp) (fun e => by cases e) ((HNO.out.drop k).below hB4) (by rw [List.length_append, List.length_take, List.length_drop, List.length_singleton]; omega) hB4.size ?_
                  intro v55 w5 R55 hg55
                  have hB5 := grown_own R51 hg55 hB4 hB4.size (Nat.le_refl _)
                  clear hg55 R51
                  refine hK.out _ _ (HTRUE.out _ hB5) (fun hHeld => ?_)
                  clear hK K
                  try simp only [Act.put, List.setIfInBounds_toArray, List.set_cons_zero, List.set_cons_succ]
                  refine wpAnyH_take (i := 12) (oi := _) (v := ?_) (by simp only [List.getElem?_toArray, List.getElem?_cons_succ, List.getElem?_cons_zero]; rfl) (by kernel_rfl) (by kernel_rfl) (by kernel_rfl) (by exact fun _ _ _ h => h) (Or.inl ⟨by rfl, ?_⟩) (by assumption) ?_
                  rotate_left
                  · (intro w hSw; (try dsimp only at hSw); go_split_ands; go_simp; try with_reducible rfl)
                  simp only [Act.put, List.setIfInBounds_toArray, List.set_cons_zero, List.set_cons_succ]
                  refine wpAnyH_done (by kernel_rfl) ?_ _
                  have hB := hB5
                  go_wp2_with fail
                  rw [List.append_assoc, show [n] ++ S.drop k = n :: S.drop k from rfl, ← HIN.out] at R55
                  obtain ⟨g9, ⟨c9, rfl⟩, _, _⟩ := row_addr' R55 (by rw [HNX.out]; exact ins_pos _ _)
                  obtain ⟨_, _, e9, h91, h92, _, h94⟩ := num_of_row R55
                  cases e9
                  go_roundw
                  case rel => exact ⟨i + 1, _, by go_num, by omega, Lib.hid rfl, by rw [HNX.out]; have := ins_len (n := n) S; simp at this ⊢; omega, Lib.hid (.inr ⟨_, _, _, rfl, by rw [HNX.out]; exact ins_pos _ _, h91, h92, h94⟩), hBo.trans (hB.mono hBo.size)⟩
                  case measure => simp [intOf]; omega
                · rw [if_pos (by rfl)]
                  go_split_ands
                  go_wp2_with fail
                  have hB2 := hB1.alloc hB1.size (.cells #[.int .i64 n] 3)
                  have F50 := AtI.new w1 n 3
                  try have hne : w1.heap.size ≠ b44 := (by omega)
                  try replace R44 := R44.alloc (.cells #[.int .i64 n] 3)
                  try replace R48 := R48.alloc (.cells #[.int .i64 n] 3)
                  obtain ⟨b50, hb50⟩ : ∃ b, w1.heap.size = b := ⟨_, rfl⟩
                  try rw [hb50] at hne
                  simp only [hb50] at F50 ⊢
                  generalize w1.alloc (.cells #[.int .i64 n] 3) = w2 at *
                  refine hK.out _ _ (HTRUE.out _ hB2) (fun hHeld => ?_)
                  clear hK K
                  try simp only [Act.put, List.setIfInBounds_toArray, List.set_cons_zero, List.set_cons_succ]
                  refine wpAnyH_ready (rs := [4]) (by kernel_rfl) (by simp) ?_
                  refine AllReadyH.cons (o := _) (by simp only [List.getElem?_toArray, List.getElem?_cons_succ, List.getElem?_cons_zero]; rfl) (fun K hK => ?_) (AllReadyH.nil)
                  refine num_step rfl (.tmp 44) (.tmp 47) rfl wr.heap.size _ [] rfl R44 (some ⟨b0, off0, none⟩) (S.take k) _ _ wr.heap.size rfl (by rw [List.length_take]; omega) (fun e => by cases e) ((HNO.out.take k).below hB2) (by rw [List.length_take]; simp; omega) hB2.size ?_
                  intro v48 w3 R48 hg48
                  rw [List.nil_append] at R48
                  have hB3 := grown_own R44 hg48 hB2 hB2.size (Nat.le_refl _)
                  try replace F50 := F50.grown hg48 hne
                  clear hg48 R44
                  refine hK.out _ _ (HTRUE.out _ hB3) (fun hHeld => ?_)
                  clear hK K
                  try simp only [Act.put, List.setIfInBounds_toArray, List.set_cons_zero, List.set_cons_succ]
                  refine wpAnyH_ready (rs := [7]) (by kernel_rfl) (by simp) ?_
                  refine AllReadyH.cons (o := _) (by simp only [List.getElem?_toArray, List.getElem?_cons_succ, List.getElem?_cons_zero]; rfl) (fun K hK => ?_) (AllReadyH.nil)
                  refine num_step rfl (.tmp 48) (.tmp 50) rfl wr.heap.size _ (S.take k) rfl R48 (some ⟨b50, 0, none⟩) [n] 1 1 w3.heap.size rfl rfl (fun e => by cases e) F50.nums (by rw [List.length_take]; simp; omega) hB3.size ?_
                  intro v51 w4 R51 hg51
                  have hB4 := grown_own R48 hg51 hB3 hB3.size (Nat.le_refl _)
                  clear hg51 R48 F50
                  refine hK.out _ _ (HTRUE.out _ hB4) (fun hHeld => ?_)
                  clear hK K
                  try simp only [Act.put, List.setIfInBounds_toArray, List.set_cons_zero, List.set_cons_succ]
                  refine wpAnyH_ready (rs := [11]) (by kernel_rfl) (by simp) ?_
                  refine AllReadyH.cons (o := _) (by simp only [List.getElem?_toArray, List.getElem?_cons_succ, List.getElem?_cons_zero]; rfl) (fun K hK => ?_) (AllReadyH.nil)
                  refine num_step rfl (.tmp 51) (.tmp 54) rfl wr.heap.size _ (S.take k ++ [n]) rfl R51 (some ⟨b0, off0 + k, none⟩) (S.drop k) _ _ wr.heap.size rfl (by first | (rw [List.length_drop]; done) | simp) (fun e => by cases e) ((HNO.out.drop k).below hB4) (by rw [List.length_append, List.length_take, List.length_drop, List.length_singleton]; omega) hB4.size ?_
                  intro v55 w5 R55 hg55
                  have hB5 := grown_own R51 hg55 hB4 hB4.size (Nat.le_refl _)
                  clear hg55 R51
                  refine hK.out _ _ (HTRUE.out _ hB5) (fun hHeld => ?_)
                  clear hK K
                  try simp only [Act.put, List.setIfInBounds_toArray, List.set_cons_zero, List.set_cons_succ]
                  refine wpAnyH_take (i := 12) (oi := _) (v := ?_) (by simp only [List.getElem?_toArray, List.getElem?_cons_succ, List.getElem?_cons_zero]; rfl) (by kernel_rfl) (by kernel_rfl) (by kernel_rfl) (by exact fun _ _ _ h => h) (Or.inl ⟨by rfl, ?_⟩) (by assumption) ?_
                  rotate_left
                  · (intro w hSw; (try dsimp only at hSw); go_split_ands; go_simp; try with_reducible rfl)
                  simp only [Act.put, List.setIfInBounds_toArray, List.set_cons_zero, List.set_cons_succ]
                  refine wpAnyH_done (by kernel_rfl) ?_ _
                  have hB := hB5
                  go_wp2_with fail
                  rw [List.append_assoc, show [n] ++ S.drop k = n :: S.drop k from rfl, ← HIN.out] at R55
                  obtain ⟨g9, ⟨c9, rfl⟩, _, _⟩ := row_addr' R55 (by rw [HNX.out]; exact ins_pos _ _)
                  obtain ⟨_, _, e9, h91, h92, _, h94⟩ := num_of_row R55
                  cases e9
                  go_roundw
                  case rel => exact ⟨i + 1, _, by go_num, by omega, Lib.hid rfl, by rw [HNX.out]; have := ins_len (n := n) S; simp at this ⊢; omega, Lib.hid (.inr ⟨_, _, _, rfl, by rw [HNX.out]; exact ins_pos _ _, h91, h92, h94⟩), hBo.trans (hB.mono hBo.size)⟩
                  case measure => simp [intOf]; omega
              · rw [if_pos (by rfl)]
                go_split_ands
                go_wp2_with fail
                have hB1 := hB0.alloc hB0.size (.cells #[.int .i64 n] 3)
                have F50 := AtI.new w0 n 3
                try have hne : w0.heap.size ≠ b44 := (by omega)
                try replace R44 := R44.alloc (.cells #[.int .i64 n] 3)
                try replace R48 := R48.alloc (.cells #[.int .i64 n] 3)
                obtain ⟨b50, hb50⟩ : ∃ b, w0.heap.size = b := ⟨_, rfl⟩
                try rw [hb50] at hne
                simp only [hb50] at F50 ⊢
                generalize w0.alloc (.cells #[.int .i64 n] 3) = w1 at *
                refine hK.out _ _ (HTRUE.out _ hB1) (fun hHeld => ?_)
                clear hK K
                try simp only [Act.put, List.setIfInBounds_toArray, List.set_cons_zero, List.set_cons_succ]
                refine wpAnyH_ready (rs := [0]) (by kernel_rfl) (by simp) ?_
                refine AllReadyH.cons (o := _) (by simp only [List.getElem?_toArray, List.getElem?_cons_zero]; rfl) (fun K hK => ?_) (AllReadyH.nil)
                rw [if_pos (by rfl)]
                go_split_ands
                go_wp2_with fail
                have hB2 := hB1.alloc hB1.size (.cells #[] 3)
                have R44 := World.ownsRow_lit (base := wr.heap.size) (size := 1) (e := 3) w1 #[] 0 hB1.size (by unfold maxLen; omega) rfl
                try have hne : b50 ≠ w1.heap.size := (by have := F50.2; omega)
                try replace F50 := F50.alloc (.cells #[] 3)
                obtain ⟨b44, hb44⟩ : ∃ b, w1.heap.size = b := ⟨_, rfl⟩
                try rw [hb44] at hne
                simp only [hb44] at R44 ⊢
                have hb44l : b44 < (w1.alloc (.cells #[] 3)).heap.size := by rw [← hb44]; simp
                generalize w1.alloc (.cells #[] 3) = w2 at *
                refine hK.out _ _ (HTRUE.out _ hB2) (fun hHeld => ?_)
                clear hK K
                try simp only [Act.put, List.setIfInBounds_toArray, List.set_cons_zero, List.set_cons_succ]
                refine wpAnyH_ready (rs := [4]) (by kernel_rfl) (by simp) ?_
                refine AllReadyH.cons (o := _) (by simp only [List.getElem?_toArray, List.getElem?_cons_succ, List.getElem?_cons_zero]; rfl) (fun K hK => ?_) (AllReadyH.nil)
                refine num_step rfl (.tmp 44) (.tmp 47) rfl wr.heap.size _ [] rfl R44 (some ⟨b0, off0, none⟩) (S.take k) _ _ wr.heap.size rfl (by rw [List.length_take]; omega) (fun e => by cases e) ((HNO.out.take k).below hB2) (by rw [List.length_take]; simp; omega) hB2.size ?_
                intro v48 w3 R48 hg48
                rw [List.nil_append] at R48
                have hB3 := grown_own R44 hg48 hB2 hB2.size (Nat.le_refl _)
                try replace F50 := F50.grown hg48 hne
                clear hg48 R44
                refine hK.out _ _ (HTRUE.out _ hB3) (fun hHeld => ?_)
                clear hK K
                try simp only [Act.put, List.setIfInBounds_toArray, List.set_cons_zero, List.set_cons_succ]
                refine wpAnyH_ready (rs := [7]) (by kernel_rfl) (by simp) ?_
                refine AllReadyH.cons (o := _) (by simp only [List.getElem?_toArray, List.getElem?_cons_succ, List.getElem?_cons_zero]; rfl) (fun K hK => ?_) (AllReadyH.nil)
                refine num_step rfl (.tmp 48) (.tmp 50) rfl wr.heap.size _ (S.take k) rfl R48 (some ⟨b50, 0, none⟩) [n] 1 1 w3.heap.size rfl rfl (fun e => by cases e) F50.nums (by rw [List.length_take]; simp; omega) hB3.size ?_
                intro v51 w4 R51 hg51
                have hB4 := grown_own R48 hg51 hB3 hB3.size (Nat.le_refl _)
                clear hg51 R48 F50
                refine hK.out _ _ (HTRUE.out _ hB4) (fun hHeld => ?_)
                clear hK K
                try simp only [Act.put, List.setIfInBounds_toArray, List.set_cons_zero, List.set_cons_succ]
                refine wpAnyH_ready (rs := [11]) (by kernel_rfl) (by simp) ?_
                refine AllReadyH.cons (o := _) (by simp only [List.getElem?_toArray, List.getElem?_cons_succ, List.getElem?_cons_zero]; rfl) (fun K hK => ?_) (AllReadyH.nil)
                refine num_step rfl (.tmp 51) (.tmp 54) rfl wr.heap.size _ (S.take k ++ [n]) rfl R51 (some ⟨b0, off0 + k, none⟩) (S.drop k) _ _ wr.heap.size rfl (by first | (rw [List.length_drop]; done) | simp) (fun e => by cases e) ((HNO.out.drop k).below hB4) (by rw [List.length_append, List.length_take, List.length_drop, List.length_singleton]; omega) hB4.size ?_
                intro v55 w5 R55 hg55
                have hB5 := grown_own R51 hg55 hB4 hB4.size (Nat.le_refl _)
                clear hg55 R51
                refine hK.out _ _ (HTRUE.out _ hB5) (fun hHeld => ?_)
                clear hK K
                try simp only [Act.put, List.setIfInBounds_toArray, List.set_cons_zero, List.set_cons_succ]
                refine wpAnyH_take (i := 12) (oi := _) (v := ?_) (by simp only [List.getElem?_toArray, List.getElem?_cons_succ, List.getElem?_cons_zero]; rfl) (by kernel_rfl) (by kernel_rfl) (by kernel_rfl) (by exact fun _ _ _ h => h) (Or.inl ⟨by rfl, ?_⟩) (by assumption) ?_
                rotate_left
                · (intro w hSw; (try dsimp only at hSw); go_split_ands; go_simp; try with_reducible rfl)
                simp only [Act.put, List.setIfInBounds_toArray, List.set_cons_zero, List.set_cons_succ]
                refine wpAnyH_done (by kernel_rfl) ?_ _
                have hB := hB5
                go_wp2_with fail
                rw [List.append_assoc, show [n] ++ S.drop k = n :: S.drop k from rfl, ← HIN.out] at R55
                obtain ⟨g9, ⟨c9, rfl⟩, _, _⟩ := row_addr' R55 (by rw [HNX.out]; exact ins_pos _ _)
                obtain ⟨_, _, e9, h91, h92, _, h94⟩ := num_of_row R55
                cases e9
                go_roundw
                case rel => exact ⟨i + 1, _, by go_num, by omega, Lib.hid rfl, by rw [HNX.out]; have := ins_len (n := n) S; simp at this ⊢; omega, Lib.hid (.inr ⟨_, _, _, rfl, by rw [HNX.out]; exact ins_pos _ _, h91, h92, h94⟩), hBo.trans (hB.mono hBo.size)⟩
                case measure => simp [intOf]; omega
        · obtain rfl : k = S.length := by omega
          have HIN : Hid (rsumsTo L (i + 1) = S.take S.length ++ n :: S.drop S.length) := Lib.hid (by rw [HNX.out, ins_at S S.length hk HK.out (.inl rfl)])
          have HDR : Hid (S.drop S.length = []) := Lib.hid (List.drop_length)
          have hkc : S.length ≤ co := by omega
          have hBo := hB
          have HTRUE : Hid (∀ w' : World, Below wr.heap.size wr w' → (fun _ : World => True) w') := Lib.hid fun _ _ => trivial
          obtain ⟨b, off, e0, hb, _⟩ := HNO.out hS0
          simp only [Option.some.injEq, Addr.mk.injEq, and_true] at e0
          obtain ⟨rfl, rfl⟩ := e0
          by_cases hce : co = S.length
          · go_upto_region 10 with fail
            refine wp_region_held_drew (S := (fun _ => True)) (by kernel_rfl) (HTRUE.out _ (Below.refl _ _).drew) (fun hHeld => ?_)
            have hB0 := (Below.refl wr.heap.size wr).drew
            obtain ⟨w0, hw0⟩ : ∃ x, wr.drew = x := ⟨_, rfl⟩
            simp only [hw0] at hB0 hHeld ⊢
            clear hw0
            refine wpAnyH_take (i := 1) (oi := _) (v := ?_) (by simp only [List.getElem?_toArray, List.getElem?_cons_succ, List.getElem?_cons_zero]; rfl) (by kernel_rfl) (by kernel_rfl) (by kernel_rfl) (by exact fun _ _ _ h => h) (Or.inl ⟨by rfl, ?_⟩) (by assumption) ?_
            rotate_left
            · (intro w hSw; (try dsimp only at hSw); go_split_ands; go_simp; try with_reducible rfl)
            simp only [Act.put, List.setIfInBounds_toArray, List.set_cons_zero, List.set_cons_succ]
            refine wpAnyH_take (i := 2) (oi := _) (v := ?_) (by simp only [List.getElem?_toArray, List.getElem?_cons_succ, List.getElem?_cons_zero]; rfl) (by kernel_rfl) (by kernel_rfl) (by kernel_rfl) (by exact fun _ _ _ h => h) (Or.inl ⟨by rfl, ?_⟩) (by assumption) ?_
            rotate_left
            · (intro w hSw; (try dsimp only at hSw); go_split_ands; go_simp; try with_reducible rfl)
            simp only [Act.put, List.setIfInBounds_toArray, List.set_cons_zero, List.set_cons_succ]
            refine wpAnyH_take (i := 3) (oi := _) (v := ?_) (by simp only [List.getElem?_toArray, List.getElem?_cons_succ, List.getElem?_cons_zero]; rfl) (by kernel_rfl) (by kernel_rfl) (by kernel_rfl) (by exact fun _ _ _ h => h) (Or.inl ⟨by rfl, ?_⟩) (by assumption) ?_
            rotate_left
            · (intro w hSw; (try dsimp only at hSw); go_split_ands; go_simp; try with_reducible rfl)
            simp only [Act.put, List.setIfInBounds_toArray, List.set_cons_zero, List.set_cons_succ]
            refine wpAnyH_take (i := 5) (oi := _) (v := ?_) (by simp only [List.getElem?_toArray, List.getElem?_cons_succ, List.getElem?_cons_zero]; rfl) (by kernel_rfl) (by kernel_rfl) (by kernel_rfl) (by exact fun _ _ _ h => h) (Or.inl ⟨by rfl, ?_⟩) (by assumption) ?_
            rotate_left
            · (intro w hSw; (try dsimp only at hSw); go_split_ands; go_simp; try with_reducible rfl)
            simp only [Act.put, List.setIfInBounds_toArray, List.set_cons_zero, List.set_cons_succ]
            refine wpAnyH_take (i := 8) (oi := _) (v := ?_) (by simp only [List.getElem?_toArray, List.getElem?_cons_succ, List.getElem?_cons_zero]; rfl) (by kernel_rfl) (by kernel_rfl) (by kernel_rfl) (by exact fun _ _ _ h => h) (Or.inl ⟨by rfl, ?_⟩) (by assumption) ?_
            rotate_left
            · (intro w hSw; (try dsimp only at hSw); go_split_ands; go_simp; try with_reducible rfl)
            simp only [Act.put, List.setIfInBounds_toArray, List.set_cons_zero, List.set_cons_succ]
            refine wpAnyH_take (i := 9) (oi := _) (v := ?_) (by simp only [List.getElem?_toArray, List.getElem?_cons_succ, List.getElem?_cons_zero]; rfl) (by kernel_rfl) (by kernel_rfl) (by kernel_rfl) (by exact fun _ _ _ h => h) (Or.inl ⟨by rfl, ?_⟩) (by assumption) ?_
            rotate_left
            · (intro w hSw; (try dsimp only at hSw); go_split_ands; go_simp; try with_reducible rfl)
            simp only [Act.put, List.setIfInBounds_toArray, List.set_cons_zero, List.set_cons_succ]
            refine wpAnyH_take (i := 10) (oi := _) (v := ?_) (by simp only [List.getElem?_toArray, List.getElem?_cons_succ, List.getElem?_cons_zero]; rfl) (by kernel_rfl) (by kernel_rfl) (by kernel_rfl) (by exact fun _ _ _ h => h) (Or.inl ⟨by rfl, ?_⟩) (by assumption) ?_
            rotate_left
            · (intro w hSw; (try dsimp only at hSw); go_split_ands; go_simp; try with_reducible rfl)
            simp only [Act.put, List.setIfInBounds_toArray, List.set_cons_zero, List.set_cons_succ]
            refine wpAnyH_ready (rs := [0, 6]) (by kernel_rfl) (by simp) ?_
            refine AllReadyH.cons (o := _) (by simp only [List.getElem?_toArray, List.getElem?_cons_zero]; rfl) (fun K hK => ?_) (AllReadyH.cons (o := _) (by simp only [List.getElem?_toArray, List.getElem?_cons_succ, List.getElem?_cons_zero]; rfl) (fun K hK => ?_) (AllReadyH.nil))
            · rw [if_pos (by rfl)]
              go_split_ands
              go_wp2_with fail
              have hB1 := hB0.alloc hB0.size (.cells #[] 3)
              have R44 := World.ownsRow_lit (base := wr.heap.size) (size := 1) (e := 3) w0 #[] 0 hB0.size (by unfold maxLen; omega) rfl
              try have hne : b50 ≠ w0.heap.size := (by have := F50.2; omega)
              try replace F50 := F50.alloc (.cells #[] 3)
              obtain ⟨b44, hb44⟩ : ∃ b, w0.heap.size = b := ⟨_, rfl⟩
              try rw [hb44] at hne
              simp only [hb44] at R44 ⊢
              have hb44l : b44 < (w0.alloc (.cells #[] 3)).heap.size := by rw [← hb44]; simp
              generalize w0.alloc (.cells #[] 3) = w1 at *
              refine hK.out _ _ (HTRUE.out _ hB1) (fun hHeld => ?_)
              clear hK K
              try simp only [Act.put, List.setIfInBounds_toArray, List.set_cons_zero, List.set_cons_succ]
              refine wpAnyH_ready (rs := [4, 6]) (by kernel_rfl) (by simp) ?_
              refine AllReadyH.cons (o := _) (by simp only [List.getElem?_toArray, List.getElem?_cons_succ, List.getElem?_cons_zero]; rfl) (fun K hK => ?_) (AllReadyH.cons (o := _) (by simp only [List.getElem?_toArray, List.getElem?_cons_succ, List.getElem?_cons_zero]; rfl) (fun K hK => ?_) (AllReadyH.nil))
              · refine num_step rfl (.tmp 44) (.tmp 47) rfl wr.heap.size _ [] rfl R44 (some ⟨b0, off0, none⟩) (S.take S.length) _ _ wr.heap.size rfl (by rw [List.length_take]; omega) (fun e => by cases e) ((HNO.out.take S.length).below hB1) (by rw [List.length_take]; simp; omega) hB1.size ?_
                intro v48 w2 R48 hg48
                rw [List.nil_append] at R48
                have hB2 := grown_own R44 hg48 hB1 hB1.size (Nat.le_refl _)
                try replace F50 := F50.grown hg48 hne
                clear hg48 R44
                refine hK.out _ _ (HTRUE.out _ hB2) (fun hHeld => ?_)
                clear hK K
                try simp only [Act.put, List.setIfInBounds_toArray, List.set_cons_zero, List.set_cons_succ]
                refine wpAnyH_ready (rs := [6]) (by kernel_rfl) (by simp) ?_
                refine AllReadyH.cons (o := _) (by simp only [List.getElem?_toArray, List.getElem?_cons_succ, List.getElem?_cons_zero]; rfl) (fun K hK => ?_) (AllReadyH.nil)
                rw [if_pos (by rfl)]
                go_split_ands
                go_wp2_with fail
                have hB3 := hB2.alloc hB2.size (.cells #[.int .i64 n] 3)
                have F50 := AtI.new w2 n 3
                try have hne : w2.heap.size ≠ b44 := (by omega)
                try replace R44 := R44.alloc (.cells #[.int .i64 n] 3)
                try replace R48 := R48.alloc (.cells #[.int .i64 n] 3)
                obtain ⟨b50, hb50⟩ : ∃ b, w2.heap.size = b := ⟨_, rfl⟩
                try rw [hb50] at hne
                simp only [hb50] at F50 ⊢
                generalize w2.alloc (.cells #[.int .i64 n] 3) = w3 at *
                refine hK.out _ _ (HTRUE.out _ hB3) (fun hHeld => ?_)
                clear hK K
                try simp only [Act.put, List.setIfInBounds_toArray, List.set_cons_zero, List.set_cons_succ]
                refine wpAnyH_ready (rs := [7]) (by kernel_rfl) (by simp) ?_
                refine AllReadyH.cons (o := _) (by simp only [List.getElem?_toArray, List.getElem?_cons_succ, List.getElem?_cons_zero]; rfl) (fun K hK => ?_) (AllReadyH.nil)
                refine num_step rfl (.tmp 48) (.tmp 50) rfl wr.heap.size _ (S.take S.length) rfl R48 (some ⟨b50, 0, none⟩) [n] 1 1 w3.heap.size rfl rfl (fun e => by cases e) F50.nums (by rw [List.length_take]; simp; omega) hB3.size ?_
                intro v51 w4 R51 hg51
                have hB4 := grown_own R48 hg51 hB3 hB3.size (Nat.le_refl _)
                clear hg51 R48 F50
                refine hK.out _ _ (HTRUE.out _ hB4) (fun hHeld => ?_)
                clear hK K
                try simp only [Act.put, List.setIfInBounds_toArray, List.set_cons_zero, List.set_cons_succ]
                refine wpAnyH_ready (rs := [11]) (by kernel_rfl) (by simp) ?_
                refine AllReadyH.cons (o := _) (by simp only [List.getElem?_toArray, List.getElem?_cons_succ, List.getElem?_cons_zero]; rfl) (fun K hK => ?_) (AllReadyH.nil)
                refine num_step rfl (.tmp 51) (.tmp 54) rfl wr.heap.size _ (S.take S.length ++ [n]) rfl R51 (some ⟨b0, off0, none⟩) (S.drop S.length) _ _ wr.heap.size rfl (by first | (rw [List.length_drop]; done) | simp) (fun e => by cases e) ((Nums.nil' HDR.out).below hB4) (by rw [List.length_append, List.length_take, List.length_drop, List.length_singleton]; omega) hB4.size ?_
                intro v55 w5 R55 hg55
                have hB5 := grown_own R51 hg55 hB4 hB4.size (Nat.le_refl _)
                clear hg55 R51
                refine hK.out _ _ (HTRUE.out _ hB5) (fun hHeld => ?_)
                clear hK K
                try simp only [Act.put, List.setIfInBounds_toArray, List.set_cons_zero, List.set_cons_succ]
                refine wpAnyH_take (i := 12) (oi := _) (v := ?_) (by simp only [List.getElem?_toArray, List.getElem?_cons_succ, List.getElem?_cons_zero]; rfl) (by kernel_rfl) (by kernel_rfl) (by kernel_rfl) (by exact fun _ _ _ h => h) (Or.inl ⟨by rfl, ?_⟩) (by assumption) ?_
                rotate_left
                · (intro w hSw; (try dsimp only at hSw); go_split_ands; go_simp; try with_reducible rfl)
                simp only [Act.put, List.setIfInBounds_toArray, List.set_cons_zero, List.set_cons_succ]
                refine wpAnyH_done (by kernel_rfl) ?_ _
                have hB := hB5
                go_wp2_with fail
                rw [List.append_assoc, show [n] ++ S.drop S.length = n :: S.drop S.length from rfl, ← HIN.out] at R55
                obtain ⟨g9, ⟨c9, rfl⟩, _, _⟩ := row_addr' R55 (by rw [HNX.out]; exact ins_pos _ _)
                obtain ⟨_, _, e9, h91, h92, _, h94⟩ := num_of_row R55
                cases e9
                go_roundw
                case rel => exact ⟨i + 1, _, by go_num, by omega, Lib.hid rfl, by rw [HNX.out]; have := ins_len (n := n) S; simp at this ⊢; omega, Lib.hid (.inr ⟨_, _, _, rfl, by rw [HNX.out]; exact ins_pos _ _, h91, h92, h94⟩), hBo.trans (hB.mono hBo.size)⟩
                case measure => simp [intOf]; omega
              · rw [if_pos (by rfl)]
                go_split_ands
                go_wp2_with fail
                have hB2 := hB1.alloc hB1.size (.cells #[.int .i64 n] 3)
                have F50 := AtI.new w1 n 3
                try have hne : w1.heap.size ≠ b44 := (by omega)
                try replace R44 := R44.alloc (.cells #[.int .i64 n] 3)
                try replace R48 := R48.alloc (.cells #[.int .i64 n] 3)
                obtain ⟨b50, hb50⟩ : ∃ b, w1.heap.size = b := ⟨_, rfl⟩
                try rw [hb50] at hne
                simp only [hb50] at F50 ⊢
                generalize w1.alloc (.cells #[.int .i64 n] 3) = w2 at *
                refine hK.out _ _ (HTRUE.out _ hB2) (fun hHeld => ?_)
                clear hK K
                try simp only [Act.put, List.setIfInBounds_toArray, List.set_cons_zero, List.set_cons_succ]
                refine wpAnyH_ready (rs := [4]) (by kernel_rfl) (by simp) ?_
                refine AllReadyH.cons (o := _) (by simp only [List.getElem?_toArray, List.getElem?_cons_succ, List.getElem?_cons_zero]; rfl) (fun K hK => ?_) (AllReadyH.nil)
                refine num_step rfl (.tmp 44) (.tmp 47) rfl wr.heap.size _ [] rfl R44 (some ⟨b0, off0, none⟩) (S.take S.length) _ _ wr.heap.size rfl (by rw [List.length_take]; omega) (fun e => by cases e) ((HNO.out.take S.length).below hB2) (by rw [List.length_take]; simp; omega) hB2.size ?_
                intro v48 w3 R48 hg48
                rw [List.nil_append] at R48
                have hB3 := grown_own R44 hg48 hB2 hB2.size (Nat.le_refl _)
                try replace F50 := F50.grown hg48 hne
                clear hg48 R44
                refine hK.out _ _ (HTRUE.out _ hB3) (fun hHeld => ?_)
                clear hK K
                try simp only [Act.put, List.setIfInBounds_toArray, List.set_cons_zero, List.set_cons_succ]
                refine wpAnyH_ready (rs := [7]) (by kernel_rfl) (by simp) ?_
                refine AllReadyH.cons (o := _) (by simp only [List.getElem?_toArray, List.getElem?_cons_succ, List.getElem?_cons_zero]; rfl) (fun K hK => ?_) (AllReadyH.nil)
                refine num_step rfl (.tmp 48) (.tmp 50) rfl wr.heap.size _ (S.take S.length) rfl R48 (some ⟨b50, 0, none⟩) [n] 1 1 w3.heap.size rfl rfl (fun e => by cases e) F50.nums (by rw [List.length_take]; simp; omega) hB3.size ?_
                intro v51 w4 R51 hg51
                have hB4 := grown_own R48 hg51 hB3 hB3.size (Nat.le_refl _)
                clear hg51 R48 F50
                refine hK.out _ _ (HTRUE.out _ hB4) (fun hHeld => ?_)
                clear hK K
                try simp only [Act.put, List.setIfInBounds_toArray, List.set_cons_zero, List.set_cons_succ]
                refine wpAnyH_ready (rs := [11]) (by kernel_rfl) (by simp) ?_
                refine AllReadyH.cons (o := _) (by simp only [List.getElem?_toArray, List.getElem?_cons_succ, List.getElem?_cons_zero]; rfl) (fun K hK => ?_) (AllReadyH.nil)
                refine num_step rfl (.tmp 51) (.tmp 54) rfl wr.heap.size _ (S.take S.length ++ [n]) rfl R51 (some ⟨b0, off0, none⟩) (S.drop S.length) _ _ wr.heap.size rfl (by first | (rw [List.length_drop]; done) | simp) (fun e => by cases e) ((Nums.nil' HDR.out).below hB4) (by rw [List.length_append, List.length_take, List.length_drop, List.length_singleton]; omega) hB4.size ?_
                intro v55 w5 R55 hg55
                have hB5 := grown_own R51 hg55 hB4 hB4.size (Nat.le_refl _)
                clear hg55 R51
                refine hK.out _ _ (HTRUE.out _ hB5) (fun hHeld => ?_)
                clear hK K
                try simp only [Act.put, List.setIfInBounds_toArray, List.set_cons_zero, List.set_cons_succ]
                refine wpAnyH_take (i := 12) (oi := _) (v := ?_) (by simp only [List.getElem?_toArray, List.getElem?_cons_succ, List.getElem?_cons_zero]; rfl) (by kernel_rfl) (by kernel_rfl) (by kernel_rfl) (by exact fun _ _ _ h => h) (Or.inl ⟨by rfl, ?_⟩) (by assumption) ?_
                rotate_left
                · (intro w hSw; (try dsimp only at hSw); go_split_ands; go_simp; try with_reducible rfl)
                simp only [Act.put, List.setIfInBounds_toArray, List.set_cons_zero, List.set_cons_succ]
                refine wpAnyH_done (by kernel_rfl) ?_ _
                have hB := hB5
                go_wp2_with fail
                rw [List.append_assoc, show [n] ++ S.drop S.length = n :: S.drop S.length from rfl, ← HIN.out] at R55
                obtain ⟨g9, ⟨c9, rfl⟩, _, _⟩ := row_addr' R55 (by rw [HNX.out]; exact ins_pos _ _)
                obtain ⟨_, _, e9, h91, h92, _, h94⟩ := num_of_row R55
                cases e9
                go_roundw
                case rel => exact ⟨i + 1, _, by go_num, by omega, Lib.hid rfl, by rw [HNX.out]; have := ins_len (n := n) S; simp at this ⊢; omega, Lib.hid (.inr ⟨_, _, _, rfl, by rw [HNX.out]; exact ins_pos _ _, h91, h92, h94⟩), hBo.trans (hB.mono hBo.size)⟩
                case measure => simp [intOf]; omega
            · rw [if_pos (by rfl)]
              go_split_ands
              go_wp2_with fail
              have hB1 := hB0.alloc hB0.size (.cells #[.int .i64 n] 3)
              have F50 := AtI.new w0 n 3
              try have hne : w0.heap.size ≠ b44 := (by omega)
              try replace R44 := R44.alloc (.cells #[.int .i64 n] 3)
              try replace R48 := R48.alloc (.cells #[.int .i64 n] 3)
              obtain ⟨b50, hb50⟩ : ∃ b, w0.heap.size = b := ⟨_, rfl⟩
              try rw [hb50] at hne
              simp only [hb50] at F50 ⊢
              generalize w0.alloc (.cells #[.int .i64 n] 3) = w1 at *
              refine hK.out _ _ (HTRUE.out _ hB1) (fun hHeld => ?_)
              clear hK K
              try simp only [Act.put, List.setIfInBounds_toArray, List.set_cons_zero, List.set_cons_succ]
              refine wpAnyH_ready (rs := [0]) (by kernel_rfl) (by simp) ?_
              refine AllReadyH.cons (o := _) (by simp only [List.getElem?_toArray, List.getElem?_cons_zero]; rfl) (fun K hK => ?_) (AllReadyH.nil)
              rw [if_pos (by rfl)]
              go_split_ands
              go_wp2_with fail
              have hB2 := hB1.alloc hB1.size (.cells #[] 3)
              have R44 := World.ownsRow_lit (base := wr.heap.size) (size := 1) (e := 3) w1 #[] 0 hB1.size (by unfold maxLen; omega) rfl
              try have hne : b50 ≠ w1.heap.size := (by have := F50.2; omega)
              try replace F50 := F50.alloc (.cells #[] 3)
              obtain ⟨b44, hb44⟩ : ∃ b, w1.heap.size = b := ⟨_, rfl⟩
              try rw [hb44] at hne
              simp only [hb44] at R44 ⊢
              have hb44l : b44 < (w1.alloc (.cells #[] 3)).heap.size := by rw [← hb44]; simp
              generalize w1.alloc (.cells #[] 3) = w2 at *
              refine hK.out _ _ (HTRUE.out _ hB2) (fun hHeld => ?_)
              clear hK K
              try simp only [Act.put, List.setIfInBounds_toArray, List.set_cons_zero, List.set_cons_succ]
              refine wpAnyH_ready (rs := [4]) (by kernel_rfl) (by simp) ?_
              refine AllReadyH.cons (o := _) (by simp only [List.getElem?_toArray, List.getElem?_cons_succ, List.getElem?_cons_zero]; rfl) (fun K hK => ?_) (AllReadyH.nil)
              refine num_step rfl (.tmp 44) (.tmp 47) rfl wr.heap.size _ [] rfl R44 (some ⟨b0, off0, none⟩) (S.take S.length) _ _ wr.heap.size rfl (by rw [List.length_take]; omega) (fun e => by cases e) ((HNO.out.take S.length).below hB2) (by rw [List.length_take]; simp; omega) hB2.size ?_
              intro v48 w3 R48 hg48
              rw [List.nil_append] at R48
              have hB3 := grown_own R44 hg48 hB2 hB2.size (Nat.le_refl _)
              try replace F50 := F50.grown hg48 hne
              clear hg48 R44
              refine hK.out _ _ (HTRUE.out _ hB3) (fun hHeld => ?_)
              clear hK K
              try simp only [Act.put, List.setIfInBounds_toArray, List.set_cons_zero, List.set_cons_succ]
              refine wpAnyH_ready (rs := [7]) (by kernel_rfl) (by simp) ?_
              refine AllReadyH.cons (o := _) (by simp only [List.getElem?_toArray, List.getElem?_cons_succ, List.getElem?_cons_zero]; rfl) (fun K hK => ?_) (AllReadyH.nil)
              refine num_step rfl (.tmp 48) (.tmp 50) rfl wr.heap.size _ (S.take S.length) rfl R48 (some ⟨b50, 0, none⟩) [n] 1 1 w3.heap.size rfl rfl (fun e => by cases e) F50.nums (by rw [List.length_take]; simp; omega) hB3.size ?_
              intro v51 w4 R51 hg51
              have hB4 := grown_own R48 hg51 hB3 hB3.size (Nat.le_refl _)
              clear hg51 R48 F50
              refine hK.out _ _ (HTRUE.out _ hB4) (fun hHeld => ?_)
              clear hK K
              try simp only [Act.put, List.setIfInBounds_toArray, List.set_cons_zero, List.set_cons_succ]
              refine wpAnyH_ready (rs := [11]) (by kernel_rfl) (by simp) ?_
              refine AllReadyH.cons (o := _) (by simp only [List.getElem?_toArray, List.getElem?_cons_succ, List.getElem?_cons_zero]; rfl) (fun K hK => ?_) (AllReadyH.nil)
              refine num_step rfl (.tmp 51) (.tmp 54) rfl wr.heap.size _ (S.take S.length ++ [n]) rfl R51 (some ⟨b0, off0, none⟩) (S.drop S.length) _ _ wr.heap.size rfl (by first | (rw [List.length_drop]; done) | simp) (fun e => by cases e) ((Nums.nil' HDR.out).below hB4) (by rw [List.length_append, List.length_take, List.length_drop, List.length_singleton]; omega) hB4.size ?_
              intro v55 w5 R55 hg55
              have hB5 := grown_own R51 hg55 hB4 hB4.size (Nat.le_refl _)
              clear hg55 R51
              refine hK.out _ _ (HTRUE.out _ hB5) (fun hHeld => ?_)
              clear hK K
              try simp only [Act.put, List.setIfInBounds_toArray, List.set_cons_zero, List.set_cons_succ]
              refine wpAnyH_take (i := 12) (oi := _) (v := ?_) (by simp only [List.getElem?_toArray, List.getElem?_cons_succ, List.getElem?_cons_zero]; rfl) (by kernel_rfl) (by kernel_rfl) (by kernel_rfl) (by exact fun _ _ _ h => h) (Or.inl ⟨by rfl, ?_⟩) (by assumption) ?_
              rotate_left
              · (intro w hSw; (try dsimp only at hSw); go_split_ands; go_simp; try with_reducible rfl)
              simp only [Act.put, List.setIfInBounds_toArray, List.set_cons_zero, List.set_cons_succ]
              refine wpAnyH_done (by kernel_rfl) ?_ _
              have hB := hB5
              go_wp2_with fail
              rw [List.append_assoc, show [n] ++ S.drop S.length = n :: S.drop S.length from rfl, ← HIN.out] at R55
              obtain ⟨g9, ⟨c9, rfl⟩, _, _⟩ := row_addr' R55 (by rw [HNX.out]; exact ins_pos _ _)
              obtain ⟨_, _, e9, h91, h92, _, h94⟩ := num_of_row R55
              cases e9
              go_roundw
              case rel => exact ⟨i + 1, _, by go_num, by omega, Lib.hid rfl, by rw [HNX.out]; have := ins_len (n := n) S; simp at this ⊢; omega, Lib.hid (.inr ⟨_, _, _, rfl, by rw [HNX.out]; exact ins_pos _ _, h91, h92, h94⟩), hBo.trans (hB.mono hBo.size)⟩
              case measure => simp [intOf]; omega
          · go_upto_region 10 with fail
            refine wp_region_held_drew (S := (fun _ => True)) (by kernel_rfl) (HTRUE.out _ (Below.refl _ _).drew) (fun hHeld => ?_)
            have hB0 := (Below.refl wr.heap.size wr).drew
            obtain ⟨w0, hw0⟩ : ∃ x, wr.drew = x := ⟨_, rfl⟩
            simp only [hw0] at hB0 hHeld ⊢
            clear hw0
            refine wpAnyH_take (i := 1) (oi := _) (v := ?_) (by simp only [List.getElem?_toArray, List.getElem?_cons_succ, List.getElem?_cons_zero]; rfl) (by kernel_rfl) (by kernel_rfl) (by kernel_rfl) (by exact fun _ _ _ h => h) (Or.inl ⟨by rfl, ?_⟩) (by assumption) ?_
            rotate_left
            · (intro w hSw; (try dsimp only at hSw); go_split_ands; go_simp; try with_reducible rfl)
            simp only [Act.put, List.setIfInBounds_toArray, List.set_cons_zero, List.set_cons_succ]
            refine wpAnyH_take (i := 2) (oi := _) (v := ?_) (by simp only [List.getElem?_toArray, List.getElem?_cons_succ, List.getElem?_cons_zero]; rfl) (by kernel_rfl) (by kernel_rfl) (by kernel_rfl) (by exact fun _ _ _ h => h) (Or.inl ⟨by rfl, ?_⟩) (by assumption) ?_
            rotate_left
            · (intro w hSw; (try dsimp only at hSw); go_split_ands; go_simp; try with_reducible rfl)
            simp only [Act.put, List.setIfInBounds_toArray, List.set_cons_zero, List.set_cons_succ]
            refine wpAnyH_take (i := 3) (oi := _) (v := ?_) (by simp only [List.getElem?_toArray, List.getElem?_cons_succ, List.getElem?_cons_zero]; rfl) (by kernel_rfl) (by kernel_rfl) (by kernel_rfl) (by exact fun _ _ _ h => h) (Or.inl ⟨by rfl, ?_⟩) (by assumption) ?_
            rotate_left
            · (intro w hSw; (try dsimp only at hSw); go_split_ands; go_simp; try with_reducible rfl)
            simp only [Act.put, List.setIfInBounds_toArray, List.set_cons_zero, List.set_cons_succ]
            refine wpAnyH_take (i := 5) (oi := _) (v := ?_) (by simp only [List.getElem?_toArray, List.getElem?_cons_succ, List.getElem?_cons_zero]; rfl) (by kernel_rfl) (by kernel_rfl) (by kernel_rfl) (by exact fun _ _ _ h => h) (Or.inl ⟨by rfl, ?_⟩) (by assumption) ?_
            rotate_left
            · (intro w hSw; (try dsimp only at hSw); go_split_ands; go_simp; try with_reducible rfl)
            simp only [Act.put, List.setIfInBounds_toArray, List.set_cons_zero, List.set_cons_succ]
            refine wpAnyH_take (i := 8) (oi := _) (v := ?_) (by simp only [List.getElem?_toArray, List.getElem?_cons_succ, List.getElem?_cons_zero]; rfl) (by kernel_rfl) (by kernel_rfl) (by kernel_rfl) (by exact fun _ _ _ h => h) (Or.inl ⟨by rfl, ?_⟩) (by assumption) ?_
            rotate_left
            · (intro w hSw; (try dsimp only at hSw); go_split_ands; go_simp; try with_reducible rfl)
            simp only [Act.put, List.setIfInBounds_toArray, List.set_cons_zero, List.set_cons_succ]
            refine wpAnyH_take (i := 9) (oi := _) (v := ?_) (by simp only [List.getElem?_toArray, List.getElem?_cons_succ, List.getElem?_cons_zero]; rfl) (by kernel_rfl) (by kernel_rfl) (by kernel_rfl) (by exact fun _ _ _ h => h) (Or.inl ⟨by rfl, ?_⟩) (by assumption) ?_
            rotate_left
            · (intro w hSw; (try dsimp only at hSw); go_split_ands; go_simp; try with_reducible rfl)
            simp only [Act.put, List.setIfInBounds_toArray, List.set_cons_zero, List.set_cons_succ]
            refine wpAnyH_take (i := 10) (oi := _) (v := ?_) (by simp only [List.getElem?_toArray, List.getElem?_cons_succ, List.getElem?_cons_zero]; rfl) (by kernel_rfl) (by kernel_rfl) (by kernel_rfl) (by exact fun _ _ _ h => h) (Or.inl ⟨by rfl, ?_⟩) (by assumption) ?_
            rotate_left
            · (intro w hSw; (try dsimp only at hSw); go_split_ands; go_simp; try with_reducible rfl)
            simp only [Act.put, List.setIfInBounds_toArray, List.set_cons_zero, List.set_cons_succ]
            refine wpAnyH_ready (rs := [0, 6]) (by kernel_rfl) (by simp) ?_
            refine AllReadyH.cons (o := _) (by simp only [List.getElem?_toArray, List.getElem?_cons_zero]; rfl) (fun K hK => ?_) (AllReadyH.cons (o := _) (by simp only [List.getElem?_toArray, List.getElem?_cons_succ, List.getElem?_cons_zero]; rfl) (fun K hK => ?_) (AllReadyH.nil))
            · rw [if_pos (by rfl)]
              go_split_ands
              go_wp2_with fail
              have hB1 := hB0.alloc hB0.size (.cells #[] 3)
              have R44 := World.ownsRow_lit (base := wr.heap.size) (size := 1) (e := 3) w0 #[] 0 hB0.size (by unfold maxLen; omega) rfl
              try have hne : b50 ≠ w0.heap.size := (by have := F50.2; omega)
              try replace F50 := F50.alloc (.cells #[] 3)
              obtain ⟨b44, hb44⟩ : ∃ b, w0.heap.size = b := ⟨_, rfl⟩
              try rw [hb44] at hne
              simp only [hb44] at R44 ⊢
              have hb44l : b44 < (w0.alloc (.cells #[] 3)).heap.size := by rw [← hb44]; simp
              generalize w0.alloc (.cells #[] 3) = w1 at *
              refine hK.out _ _ (HTRUE.out _ hB1) (fun hHeld => ?_)
              clear hK K
              try simp only [Act.put, List.setIfInBounds_toArray, List.set_cons_zero, List.set_cons_succ]
              refine wpAnyH_ready (rs := [4, 6]) (by kernel_rfl) (by simp) ?_
              refine AllReadyH.cons (o := _) (by simp only [List.getElem?_toArray, List.getElem?_cons_succ, List.getElem?_cons_zero]; rfl) (fun K hK => ?_) (AllReadyH.cons (o := _) (by simp only [List.getElem?_toArray, List.getElem?_cons_succ, List.getElem?_cons_zero]; rfl) (fun K hK => ?_) (AllReadyH.nil))
              · refine num_step rfl (.tmp 44) (.tmp 47) rfl wr.heap.size _ [] rfl R44 (some ⟨b0, off0, none⟩) (S.take S.length) _ _ wr.heap.size rfl (by rw [List.length_take]; omega) (fun e => by cases e) ((HNO.out.take S.length).below hB1) (by rw [List.length_take]; simp; omega) hB1.size ?_
                intro v48 w2 R48 hg48
                rw [List.nil_append] at R48
                have hB2 := grown_own R44 hg48 hB1 hB1.size (Nat.le_refl _)
                try replace F50 := F50.grown hg48 hne
                clear hg48 R44
                refine hK.out _ _ (HTRUE.out _ hB2) (fun hHeld => ?_)
                clear hK K
                try simp only [Act.put, List.setIfInBounds_toArray, List.set_cons_zero, List.set_cons_succ]
                refine wpAnyH_ready (rs := [6]) (by kernel_rfl) (by simp) ?_
                refine AllReadyH.cons (o := _) (by simp only [List.getElem?_toArray, List.getElem?_cons_succ, List.getElem?_cons_zero]; rfl) (fun K hK => ?_) (AllReadyH.nil)
                rw [if_pos (by rfl)]
                go_split_ands
                go_wp2_with fail
                have hB3 := hB2.alloc hB2.size (.cells #[.int .i64 n] 3)
                have F50 := AtI.new w2 n 3
                try have hne : w2.heap.size ≠ b44 := (by omega)
                try replace R44 := R44.alloc (.cells #[.int .i64 n] 3)
                try replace R48 := R48.alloc (.cells #[.int .i64 n] 3)
                obtain ⟨b50, hb50⟩ : ∃ b, w2.heap.size = b := ⟨_, rfl⟩
                try rw [hb50] at hne
                simp only [hb50] at F50 ⊢
                generalize w2.alloc (.cells #[.int .i64 n] 3) = w3 at *
                refine hK.out _ _ (HTRUE.out _ hB3) (fun hHeld => ?_)
                clear hK K
                try simp only [Act.put, List.setIfInBounds_toArray, List.set_cons_zero, List.set_cons_succ]
                refine wpAnyH_ready (rs := [7]) (by kernel_rfl) (by simp) ?_
                refine AllReadyH.cons (o := _) (by simp only [List.getElem?_toArray, List.getElem?_cons_succ, List.getElem?_cons_zero]; rfl) (fun K hK => ?_) (AllReadyH.nil)
                refine num_step rfl (.tmp 48) (.tmp 50) rfl wr.heap.size _ (S.take S.length) rfl R48 (some ⟨b50, 0, none⟩) [n] 1 1 w3.heap.size rfl rfl (fun e => by cases e) F50.nums (by rw [List.length_take]; simp; omega) hB3.size ?_
                intro v51 w4 R51 hg51
                have hB4 := grown_own R48 hg51 hB3 hB3.size (Nat.le_refl _)
                clear hg51 R48 F50
                refine hK.out _ _ (HTRUE.out _ hB4) (fun hHeld => ?_)
                clear hK K
                try simp only [Act.put, List.setIfInBounds_toArray, List.set_cons_zero, List.set_cons_succ]
                refine wpAnyH_ready (rs := [11]) (by kernel_rfl) (by simp) ?_
                refine AllReadyH.cons (o := _) (by simp only [List.getElem?_toArray, List.getElem?_cons_succ, List.getElem?_cons_zero]; rfl) (fun K hK => ?_) (AllReadyH.nil)
                refine num_step rfl (.tmp 51) (.tmp 54) rfl wr.heap.size _ (S.take S.length ++ [n]) rfl R51 (some ⟨b0, off0 + S.length, none⟩) (S.drop S.length) _ _ wr.heap.size rfl (by first | (rw [List.length_drop]; done) | simp) (fun e => by cases e) ((Nums.nil' HDR.out).below hB4) (by rw [List.length_append, List.length_take, List.length_drop, List.length_singleton]; omega) hB4.size ?_
                intro v55 w5 R55 hg55
                have hB5 := grown_own R51 hg55 hB4 hB4.size (Nat.le_refl _)
                clear hg55 R51
                refine hK.out _ _ (HTRUE.out _ hB5) (fun hHeld => ?_)
                clear hK K
                try simp only [Act.put, List.setIfInBounds_toArray, List.set_cons_zero, List.set_cons_succ]
                refine wpAnyH_take (i := 12) (oi := _) (v := ?_) (by simp only [List.getElem?_toArray, List.getElem?_cons_succ, List.getElem?_cons_zero]; rfl) (by kernel_rfl) (by kernel_rfl) (by kernel_rfl) (by exact fun _ _ _ h => h) (Or.inl ⟨by rfl, ?_⟩) (by assumption) ?_
                rotate_left
                · (intro w hSw; (try dsimp only at hSw); go_split_ands; go_simp; try with_reducible rfl)
                simp only [Act.put, List.setIfInBounds_toArray, List.set_cons_zero, List.set_cons_succ]
                refine wpAnyH_done (by kernel_rfl) ?_ _
                have hB := hB5
                go_wp2_with fail
                rw [List.append_assoc, show [n] ++ S.drop S.length = n :: S.drop S.length from rfl, ← HIN.out] at R55
                obtain ⟨g9, ⟨c9, rfl⟩, _, _⟩ := row_addr' R55 (by rw [HNX.out]; exact ins_pos _ _)
                obtain ⟨_, _, e9, h91, h92, _, h94⟩ := num_of_row R55
                cases e9
                go_roundw
                case rel => exact ⟨i + 1, _, by go_num, by omega, Lib.hid rfl, by rw [HNX.out]; have := ins_len (n := n) S; simp at this ⊢; omega, Lib.hid (.inr ⟨_, _, _, rfl, by rw [HNX.out]; exact ins_pos _ _, h91, h92, h94⟩), hBo.trans (hB.mono hBo.size)⟩
                case measure => simp [intOf]; omega
              · rw [if_pos (by rfl)]
                go_split_ands
                go_wp2_with fail
                have hB2 := hB1.alloc hB1.size (.cells #[.int .i64 n] 3)
                have F50 := AtI.new w1 n 3
                try have hne : w1.heap.size ≠ b44 := (by omega)
                try replace R44 := R44.alloc (.cells #[.int .i64 n] 3)
                try replace R48 := R48.alloc (.cells #[.int .i64 n] 3)
                obtain ⟨b50, hb50⟩ : ∃ b, w1.heap.size = b := ⟨_, rfl⟩
                try rw [hb50] at hne
                simp only [hb50] at F50 ⊢
                generalize w1.alloc (.cells #[.int .i64 n] 3) = w2 at *
                refine hK.out _ _ (HTRUE.out _ hB2) (fun hHeld => ?_)
                clear hK K
                try simp only [Act.put, List.setIfInBounds_toArray, List.set_cons_zero, List.set_cons_succ]
                refine wpAnyH_ready (rs := [4]) (by kernel_rfl) (by simp) ?_
                refine AllReadyH.cons (o := _) (by simp only [List.getElem?_toArray, List.getElem?_cons_succ, List.getElem?_cons_zero]; rfl) (fun K hK => ?_) (AllReadyH.nil)
                refine num_step rfl (.tmp 44) (.tmp 47) rfl wr.heap.size _ [] rfl R44 (some ⟨b0, off0, none⟩) (S.take S.length) _ _ wr.heap.size rfl (by rw [List.length_take]; omega) (fun e => by cases e) ((HNO.out.take S.length).below hB2) (by rw [List.length_take]; simp; omega) hB2.size ?_
                intro v48 w3 R48 hg48
                rw [List.nil_append] at R48
                have hB3 := grown_own R44 hg48 hB2 hB2.size (Nat.le_refl _)
                try replace F50 := F50.grown hg48 hne
                clear hg48 R44
                refine hK.out _ _ (HTRUE.out _ hB3) (fun hHeld => ?_)
                clear hK K
                try simp only [Act.put, List.setIfInBounds_toArray, List.set_cons_zero, List.set_cons_succ]
                refine wpAnyH_ready (rs := [7]) (by kernel_rfl) (by simp) ?_
                refine AllReadyH.cons (o := _) (by simp only [List.getElem?_toArray, List.getElem?_cons_succ, List.getElem?_cons_zero]; rfl) (fun K hK => ?_) (AllReadyH.nil)
                refine num_step rfl (.tmp 48) (.tmp 50) rfl wr.heap.size _ (S.take S.length) rfl R48 (some ⟨b50, 0, none⟩) [n] 1 1 w3.heap.size rfl rfl (fun e => by cases e) F50.nums (by rw [List.length_take]; simp; omega) hB3.size ?_
                intro v51 w4 R51 hg51
                have hB4 := grown_own R48 hg51 hB3 hB3.size (Nat.le_refl _)
                clear hg51 R48 F50
                refine hK.out _ _ (HTRUE.out _ hB4) (fun hHeld => ?_)
                clear hK K
                try simp only [Act.put, List.setIfInBounds_toArray, List.set_cons_zero, List.set_cons_succ]
                refine wpAnyH_ready (rs := [11]) (by kernel_rfl) (by simp) ?_
                refine AllReadyH.cons (o := _) (by simp only [List.getElem?_toArray, List.getElem?_cons_succ, List.getElem?_cons_zero]; rfl) (fun K hK => ?_) (AllReadyH.nil)
                refine num_step rfl (.tmp 51) (.tmp 54) rfl wr.heap.size _ (S.take S.length ++ [n]) rfl R51 (some ⟨b0, off0 + S.length, none⟩) (S.drop S.length) _ _ wr.heap.size rfl (by first | (rw [List.length_drop]; done) | simp) (fun e => by cases e) ((Nums.nil' HDR.out).below hB4) (by rw [List.length_append, List.length_take, List.length_drop, List.length_singleton]; omega) hB4.size ?_
                intro v55 w5 R55 hg55
                have hB5 := grown_own R51 hg55 hB4 hB4.size (Nat.le_refl _)
                clear hg55 R51
                refine hK.out _ _ (HTRUE.out _ hB5) (fun hHeld => ?_)
                clear hK K
                try simp only [Act.put, List.setIfInBounds_toArray, List.set_cons_zero, List.set_cons_succ]
                refine wpAnyH_take (i := 12) (oi := _) (v := ?_) (by simp only [List.getElem?_toArray, List.getElem?_cons_succ, List.getElem?_cons_zero]; rfl) (by kernel_rfl) (by kernel_rfl) (by kernel_rfl) (by exact fun _ _ _ h => h) (Or.inl ⟨by rfl, ?_⟩) (by assumption) ?_
                rotate_left
                · (intro w hSw; (try dsimp only at hSw); go_split_ands; go_simp; try with_reducible rfl)
                simp only [Act.put, List.setIfInBounds_toArray, List.set_cons_zero, List.set_cons_succ]
                refine wpAnyH_done (by kernel_rfl) ?_ _
                have hB := hB5
                go_wp2_with fail
                rw [List.append_assoc, show [n] ++ S.drop S.length = n :: S.drop S.length from rfl, ← HIN.out] at R55
                obtain ⟨g9, ⟨c9, rfl⟩, _, _⟩ := row_addr' R55 (by rw [HNX.out]; exact ins_pos _ _)
                obtain ⟨_, _, e9, h91, h92, _, h94⟩ := num_of_row R55
                cases e9
                go_roundw
                case rel => exact ⟨i + 1, _, by go_num, by omega, Lib.hid rfl, by rw [HNX.out]; have := ins_len (n := n) S; simp at this ⊢; omega, Lib.hid (.inr ⟨_, _, _, rfl, by rw [HNX.out]; exact ins_pos _ _, h91, h92, h94⟩), hBo.trans (hB.mono hBo.size)⟩
                case measure => simp [intOf]; omega
            · rw [if_pos (by rfl)]
              go_split_ands
              go_wp2_with fail
              have hB1 := hB0.alloc hB0.size (.cells #[.int .i64 n] 3)
              have F50 := AtI.new w0 n 3
              try have hne : w0.heap.size ≠ b44 := (by omega)
              try replace R44 := R44.alloc (.cells #[.int .i64 n] 3)
              try replace R48 := R48.alloc (.cells #[.int .i64 n] 3)
              obtain ⟨b50, hb50⟩ : ∃ b, w0.heap.size = b := ⟨_, rfl⟩
              try rw [hb50] at hne
              simp only [hb50] at F50 ⊢
              generalize w0.alloc (.cells #[.int .i64 n] 3) = w1 at *
              refine hK.out _ _ (HTRUE.out _ hB1) (fun hHeld => ?_)
              clear hK K
              try simp only [Act.put, List.setIfInBounds_toArray, List.set_cons_zero, List.set_cons_succ]
              refine wpAnyH_ready (rs := [0]) (by kernel_rfl) (by simp) ?_
              refine AllReadyH.cons (o := _) (by simp only [List.getElem?_toArray, List.getElem?_cons_zero]; rfl) (fun K hK => ?_) (AllReadyH.nil)
              rw [if_pos (by rfl)]
              go_split_ands
              go_wp2_with fail
              have hB2 := hB1.alloc hB1.size (.cells #[] 3)
              have R44 := World.ownsRow_lit (base := wr.heap.size) (size := 1) (e := 3) w1 #[] 0 hB1.size (by unfold maxLen; omega) rfl
              try have hne : b50 ≠ w1.heap.size := (by have := F50.2; omega)
              try replace F50 := F50.alloc (.cells #[] 3)
              obtain ⟨b44, hb44⟩ : ∃ b, w1.heap.size = b := ⟨_, rfl⟩
              try rw [hb44] at hne
              simp only [hb44] at R44 ⊢
              have hb44l : b44 < (w1.alloc (.cells #[] 3)).heap.size := by rw [← hb44]; simp
              generalize w1.alloc (.cells #[] 3) = w2 at *
              refine hK.out _ _ (HTRUE.out _ hB2) (fun hHeld => ?_)
              clear hK K
              try simp only [Act.put, List.setIfInBounds_toArray, List.set_cons_zero, List.set_cons_succ]
              refine wpAnyH_ready (rs := [4]) (by kernel_rfl) (by simp) ?_
              refine AllReadyH.cons (o := _) (by simp only [List.getElem?_toArray, List.getElem?_cons_succ, List.getElem?_cons_zero]; rfl) (fun K hK => ?_) (AllReadyH.nil)
              refine num_step rfl (.tmp 44) (.tmp 47) rfl wr.heap.size _ [] rfl R44 (some ⟨b0, off0, none⟩) (S.take S.length) _ _ wr.heap.size rfl (by rw [List.length_take]; omega) (fun e => by cases e) ((HNO.out.take S.length).below hB2) (by rw [List.length_take]; simp; omega) hB2.size ?_
              intro v48 w3 R48 hg48
              rw [List.nil_append] at R48
              have hB3 := grown_own R44 hg48 hB2 hB2.size (Nat.le_refl _)
              try replace F50 := F50.grown hg48 hne
              clear hg48 R44
              refine hK.out _ _ (HTRUE.out _ hB3) (fun hHeld => ?_)
              clear hK K
              try simp only [Act.put, List.setIfInBounds_toArray, List.set_cons_zero, List.set_cons_succ]
              refine wpAnyH_ready (rs := [7]) (by kernel_rfl) (by simp) ?_
              refine AllReadyH.cons (o := _) (by simp only [List.getElem?_toArray, List.getElem?_cons_succ, List.getElem?_cons_zero]; rfl) (fun K hK => ?_) (AllReadyH.nil)
              refine num_step rfl (.tmp 48) (.tmp 50) rfl wr.heap.size _ (S.take S.length) rfl R48 (some ⟨b50, 0, none⟩) [n] 1 1 w3.heap.size rfl rfl (fun e => by cases e) F50.nums (by rw [List.length_take]; simp; omega) hB3.size ?_
              intro v51 w4 R51 hg51
              have hB4 := grown_own R48 hg51 hB3 hB3.size (Nat.le_refl _)
              clear hg51 R48 F50
              refine hK.out _ _ (HTRUE.out _ hB4) (fun hHeld => ?_)
              clear hK K
              try simp only [Act.put, List.setIfInBounds_toArray, List.set_cons_zero, List.set_cons_succ]
              refine wpAnyH_ready (rs := [11]) (by kernel_rfl) (by simp) ?_
              refine AllReadyH.cons (o := _) (by simp only [List.getElem?_toArray, List.getElem?_cons_succ, List.getElem?_cons_zero]; rfl) (fun K hK => ?_) (AllReadyH.nil)
              refine num_step rfl (.tmp 51) (.tmp 54) rfl wr.heap.size _ (S.take S.length ++ [n]) rfl R51 (some ⟨b0, off0 + S.length, none⟩) (S.drop S.length) _ _ wr.heap.size rfl (by first | (rw [List.length_drop]; done) | simp) (fun e => by cases e) ((Nums.nil' HDR.out).below hB4) (by rw [List.length_append, List.length_take, List.length_drop, List.length_singleton]; omega) hB4.size ?_
              intro v55 w5 R55 hg55
              have hB5 := grown_own R51 hg55 hB4 hB4.size (Nat.le_refl _)
              clear hg55 R51
              refine hK.out _ _ (HTRUE.out _ hB5) (fun hHeld => ?_)
              clear hK K
              try simp only [Act.put, List.setIfInBounds_toArray, List.set_cons_zero, List.set_cons_succ]
              refine wpAnyH_take (i := 12) (oi := _) (v := ?_) (by simp only [List.getElem?_toArray, List.getElem?_cons_succ, List.getElem?_cons_zero]; rfl) (by kernel_rfl) (by kernel_rfl) (by kernel_rfl) (by exact fun _ _ _ h => h) (Or.inl ⟨by rfl, ?_⟩) (by assumption) ?_
              rotate_left
              · (intro w hSw; (try dsimp only at hSw); go_split_ands; go_simp; try with_reducible rfl)
              simp only [Act.put, List.setIfInBounds_toArray, List.set_cons_zero, List.set_cons_succ]
              refine wpAnyH_done (by kernel_rfl) ?_ _
              have hB := hB5
              go_wp2_with fail
              rw [List.append_assoc, show [n] ++ S.drop S.length = n :: S.drop S.length from rfl, ← HIN.out] at R55
              obtain ⟨g9, ⟨c9, rfl⟩, _, _⟩ := row_addr' R55 (by rw [HNX.out]; exact ins_pos _ _)
              obtain ⟨_, _, e9, h91, h92, _, h94⟩ := num_of_row R55
              cases e9
              go_roundw
              case rel => exact ⟨i + 1, _, by go_num, by omega, Lib.hid rfl, by rw [HNX.out]; have := ins_len (n := n) S; simp at this ⊢; omega, Lib.hid (.inr ⟨_, _, _, rfl, by rw [HNX.out]; exact ins_pos _ _, h91, h92, h94⟩), hBo.trans (hB.mono hBo.size)⟩
              case measure => simp [intOf]; omega
    · have g0 : decide ((i : Int) < wrap64 (2 ^ L.length)) = false := by rw [HSH.out]; exact decide_eq_false (by omega)
      obtain rfl : i = N := by omega
      go_wp2_with fail
      go_ret
      rw [HS.out]
      rcases HV.out with ⟨rfl, rfl⟩ | ⟨b0, off0, co, rfl, hS0, hcl, hcm, hNo⟩
      · exact ⟨Lib.hid ⟨_, _, rfl, Nums.nil⟩, hB⟩
      · exact ⟨Lib.hid ⟨_, _, rfl, hNo⟩, hB⟩
end Go.Proofs.YtfiefmhnonddhaaDoor
