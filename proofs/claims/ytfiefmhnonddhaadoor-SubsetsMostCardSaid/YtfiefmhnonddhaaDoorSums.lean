/-
  THE WALK of subsets.sums.
-/
import Derived.Test.YtfiefmhnonddhaaDoorSetL
import Derived.Test.YtfiefmhnonddhaaDoorGiven
namespace Go.Proofs.YtfiefmhnonddhaaDoor
open Go.RowKit Go.Shelf

theorem i64_wraps (n : Int) (h₀ : 0 ≤ n) (h₁ : n < 2 ^ 63) : IntKind.i64.wrap n = n := by rw [IntKind.wrap_i64]; omega
theorem i64_and (a b : Nat) (ha : a < 2 ^ 63) (hb : b < 2 ^ 63) : bits .and .i64 (a : Int) (b : Int) = ((a &&& b : Nat) : Int) := (bits_nat .i64 63 (by decide) i64_wraps a b ha hb).1
theorem nflat_set : ∀ (X : List Int) (i : Nat) (v : Int), nflat (X.set i v) = (nflat X).set i (.int .i64 v)
  | [], i, v => by simp [nflat]
  | x :: r, 0, v => rfl
  | x :: r, i + 1, v => by
    have e : nflat (x :: r) = .int .i64 x :: nflat r := rfl
    have e2 : nflat (x :: r.set i v) = .int .i64 x :: nflat (r.set i v) := rfl
    rw [List.set_cons_succ, e, e2, List.set_cons_succ, nflat_set r i v]
/-- The table of sums up to i, zeros behind. -/
def sumsTo (L : List Int) (i : Nat) : List Int := (List.range (2 ^ L.length)).map fun j => if j < i then sumN L j else 0
theorem sumsTo_len (L : List Int) (i : Nat) : (sumsTo L i).length = 2 ^ L.length := by simp [sumsTo]
theorem sumsTo_at (L : List Int) (i j : Nat) (hj : j < 2 ^ L.length) : ig (sumsTo L i) j = if j < i then sumN L j else 0 := by
  unfold ig sumsTo
  rw [List.getElem?_map, List.getElem?_range hj]
  rfl
theorem sumsTo_done (L : List Int) : sumsTo L (2 ^ L.length) = allS L := by
  unfold sumsTo allS
  exact List.map_congr_left fun j hj => if_pos (List.mem_range.1 hj)
theorem sumsTo_set (L : List Int) (i : Nat) (_ : i < 2 ^ L.length) : (sumsTo L i).set i (sumN L i) = sumsTo L (i + 1) := by
  refine ig_ext _ _ (by rw [List.length_set, sumsTo_len, sumsTo_len]) fun j hj => ?_
  rw [List.length_set, sumsTo_len] at hj
  rw [sumsTo_at L (i + 1) j hj]
  unfold ig
  rw [List.getElem?_set]
  by_cases e : i = j
  · subst e
    rw [if_pos rfl, if_pos (by rw [sumsTo_len]; exact hj), if_pos (by omega)]
    rfl
  · rw [if_neg e]
    have := sumsTo_at L i j hj
    unfold ig at this
    rw [this]
    by_cases h : j < i
    · rw [if_pos h, if_pos (by omega)]
    · rw [if_neg h, if_neg (by omega)]
theorem sumsTo_one (L : List Int) : sumsTo L 0 = sumsTo L 1 := by
  unfold sumsTo
  refine List.map_congr_left fun j _ => ?_
  rw [if_neg (by omega)]
  by_cases h : j < 1
  · rw [if_pos h, show j = 0 by omega, sum_zero]
  · rw [if_neg h]
theorem sumN_bound : ∀ (L : List Int) (s : Nat), (∀ x ∈ L, -1125899906842624 ≤ x ∧ x ≤ 1125899906842624) → -(1125899906842624 * (L.length : Int)) ≤ sumN L s ∧ sumN L s ≤ 1125899906842624 * (L.length : Int)
  | [], s, _ => by simp [sumN]
  | x :: r, s, h => by
    have h1 := h x (List.mem_cons_self ..)
    have h2 := sumN_bound r (s / 2) fun y hy => h y (List.mem_cons_of_mem _ hy)
    rw [sumN_cons, List.length_cons]
    split <;> omega
theorem small_mem {L : List Int} (h : givenE L = 0) : ∀ x ∈ L, -1125899906842624 ≤ x ∧ x ≤ 1125899906842624 := fun x hx => by
  obtain ⟨j, hj, e⟩ := List.getElem_of_mem hx
  have := (given_small h).2 j hj
  rwa [ig_eq L j hj, e] at this
theorem int_info : (Tryd.prog.info? 3).map (fun i => (i.zero, i.size, i.bytes)) = some (some (.int .i64 0), 1, 8) := by kernel_rfl
theorem made_zeros (L : List Int) : (madeCells (Value.int .i64 0).cells (2 ^ L.length * 1)).toList = nflat (sumsTo L 0) := by
  have e : nflat (sumsTo L 0) = List.replicate (2 ^ L.length) (.int .i64 0) := by
    have : ∀ m : Nat, nflat ((List.range m).map fun j => if j < 0 then sumN L j else 0) = List.replicate m (.int .i64 0) := fun m => by
      induction m with
      | zero => rfl
      | succ m ih => rw [List.range_succ, List.map_append, List.map_singleton, nflat_snoc, ih, List.replicate_succ']; rfl
    exact this _
  rw [e, Nat.mul_one]
  exact toList_madeCells_one _ _

set_option maxHeartbeats 4000000 in
theorem sums_any (a : Option Addr) (L : List Int) (cap : Nat) (w : World) (hG : givenE L = 0) (hI : Nums w.heap.size w a L) (hT : Tabs w) :
    Calls Tryd.prog 43 #[.slice a L.length cap] w fun e w' => Hid (∃ g, e = .returned (.slice (some ⟨g, 0, none⟩) (2 ^ L.length) (2 ^ L.length)) ∧ w'.ownsRow w.heap.size 3 1 (.slice (some ⟨g, 0, none⟩) (2 ^ L.length) (2 ^ L.length)) (2 ^ L.length) (nflat (allS L)) ∧ Below w.heap.size w w') := by
  have hl := (given_small hG).1
  have h16 : 2 ^ L.length ≤ 65536 := Nat.pow_le_pow_right (by decide) hl
  have hpos : 0 < 2 ^ L.length := Nat.two_pow_pos _
  have HI := Lib.hid hI
  have HT := Lib.hid hT
  have HG := Lib.hid (small_mem hG)
  obtain ⟨i0, hi, hz1, hz2, hz3⟩ := info_parts int_info
  clear hI hT hG
  have hn : ∃ N : Nat, 2 ^ L.length = N := ⟨_, rfl⟩
  obtain ⟨N, hN⟩ := hn
  have hNI : ((2 : Int) ^ L.length) = N := by rw [← hN]; simp
  have hsh : wrap64 (2 ^ L.length) = (N : Int) := by
    rw [hNI]
    unfold wrap64
    omega
  clear hNI
  rw [hN] at h16 hpos ⊢
  go_enter Tryd.func43, Tryd.ntmps43
  go_wp2_with (at_make; refine wpList_make_full _ rfl _ _ 22 rfl w.heap.size 3 i0 (.int .i64 0) 1 Tryd.underlying22 hi hz1 hz2 _ _ _ _ N rfl rfl hsh hsh (by rw [hz3]; omega) (by unfold maxLen; omega) (Nat.le_refl _) ?_; intro w2 hown2 hg2; have HD2 := Lib.hid (show w2.ownsRow w.heap.size 3 1 (.slice (some ⟨w.heap.size, 0, none⟩) N N) N (nflat (sumsTo L 0)) by rw [← made_zeros, hN]; exact hown2); clear hown2)
  have HB2 : Below w.heap.size w w2 := (Below.refl _ _).grown hg2 (Nat.le_refl _) (fun k e => by cases e)
  have HN := Lib.hid hN
  clear hN hg2 hsh
  go_loopw [12] (fun iv wr => ∃ i : Nat, iv = .int .i64 i ∧ i ≤ N ∧ Hid (wr.ownsRow w.heap.size 3 1 (.slice (some ⟨w.heap.size, 0, none⟩) N N) N (nflat (sumsTo L i))) ∧ Below w.heap.size w wr) (fun iv _ => N - (intOf iv).toNat)
  case atStart => exact ⟨0, rfl, by omega, HD2, HB2⟩
  case round =>
    clear HD2 HB2
    obtain ⟨i, rfl, hiN, HR, hB⟩ := hrel
    by_cases hlt : i < N
    · by_cases h0 : i = 0
      · have HR1 : Hid (wr.ownsRow w.heap.size 3 1 (.slice (some ⟨w.heap.size, 0, none⟩) N N) N (nflat (sumsTo L (i + 1)))) := Lib.hid (by have := HR.out; rw [h0, sumsTo_one] at this; rw [h0]; exact this)
        go_wp2_with (fail)
        go_roundw
        case rel => exact ⟨i + 1, by go_num, by omega, HR1, hB⟩
        case measure => simp [intOf]; omega
      · have hi2 : i < 2 ^ L.length := by rw [HN.out]; exact hlt
        obtain ⟨hsl, hkl⟩ := sum_low L i h0 hi2 64 (by omega)
        have HC := Lib.hid (tz_any i h0 (by omega) wr (HT.out.grow hB))
        obtain ⟨k, hk⟩ : ∃ k : Nat, Lib.ctzFrom 64 i = k := ⟨_, rfl⟩
        rw [hk] at HC hsl hkl
        obtain ⟨m, hm⟩ : ∃ m : Nat, lowN i = m := ⟨_, rfl⟩
        have hmi : m < i := by rw [← hm]; exact low_lt h0
        have g1 : bits .and .i64 (i : Int) ((i : Int) - 1) = (m : Int) := by
          rw [show (i : Int) - 1 = ((i - 1 : Nat) : Int) by omega, ← hm]
          exact i64_and i (i - 1) (by omega) (by omega)
        rw [hm] at hsl
        have c1 : wr.cell? ⟨w.heap.size, m, none⟩ = some (.int .i64 (sumN L m)) := by
          rw [HR.out.cellAt m (by omega), nflat_at _ _ (by rw [sumsTo_len, HN.out]; omega), sumsTo_at L i m (by rw [HN.out]; omega), if_pos hmi]
        have c3 : wr.cell? ⟨w.heap.size, i, none⟩ = some (.int .i64 0) := by
          rw [HR.out.cellAt i (by omega), nflat_at _ _ (by rw [sumsTo_len, HN.out]; omega), sumsTo_at L i i (by rw [HN.out]; omega), if_neg (by omega)]
        obtain ⟨b, off, rfl, hbl, hc⟩ := HI.out (by omega)
        have c2 : wr.cell? ⟨b, off + k, none⟩ = some (.int .i64 (ig L k)) := (hB.cell (p := ⟨b, off + k, none⟩) hbl).trans (hc k hkl)
        have b1 := sumN_bound L m HG.out
        have b2 := sumN_bound L i HG.out
        have hst := HR.out.stored i (.int .i64 (sumN L i))
        rw [← nflat_set, sumsTo_set L i hi2] at hst
        have HST := Lib.hid hst.1
        have hfz := HR.out.frozenAt i
        have hws : w.heap.size < wr.heap.size := (HR.out.lt _ rfl).2
        have hsl2 : sumN L m + ig L k = sumN L i := hsl.symm
        obtain ⟨x1, hx1⟩ : ∃ x, sumN L m = x := ⟨_, rfl⟩
        obtain ⟨x2, hx2⟩ : ∃ x, ig L k = x := ⟨_, rfl⟩
        obtain ⟨x3, hx3⟩ : ∃ x, sumN L i = x := ⟨_, rfl⟩
        rw [hx1] at c1 b1 hsl2
        rw [hx2] at c2 hsl2
        rw [hx3] at HST b2 hsl2
        have bb : -9223372036854775808 ≤ x3 ∧ x3 < 9223372036854775808 := by omega
        have bk : k < L.length := hkl
        have wv : wrap64 (x1 + x2) = x3 := by unfold wrap64; omega
        have wv2 : (x1 + x2 + 9223372036854775808) % 18446744073709551616 - 9223372036854775808 = x3 := by omega
        clear hst hc hk hm hx1 hx2 hx3 hsl b1 b2 hi2
        go_wp2_with (go_at_call 57; (with_reducible refine HC.out.mono ?_); rintro e w1 ⟨rfl, rfl⟩)
        go_region
        all_goals go_wp2_with (fail)
        all_goals go_roundw
        all_goals first
          | (exact ⟨i + 1, by go_num, by omega, Lib.hid HST.out.drew, (hB.setCell (show w.heap.size ≤ (⟨w.heap.size, i, none⟩ : Addr).block from Nat.le_refl _) _).drew⟩)
          | (simp [intOf]; omega)
    · obtain rfl : i = N := by omega
      have HE : Hid (nflat (sumsTo L i) = nflat (allS L)) := Lib.hid (by rw [← HN.out, sumsTo_done])
      go_wp2_with (fail)
      go_ret
      refine Lib.hid ⟨_, rfl, ?_, hB⟩
      rw [← HE.out]
      exact HR.out
end Go.Proofs.YtfiefmhnonddhaaDoor
