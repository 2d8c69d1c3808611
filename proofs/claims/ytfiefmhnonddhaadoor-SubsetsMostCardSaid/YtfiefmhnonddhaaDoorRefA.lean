/-
  THE WALKS of the reference's Has, Indices, Sum, Earlier and far.
-/
import Derived.Test.YtfiefmhnonddhaaDoorCompare
import Derived.Test.YtfiefmhnonddhaaDoorRefGiven
import Derived.Test.YtfiefmhnonddhaaDoorNearest
namespace Go.Proofs.YtfiefmhnonddhaaDoor
open Go.RowKit Go.Shelf

theorem i64_bit (s k : Nat) (hs : s < 65536) : bits .and .i64 ((s / 2 ^ k : Nat) : Int) 1 = if s.testBit k = true then 1 else 0 := by
  have h1 : s / 2 ^ k < 2 ^ 63 := Nat.lt_of_le_of_lt (Nat.div_le_self _ _) (by omega)
  have := i64_and (s / 2 ^ k) 1 h1 (by decide)
  rw [show ((1 : Nat) : Int) = 1 from rfl] at this
  rw [this, Nat.and_one_is_mod, Nat.testBit_eq_decide_div_mod_eq]
  rcases Nat.mod_two_eq_zero_or_one (s / 2 ^ k) with e | e <;> rw [e] <;> rfl

set_option maxRecDepth 100000 in
set_option maxHeartbeats 1000000 in
theorem has_any (s i : Nat) (hs : s < 65536) (hi : i < 64) (w : World) :
    Calls Tryd.prog 39 #[.int .i64 s, .int .i64 i] w fun e w' => e = .returned (.bool (s.testBit i)) ∧ w = w' := by
  have hb := i64_bit s i hs
  rw [show ((s / 2 ^ i : Nat) : Int) = (s : Int) / 2 ^ i by simp] at hb
  have f1 : (bits .and .i64 ((s : Int) / 2 ^ i) 1 == 1) = s.testBit i := by rw [hb]; cases s.testBit i <;> rfl
  obtain ⟨R, hR⟩ : ∃ R, s.testBit i = R := ⟨_, rfl⟩
  rw [hR] at f1 ⊢
  clear hb hR
  go_enter Tryd.func39, Tryd.ntmps39
  go_wp2_with fail
  go_ret
  exact ⟨rfl, rfl⟩

theorem bit_div (s i : Nat) : s.testBit i = decide (s / 2 ^ i % 2 = 1) := Nat.testBit_eq_decide_div_mod_eq
theorem idx_step {n i s : Nat} (hi : i < n) : idxN (n - i) i (s / 2 ^ i) = (if s.testBit i = true then [(i : Int)] else []) ++ idxN (n - (i + 1)) (i + 1) (s / 2 ^ (i + 1)) := by
  obtain ⟨m, hm⟩ : ∃ m, n - i = m + 1 := ⟨n - i - 1, by omega⟩
  rw [hm, idxN_succ, show n - (i + 1) = m by omega, bit_div]
  have e : s / 2 ^ i / 2 = s / 2 ^ (i + 1) := by rw [Nat.div_div_eq_div_mul, Nat.pow_succ]
  rw [e]
  by_cases h : s / 2 ^ i % 2 = 1
  · rw [if_pos h, decide_eq_true h]; rfl
  · rw [if_neg h, decide_eq_false h]; rfl
theorem sum_step {L : List Int} {i s : Nat} (hi : i < L.length) : sumN (L.drop i) (s / 2 ^ i) = (if s.testBit i = true then ig L i else 0) + sumN (L.drop (i + 1)) (s / 2 ^ (i + 1)) := by
  rw [ig_drop hi, sumN_cons, bit_div]
  have e : s / 2 ^ i / 2 = s / 2 ^ (i + 1) := by rw [Nat.div_div_eq_div_mul, Nat.pow_succ]
  rw [e]
  by_cases h : s / 2 ^ i % 2 = 1
  · rw [if_pos h, decide_eq_true h]; simp
  · rw [if_neg h, decide_eq_false h]; simp

set_option maxHeartbeats 4000000 in
theorem indices_any (a : Option Addr) (L : List Int) (cap s : Nat) (w : World) (hl : L.length ≤ 16) (hs : s < 65536) :
    Calls Tryd.prog 16 #[.slice a L.length cap, .int .i64 s] w fun e w' => Hid (∃ v, e = .returned v ∧ w'.ownsRow w.heap.size 3 1 v (idxN L.length 0 s).length (nflat (idxN L.length 0 s))) ∧ Below w.heap.size w w' := by
  obtain ⟨n, hn⟩ : ∃ n, L.length = n := ⟨_, rfl⟩
  rw [hn] at hl ⊢
  clear hn
  go_enter Tryd.func16, Tryd.ntmps16
  go_wp2
  go_loopw [5, 6] (fun ov iv wr => ∃ (i : Nat) (out : List Int), iv = .int .i64 i ∧ i ≤ n ∧ Hid (out ++ idxN (n - i) i (s / 2 ^ i) = idxN n 0 s) ∧ Hid (∃ a c, ov = .slice a out.length c) ∧ Hid (wr.ownsRow w.heap.size 3 1 ov out.length (nflat out)) ∧ out.length ≤ i ∧ Below w.heap.size w wr) (fun _ iv _ => n - (intOf iv).toNat)
  case atStart => exact ⟨0, [], rfl, by omega, Lib.hid (by simp), Lib.hid ⟨_, _, rfl⟩, Lib.hid (World.ownsRow_nil _ _ _ _), by simp, Below.refl _ _⟩
  case round =>
    obtain ⟨i, out, rfl, hi, HO, HV, HR, hol, hB⟩ := hrel
    obtain ⟨a', c', rfl⟩ := HV.out
    by_cases hlt : i < n
    · have HC := Lib.hid (has_any s i hs (by omega) wr)
      have hst := idx_step (n := n) (s := s) hlt
      obtain ⟨R, hR⟩ : ∃ R, s.testBit i = R := ⟨_, rfl⟩
      rw [hR] at HC hst
      have HS := Lib.hid hst
      have hwr := hB.size
      clear hst hR
      cases R
      · have HN : Hid (out ++ idxN (n - (i + 1)) (i + 1) (s / 2 ^ (i + 1)) = idxN n 0 s) := Lib.hid (by rw [← HO.out, HS.out]; rfl)
        go_wp2_with (go_at_call 39; (with_reducible refine HC.out.mono ?_); rintro e w1 ⟨rfl, rfl⟩)
        go_roundw
        case rel => exact ⟨i + 1, out, by go_num, by omega, HN, Lib.hid ⟨_, _, rfl⟩, HR, by omega, hB⟩
        case measure => simp [intOf]; omega
      · have HN : Hid ((out ++ [(i : Int)]) ++ idxN (n - (i + 1)) (i + 1) (s / 2 ^ (i + 1)) = idxN n 0 s) := Lib.hid (by rw [← HO.out, HS.out, List.append_assoc]; rfl)
        go_wp2_with (first
          | (go_at_call 39; (with_reducible refine HC.out.mono ?_); rintro e w1 ⟨rfl, rfl⟩)
          | (at_builtin; refine num_append rfl _ _ rfl w.heap.size _ out rfl (HR.out.alloc _) _ (i : Int) rfl (by exact cell_of_row _ _ 0 #[_] _ (0, 0) (heap_alloc_new _ _)) (by omega) (by first | omega | (simp; omega)) ?_; intro v3 w3 hown3 hg3))
        go_roundw
        case rel => exact ⟨i + 1, out ++ [(i : Int)], by go_num, by omega, HN, Lib.hid (by obtain ⟨a3, c3, e, _⟩ := num_of_row hown3; exact ⟨a3, c3, e⟩), Lib.hid hown3, by simp; omega, grown_own (HR.out.alloc _) hg3 (hB.alloc hwr _) (by simp; omega) (Nat.le_refl _)⟩
        case measure => simp [intOf]; omega
    · obtain rfl : i = n := by omega
      have HE : Hid (out = idxN i 0 s) := Lib.hid (by rw [← HO.out, Nat.sub_self]; simp [idxN])
      go_wp2_with (fail)
      go_ret
      rw [← HE.out]
      exact ⟨Lib.hid ⟨_, rfl, HR.out⟩, hB⟩

set_option maxHeartbeats 4000000 in
theorem refsum_any (a : Option Addr) (L : List Int) (cap s n₀ : Nat) (w : World) (hG : givenE L = 0) (hs : s < 65536) (hI : Nums n₀ w a L) :
    Calls Tryd.prog 40 #[.slice a L.length cap, .int .i64 s] w fun e w' => e = .returned (.int .i64 (sumN L s)) ∧ w = w' := by
  have hl := (given_small hG).1
  have HI := Lib.hid hI
  have HB := Lib.hid (given_small hG).2
  clear hI hG
  go_enter Tryd.func40, Tryd.ntmps40
  go_wp2
  go_loop [5, 6] (fun ov iv => ∃ (i : Nat) (x : Int), ov = .int .i64 x ∧ iv = .int .i64 i ∧ i ≤ L.length ∧ Hid (x + sumN (L.drop i) (s / 2 ^ i) = sumN L s) ∧ -(1125899906842624 * (i : Int)) ≤ x ∧ x ≤ 1125899906842624 * (i : Int)) (fun _ iv => L.length - (intOf iv).toNat)
  case atStart => exact ⟨0, 0, rfl, rfl, by omega, Lib.hid (by simp), by omega, by omega⟩
  case round =>
    obtain ⟨i, x, rfl, rfl, hi, HO, hx1, hx2⟩ := hrel
    by_cases hlt : i < L.length
    · have HC := Lib.hid (has_any s i hs (by omega) w)
      have hst := sum_step (s := s) hlt
      obtain ⟨R, hR⟩ : ∃ R, s.testBit i = R := ⟨_, rfl⟩
      rw [hR] at HC hst
      have HS := Lib.hid hst
      clear hst hR
      cases R
      · have HN : Hid (x + sumN (L.drop (i + 1)) (s / 2 ^ (i + 1)) = sumN L s) := Lib.hid (by have := HS.out; rw [if_neg (by decide)] at this; rw [← HO.out, this]; omega)
        go_wp2_with (go_at_call 39; (with_reducible refine HC.out.mono ?_); rintro e w1 ⟨rfl, rfl⟩)
        go_round
        case rel => exact ⟨i + 1, x, rfl, by go_num, by omega, HN, by omega, by omega⟩
        case measure => simp [intOf]; omega
      · obtain ⟨b, off, rfl, _, hc⟩ := HI.out (by omega)
        have c0 := hc i hlt
        have hib := HB.out i hlt
        obtain ⟨y, hy⟩ : ∃ y, ig L i = y := ⟨_, rfl⟩
        rw [hy] at c0 hib
        have hw : wrap64 (x + y) = x + y := by unfold wrap64; omega
        have HN : Hid ((x + y) + sumN (L.drop (i + 1)) (s / 2 ^ (i + 1)) = sumN L s) := Lib.hid (by have := HS.out; rw [if_pos rfl, hy] at this; rw [← HO.out, this]; omega)
        have hz1 : -(1125899906842624 * ((i + 1 : Nat) : Int)) ≤ x + y ∧ x + y ≤ 1125899906842624 * ((i + 1 : Nat) : Int) := by omega
        obtain ⟨z, hz⟩ : ∃ z, x + y = z := ⟨_, rfl⟩
        rw [hz] at HN hz1 hw
        have hbz : -9223372036854775808 ≤ z ∧ z < 9223372036854775808 := by omega
        clear hc hy hx1 hx2 hib
        go_wp2_with (go_at_call 39; (with_reducible refine HC.out.mono ?_); rintro e w1 ⟨rfl, rfl⟩)
        go_round
        case rel => exact ⟨i + 1, z, rfl, by go_num, by omega, HN, hz1.1, hz1.2⟩
        case measure => simp [intOf]; omega
    · obtain rfl : i = L.length := by omega
      have HE : Hid (x = sumN L s) := Lib.hid (by rw [← HO.out, List.drop_length]; simp [sumN])
      go_wp2_with (fail)
      go_ret
      exact ⟨ret_int HE.out, rfl⟩

set_option maxHeartbeats 1000000 in
theorem reffar_any (x y : Int) (w : World) (h1 : -2305843009213693952 ≤ x ∧ x ≤ 2305843009213693952) (h2 : -2305843009213693952 ≤ y ∧ y ≤ 2305843009213693952) :
    Calls Tryd.prog 49 #[.int .i64 x, .int .i64 y] w fun e w' => e = .returned (.int .i64 (farI x y)) ∧ w = w' := by
  by_cases h : x < y
  · have g1 : decide (x < y) = true := decide_eq_true h
    have HR : Hid (farI x y = y - x) := Lib.hid (by unfold farI; omega)
    clear h
    go_enter Tryd.func49, Tryd.ntmps49
    go_wp2_with (fail)
    go_ret
    exact ⟨ret_int HR.out.symm, rfl⟩
  · have g1 : decide (x < y) = false := decide_eq_false h
    have HR : Hid (farI x y = x - y) := Lib.hid (by unfold farI; omega)
    clear h
    go_enter Tryd.func49, Tryd.ntmps49
    go_wp2_with (fail)
    go_ret
    exact ⟨ret_int HR.out.symm, rfl⟩

set_option maxHeartbeats 4000000 in
theorem earlier_any (a b : Option Addr) (A B : List Int) (ca cb n₀ : Nat) (w : World) (hn : n₀ ≤ w.heap.size) (hA : Nums n₀ w a A) (hB : Nums n₀ w b B) (h1 : A.length ≤ 1000000) (h2 : B.length ≤ 1000000) :
    Calls Tryd.prog 41 #[.slice a A.length ca, .slice b B.length cb] w fun e w' => e = .returned (.bool (earlB A B)) ∧ Below w.heap.size w w' := by
  have HA := Lib.hid hA
  have HB := Lib.hid hB
  clear hA hB
  go_enter Tryd.func41, Tryd.ntmps41
  go_wp2
  go_loopw [5] (fun iv wr => ∃ i : Nat, iv = .int .i64 i ∧ i ≤ A.length ∧ i ≤ B.length ∧ Hid (earlB A B = earlB (A.drop i) (B.drop i)) ∧ Below w.heap.size w wr) (fun iv _ => A.length - (intOf iv).toNat)
  case atStart => exact ⟨0, rfl, by omega, by omega, Lib.hid rfl, Below.refl _ _⟩
  case round =>
    obtain ⟨i, rfl, hi, hj, HE, hW⟩ := hrel
    by_cases hlt : i < A.length
    · obtain ⟨ab, ao, rfl, hab, hac⟩ := HA.out (by omega)
      have c0 := (hW.cell (p := ⟨ab, ao + i, none⟩) (show ab < w.heap.size by omega)).trans (hac i hlt)
      clear hac
      have HAD : Hid (A.drop i = ig A i :: A.drop (i + 1)) := Lib.hid (ig_drop hlt)
      by_cases hbt : i < B.length
      · obtain ⟨bb, bo, rfl, hbb, hbc⟩ := HB.out (by omega)
        have d0 := (hW.cell (p := ⟨bb, bo + i, none⟩) (show bb < w.heap.size by omega)).trans (hbc i hbt)
        clear hbc
        have HBD : Hid (B.drop i = ig B i :: B.drop (i + 1)) := Lib.hid (ig_drop hbt)
        obtain ⟨x, hx⟩ : ∃ x, ig A i = x := ⟨_, rfl⟩
        obtain ⟨y, hy⟩ : ∃ y, ig B i = y := ⟨_, rfl⟩
        rw [hx] at c0 HAD
        rw [hy] at d0 HBD
        have HE2 : Hid (earlB A B = earlB (x :: A.drop (i + 1)) (y :: B.drop (i + 1))) := Lib.hid (by rw [HE.out, HAD.out, HBD.out])
        clear hx hy HE HAD HBD
        by_cases hxy : x = y
        · subst hxy
          have HN : Hid (earlB A B = earlB (A.drop (i + 1)) (B.drop (i + 1))) := Lib.hid (by rw [HE2.out, earl_cons])
          have g1 : (x != x) = false := bne_eq_false_iff_eq.2 rfl
          go_wp2_with fail
          go_quiet (fail)
          go_wp2_with fail
          go_roundw
          case rel => exact ⟨i + 1, by go_num, by omega, by omega, HN, below_drewN hW _⟩
          case measure => simp [intOf]; omega
        · have g1 : (x != y) = true := bne_iff_ne.2 hxy
          have HN : Hid (decide (x < y) = earlB A B) := Lib.hid (by rw [HE2.out, earl_ne hxy])
          clear hxy
          go_wp2_with fail
          go_quiet (fail)
          go_wp2_with fail
          go_quiet (fail)
          go_wp2_with fail
          go_ret
          exact ⟨ret_bool HN.out, below_drewN (below_drewN hW _) _⟩
      · have HN : Hid (decide (A.length < B.length) = earlB A B) := Lib.hid (by rw [HE.out, List.drop_eq_nil_of_le (show B.length ≤ i by omega), earl_nil_right, decide_eq_false (by omega)])
        go_wp2_with fail
        go_ret
        exact ⟨ret_bool HN.out, hW⟩
    · obtain rfl : i = A.length := by omega
      have HN : Hid (decide (A.length < B.length) = earlB A B) := Lib.hid (by
        rw [HE.out, List.drop_length, earl_nil_left, List.length_drop]
        exact decide_eq_decide.2 (by omega : A.length < B.length ↔ 0 < B.length - A.length))
      go_wp2_with fail
      go_ret
      exact ⟨ret_bool HN.out, hW⟩
end Go.Proofs.YtfiefmhnonddhaaDoor
