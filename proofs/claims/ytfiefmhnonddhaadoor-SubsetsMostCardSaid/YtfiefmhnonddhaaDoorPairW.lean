/-
  THE WALKS of the laws' total, of slices.Contains and IsSorted; Clone and Compact of a list in order.
-/
import Derived.Test.YtfiefmhnonddhaaDoorLawSums
import Derived.Deep.RegionHeld3
namespace Go.Proofs.YtfiefmhnonddhaaDoor
open Go.RowKit Go.Shelf

theorem contains_any (a : Option Addr) (L : List Int) (cap : Nat) (x : Int) (n₀ : Nat) (w : World) (hl : L.length ≤ 1100) (hL : Nums n₀ w a L) :
    Calls Tryd.prog 34 #[.slice a L.length cap, .int .i64 x] w fun e w' => e = .returned (.bool (decide (x ∈ L))) ∧ w = w' := by
  have hany : num_any L (fun y => decide (y = x)) = decide (x ∈ L) := by
    rw [num_any_eq, Bool.eq_iff_iff, List.any_eq_true, decide_eq_true_eq]
    constructor
    · rintro ⟨y, hy, e⟩
      rw [← of_decide_eq_true e]; exact hy
    · exact fun h => ⟨x, h, decide_eq_true rfl⟩
  have := num_contains a L cap x n₀ w hl hL
  rw [hany] at this
  exact this
theorem totalL_bound : ∀ (L : List Int), (∀ x ∈ L, -1125899906842624 ≤ x ∧ x ≤ 1125899906842624) → -(1125899906842624 * (L.length : Int)) ≤ totalL L ∧ totalL L ≤ 1125899906842624 * (L.length : Int)
  | [], _ => by simp [totalL]
  | x :: r, h => by
    have h1 := h x (List.mem_cons_self ..)
    have h2 := totalL_bound r fun y hy => h y (List.mem_cons_of_mem _ hy)
    rw [totalL, List.length_cons]
    omega
set_option maxHeartbeats 2000000 in
theorem total_any (a : Option Addr) (L : List Int) (cap n₀ : Nat) (w : World) (hG : givenE L = 0) (hI : Nums n₀ w a L) :
    Calls Tryd.prog 31 #[.slice a L.length cap] w fun e w' => e = .returned (.int .i64 (totalL L)) ∧ w = w' := by
  have hl := (given_small hG).1
  have HI := Lib.hid hI
  have HB := Lib.hid (given_small hG).2
  clear hI hG
  go_enter Tryd.func31, Tryd.ntmps31
  go_wp2
  go_loop [3, 8] (fun ov iv => ∃ (i : Nat) (x : Int), ov = .int .i64 x ∧ iv = .int .i64 i ∧ i ≤ L.length ∧ Hid (x + totalL (L.drop i) = totalL L) ∧ -(1125899906842624 * (i : Int)) ≤ x ∧ x ≤ 1125899906842624 * (i : Int)) (fun _ iv => L.length - (intOf iv).toNat)
  case atStart => exact ⟨0, 0, rfl, rfl, by omega, Lib.hid (by simp), by omega, by omega⟩
  case round =>
    obtain ⟨i, x, rfl, rfl, hi, HO, hx1, hx2⟩ := hrel
    by_cases hlt : i < L.length
    · obtain ⟨b, off, rfl, _, hc⟩ := HI.out (by omega)
      have c0 := hc i hlt
      have hib := HB.out i hlt
      have HD : Hid (totalL (L.drop i) = ig L i + totalL (L.drop (i + 1))) := Lib.hid (by rw [ig_drop hlt]; rfl)
      obtain ⟨y, hy⟩ : ∃ y, ig L i = y := ⟨_, rfl⟩
      rw [hy] at c0 hib HD
      have hw : wrap64 (x + y) = x + y := by unfold wrap64; omega
      have HN : Hid ((x + y) + totalL (L.drop (i + 1)) = totalL L) := Lib.hid (by rw [← HO.out, HD.out]; omega)
      have hz1 : -(1125899906842624 * ((i + 1 : Nat) : Int)) ≤ x + y ∧ x + y ≤ 1125899906842624 * ((i + 1 : Nat) : Int) := by omega
      obtain ⟨z, hz⟩ : ∃ z, x + y = z := ⟨_, rfl⟩
      rw [hz] at HN hz1 hw
      have hbz : -9223372036854775808 ≤ z ∧ z < 9223372036854775808 := by omega
      clear hc hy hx1 hx2 hib HD
      go_wp2_with fail
      go_round
      case rel => exact ⟨i + 1, z, rfl, by go_num, by omega, HN, hz1.1, hz1.2⟩
      case measure => simp [intOf]; omega
    · obtain rfl : i = L.length := by omega
      have HE : Hid (x = totalL L) := Lib.hid (by rw [← HO.out, List.drop_length]; simp [totalL])
      go_wp2_with (fail)
      go_ret
      exact ⟨ret_int HE.out, rfl⟩

theorem lt_ig {S : List Int} (h : S.Pairwise (· < ·)) {i : Nat} (hi : i + 1 < S.length) : ig S i < ig S (i + 1) := by
  rw [ig_eq _ _ hi, ig_eq _ _ (by omega)]
  exact List.pairwise_iff_getElem.1 h i (i + 1) (by omega) hi (by omega)
set_option maxHeartbeats 4000000 in
theorem sorted_any (a : Option Addr) (S : List Int) (cap n₀ : Nat) (w : World) (hn : n₀ ≤ w.heap.size) (hl : S.length ≤ 1000000) (hS : S.Pairwise (· < ·)) (hI : Nums n₀ w a S) :
    Calls Tryd.prog 32 #[.slice a S.length cap] w fun e w' => e = .returned (.bool true) ∧ Below w.heap.size w w' := by
  have HI := Lib.hid hI
  have HS0 := Lib.hid hS
  clear hI hS
  go_enter Tryd.func32, Tryd.ntmps32
  go_wp2
  go_loopw [3] (fun kv wr => ∃ k : Int, kv = .int .i64 k ∧ -1 ≤ k ∧ k < S.length ∧ Below w.heap.size w wr) (fun kv _ => (intOf kv).toNat)
  case atStart => exact ⟨(S.length : Int) - 1, rfl, by omega, by omega, Below.refl _ _⟩
  case round =>
    obtain ⟨kz, rfl, hk0, hk, hBo⟩ := hrel
    by_cases hpos : 0 < kz
    · obtain ⟨k, rfl⟩ : ∃ k : Nat, kz = (k : Int) + 1 := ⟨(kz - 1).toNat, by omega⟩
      obtain ⟨b, off, rfl, hb, hc⟩ := HI.out (by omega)
      have c1 := (hBo.cell (p := ⟨b, off + (k + 1), none⟩) (show b < w.heap.size by omega)).trans (hc (k + 1) (by omega))
      have c0 := (hBo.cell (p := ⟨b, off + k, none⟩) (show b < w.heap.size by omega)).trans (hc k (by omega))
      have hxy := lt_ig HS0.out (i := k) (by omega)
      clear hc
      obtain ⟨x, hx⟩ : ∃ x, ig S (k + 1) = x := ⟨_, rfl⟩
      obtain ⟨y, hy⟩ : ∃ y, ig S k = y := ⟨_, rfl⟩
      rw [hx] at c1 hxy
      rw [hy] at c0 hxy
      have HL : Hid (∀ w, Calls Tryd.prog 53 #[.int .i64 x, .int .i64 y] w fun e w' => e = .returned (.bool false) ∧ Below w.heap.size w w') := Lib.hid fun w => (Tryd.cmp_Less_int2 x y w).mono fun e w' h => ⟨by rw [h.1, decide_eq_false (by omega)], by rw [h.2]; exact Below.refl _ _⟩
      have hk1 : 0 ≤ (k : Int) + 1 := by omega
      have hk2 : k < S.length := by omega
      have hwk : IntKind.i64.wrap (k : Int) = k := by rw [IntKind.wrap_i64]; omega
      have hbw : b < wr.heap.size := by have := hBo.size; omega
      have HS : Hid (∀ w', Below wr.heap.size wr w' → (fun w' : World => w'.cell? ⟨b, off + (k + 1), none⟩ = some (.int .i64 x) ∧ w'.cell? ⟨b, off + k, none⟩ = some (.int .i64 y)) w') := Lib.hid fun w' h =>
        ⟨(h.cell (p := ⟨b, off + (k + 1), none⟩) hbw).trans c1, (h.cell (p := ⟨b, off + k, none⟩) hbw).trans c0⟩
      clear hx hy hxy
      go_upto_region 4 with fail
      refine wp_region_held_drew (S := (fun w' => w'.cell? ⟨b, off + (k + 1), none⟩ = some (.int .i64 x) ∧ w'.cell? ⟨b, off + k, none⟩ = some (.int .i64 y))) (by kernel_rfl) (HS.out _ (Below.refl _ _).drew) (fun hHeld => ?_)
      have hB0 := (Below.refl wr.heap.size wr).drew
      obtain ⟨w0, hw0⟩ : ∃ x, wr.drew = x := ⟨_, rfl⟩
      simp only [hw0] at hB0 hHeld ⊢
      clear hw0
      refine wpAnyH_take (i := 0) (oi := _) (v := ?_) (by simp only [List.getElem?_toArray, List.getElem?_cons_zero]; rfl) (by kernel_rfl) (by kernel_rfl) (by kernel_rfl) (by exact fun _ _ _ h => h) (Or.inl ⟨by rfl, ?_⟩) (by assumption) ?_
      rotate_left
      · (intro w hSw; (try dsimp only at hSw); go_split_ands; go_simp; try with_reducible rfl)
      simp only [Act.put, List.setIfInBounds_toArray, List.set_cons_zero, List.set_cons_succ]
      refine wpAnyH_take (i := 1) (oi := _) (v := ?_) (by simp only [List.getElem?_toArray, List.getElem?_cons_succ, List.getElem?_cons_zero]; rfl) (by kernel_rfl) (by kernel_rfl) (by kernel_rfl) (by exact fun _ _ _ h => h) (Or.inl ⟨by rfl, ?_⟩) (by assumption) ?_
      rotate_left
      · (intro w hSw; (try dsimp only at hSw); go_split_ands; go_simp; try with_reducible rfl)
      simp only [Act.put, List.setIfInBounds_toArray, List.set_cons_zero, List.set_cons_succ]
      refine wpAnyH_take (i := 2) (oi := _) (v := ?_) (by simp only [List.getElem?_toArray, List.getElem?_cons_succ, List.getElem?_cons_zero]; rfl) (by kernel_rfl) (by kernel_rfl) (by kernel_rfl) (by exact fun _ _ _ h => h) (Or.inl ⟨by rfl, ?_⟩) (by assumption) ?_
      rotate_left
      · (intro w hSw; (try dsimp only at hSw); go_split_ands; go_simp; try with_reducible rfl)
      simp only [Act.put, List.setIfInBounds_toArray, List.set_cons_zero, List.set_cons_succ]
      refine wpAnyH_take (i := 3) (oi := _) (v := ?_) (by simp only [List.getElem?_toArray, List.getElem?_cons_succ, List.getElem?_cons_zero]; rfl) (by kernel_rfl) (by kernel_rfl) (by kernel_rfl) (by exact fun _ _ _ h => h) (Or.inl ⟨by rfl, ?_⟩) (by assumption) ?_
      rotate_left
      · (intro w hSw; (try dsimp only at hSw); go_split_ands; go_simp; try with_reducible rfl)
      simp only [Act.put, List.setIfInBounds_toArray, List.set_cons_zero, List.set_cons_succ]
      refine wpAnyH_take (i := 4) (oi := _) (v := ?_) (by simp only [List.getElem?_toArray, List.getElem?_cons_succ, List.getElem?_cons_zero]; rfl) (by kernel_rfl) (by kernel_rfl) (by kernel_rfl) (by exact fun _ _ _ h => h) (Or.inl ⟨by rfl, ?_⟩) (by assumption) ?_
      rotate_left
      · (intro w hSw; (try dsimp only at hSw); go_split_ands; go_simp; try with_reducible rfl)
      simp only [Act.put, List.setIfInBounds_toArray, List.set_cons_zero, List.set_cons_succ]
      refine wpAnyH_take (i := 5) (oi := _) (v := ?_) (by simp only [List.getElem?_toArray, List.getElem?_cons_succ, List.getElem?_cons_zero]; rfl) (by kernel_rfl) (by kernel_rfl) (by kernel_rfl) (by exact fun _ _ _ h => h) (Or.inl ⟨by rfl, ?_⟩) (by assumption) ?_
      rotate_left
      · (intro w hSw; (try dsimp only at hSw); go_split_ands; go_simp; try with_reducible rfl)
      simp only [Act.put, List.setIfInBounds_toArray, List.set_cons_zero, List.set_cons_succ]
      refine wpAnyH_take (i := 6) (oi := _) (v := ?_) (by simp only [List.getElem?_toArray, List.getElem?_cons_succ, List.getElem?_cons_zero]; rfl) (by kernel_rfl) (by kernel_rfl) (by kernel_rfl) (by exact fun _ _ _ h => h) (Or.inl ⟨by rfl, ?_⟩) (by assumption) ?_
      rotate_left
      · (intro w hSw; (try dsimp only at hSw); go_split_ands; go_simp; try with_reducible rfl)
      simp only [Act.put, List.setIfInBounds_toArray, List.set_cons_zero, List.set_cons_succ]
      refine wpAnyH_take (i := 7) (oi := _) (v := ?_) (by simp only [List.getElem?_toArray, List.getElem?_cons_succ, List.getElem?_cons_zero]; rfl) (by kernel_rfl) (by kernel_rfl) (by kernel_rfl) (by exact fun _ _ _ h => h) (Or.inl ⟨by rfl, ?_⟩) (by assumption) ?_
      rotate_left
      · (intro w hSw; (try dsimp only at hSw); go_split_ands; go_simp; try with_reducible rfl)
      simp only [Act.put, List.setIfInBounds_toArray, List.set_cons_zero, List.set_cons_succ]
      refine wpAnyH_take (i := 8) (oi := _) (v := ?_) (by simp only [List.getElem?_toArray, List.getElem?_cons_succ, List.getElem?_cons_zero]; rfl) (by kernel_rfl) (by kernel_rfl) (by kernel_rfl) (by exact fun _ _ _ h => h) (Or.inl ⟨by rfl, ?_⟩) (by assumption) ?_
      rotate_left
      · (intro w hSw; (try dsimp only at hSw); go_split_ands; go_simp; try with_reducible rfl)
      simp only [Act.put, List.setIfInBounds_toArray, List.set_cons_zero, List.set_cons_succ]
      refine wpAnyH_ready (rs := [9]) (by kernel_rfl) (by simp) ?_
      refine AllReadyH.cons (o := _) (by simp only [List.getElem?_toArray, List.getElem?_cons_succ, List.getElem?_cons_zero]; rfl) (fun K hK => ?_) (AllReadyH.nil)
      go_simp
      (go_at_call 53; go_split_ands; (with_reducible refine ((HL.out _)).mono ?_); rintro e w1 ⟨rfl, hb1⟩)
      go_wp2_with fail
      have hB1 := hB0.trans (hb1.mono hB0.size)
      refine hK.out _ _ (HS.out _ hB1) (fun hHeld => ?_)
      clear hK K
      try simp only [Act.put, List.setIfInBounds_toArray, List.set_cons_zero, List.set_cons_succ]
      refine wpAnyH_done (by kernel_rfl) ?_ _
      have hB := hB1
      go_wp2_with fail
      go_roundw
      case rel => exact ⟨k, by go_num, by omega, by omega, hBo.trans (hB.mono hBo.size)⟩
      case measure => first | (simp [intOf]; done) | (simp [intOf]; omega)
    · have g0 : decide (0 < kz) = false := decide_eq_false hpos
      go_wp2_with fail
      go_ret
      exact ⟨rfl, hBo⟩

theorem nflat_take_all (S : List Int) : (S.take S.length).map (Value.int .i64) = nflat S := by rw [List.take_length, nflat_map]
theorem clone_any (a : Option Addr) (L : List Int) (cap : Nat) (w : World) (hl : L.length ≤ 1000000) (hnil : a = none → cap = 0) (hI : Nums w.heap.size w a L) :
    Calls Tryd.prog 18 #[.slice a L.length cap] w fun e w' => Hid (∃ v, e = .returned v ∧ w'.ownsRow w.heap.size 3 1 v L.length (nflat L)) ∧ Below w.heap.size w w' := by
  by_cases h0 : 0 < L.length
  · obtain ⟨b, off, rfl, hb, hc⟩ := hI h0
    refine (Tryd.slices_Clone_int b off L.length cap L w (Nat.le_refl _) (by omega) (fun j hj => by
      rw [hc j hj]
      unfold ig
      rw [List.getD_eq_getElem?_getD])).mono fun e w' h => ?_
    obtain ⟨v, he, hr, _, hb2⟩ := h
    rw [nflat_take_all] at hr
    exact ⟨Lib.hid ⟨v, he, hr⟩, hb2⟩
  · obtain rfl : L = [] := List.eq_nil_of_length_eq_zero (by omega)
    cases a with
    | none =>
      refine (Tryd.slices_Clone_int_nil 0 cap w).mono fun e w' h => ?_
      rw [h.2]
      exact ⟨Lib.hid ⟨_, h.1, World.ownsRow_nil _ _ _ _⟩, Below.refl _ _⟩
    | some ad =>
      refine (Tryd.slices_Clone_int_zero ad cap w).mono fun e w' h => ?_
      obtain ⟨v, he, hr, _, hb2⟩ := h
      exact ⟨Lib.hid ⟨v, he, hr⟩, hb2⟩
theorem compact_lt {S : List Int} (h : S.Pairwise (· < ·)) : Lib.compact S = S := by
  obtain ⟨h1, h2⟩ := compact_upto (h.imp fun h => by omega) S.length (Nat.le_refl _)
  exact ltL_ext _ _ h1 h fun x => (h2 x).trans mem_ig.symm
end Go.Proofs.YtfiefmhnonddhaaDoor
