/-
  THE WALKS of the reference's Manual and Given.
-/
import Derived.Test.YtapjhjpibefooaaStartsP
namespace Go.Proofs.Ytapjhjpibefooaa
open Go.RowKit Go.Shelf

set_option maxRecDepth 100000 in
set_option maxHeartbeats 2000000 in
theorem manual_any (ca pa : Option Addr) (L : List CueR) (A : List (ByteArray × ByteArray)) (cc pc n : Nat) (w : World) (hlen : L.length ≤ 1000) (hn : n ≤ L.length) (hI : Cues w.heap.size w ca L) :
    Calls Try.prog 60 #[.agg #[.slice ca L.length cc, .slice pa A.length pc], .int .i64 n] w fun e w' => e = .returned (.int .i64 (manTo L n : Nat)) ∧ Below w.heap.size w w' := by
  have hb0 : Below w.heap.size w (w.alloc (.cells #[.slice ca L.length cc, .slice pa A.length pc] 25)) := below_new w _
  have HI := Lib.hid (hI.grow hb0)
  have HB0 := Lib.hid hb0
  clear hb0 hI
  have z0 : (w.alloc (.cells #[.slice ca L.length cc, .slice pa A.length pc] 25)).cell? ⟨w.heap.size, 0, none⟩ = some (.slice ca L.length cc) := by simp
  go_enter Try.func60, Try.ntmps60
  go_wp2
  generalize (w.alloc (.cells #[.slice ca L.length cc, .slice pa A.length pc] 25)) = W0 at *
  go_loop [5, 6] (fun m i => ∃ k : Nat, k ≤ n ∧ i = .int .i64 k ∧ m = .int .i64 (manTo L k : Nat)) (fun _ i => n - (intOf i).toNat)
  case atStart => exact ⟨0, Nat.zero_le _, rfl, rfl⟩
  case round =>
    obtain ⟨k, hk, rfl, rfl⟩ := hrel
    have hml := manTo_le L k
    by_cases hlt : k < n
    · obtain ⟨b, off, rfl, hbl, hc⟩ := HI.out (by omega)
      obtain ⟨_, _, d2, _⟩ := hc k (by omega)
      have hkl : k < L.length := by omega
      clear hc
      by_cases l1 : (cg L k).link = 1
      · have m1 : ((cg L k).link == 1) = true := beq_iff_eq.2 l1
        have HM : Hid (manTo L (k + 1) = manTo L k + 1) := Lib.hid (by simp only [manTo]; rw [if_pos l1])
        clear l1
        go_wp2
        go_round
        case rel => exact ⟨k + 1, by omega, by go_num, by rw [HM.out]; go_num⟩
        case measure => simp [intOf]; omega
      · have m1 : ((cg L k).link == 1) = false := beq_eq_false_iff_ne.2 l1
        have HM : Hid (manTo L (k + 1) = manTo L k) := Lib.hid (by simp only [manTo]; rw [if_neg l1]; rfl)
        clear l1
        go_wp2
        go_round
        case rel => exact ⟨k + 1, by omega, by go_num, by rw [HM.out]⟩
        case measure => simp [intOf]; omega
    · obtain rfl : k = n := by omega
      go_wp2
      go_ret
      exact ⟨rfl, HB0.out⟩

def givenE (L : List CueR) (N G : List Int) : Int := if N.length = L.length ∧ G.length = manTo L L.length then (if N.any wrongT || G.any wrongT then 2 else 0) else 3
theorem within_t (n : Int) (w : World) : Calls Try.prog 58 #[.int .i64 n, .int .i64 2147483648] w fun e w' => e = .returned (.bool (!wrongT n)) ∧ w = w' :=
  (within_any n 2147483648 w).mono fun e w' h => ⟨by rw [h.1]; exact ret_bool (by unfold wrongT timeB; rw [Bool.not_not]), h.2⟩
theorem anyT_false_of {S : List Int} (h : ∀ j, j < S.length → wrongT (ig S j) = false) : S.any wrongT = false := by
  rw [List.any_eq_false]
  intro x hx
  obtain ⟨i, hi, e⟩ := List.getElem_of_mem hx
  have := h i hi
  rw [ig_eq S i hi, e] at this
  rw [this]; decide
theorem anyT_true_of {S : List Int} {k : Nat} (hk : k < S.length) (h : wrongT (ig S k) = true) : S.any wrongT = true := by
  rw [List.any_eq_true]
  exact ⟨_, by rw [ig_eq S k hk]; exact List.getElem_mem hk, h⟩

set_option maxRecDepth 100000 in
set_option maxHeartbeats 4000000 in
theorem given_any (ca pa na ga : Option Addr) (L : List CueR) (A : List (ByteArray × ByteArray)) (N G : List Int) (cc pc nc gc : Nat) (w : World) (hlen : L.length ≤ 1000) (hlN : N.length ≤ 1000) (hlG : G.length ≤ 1000) (hI : Cues w.heap.size w ca L) (hN : Nums w.heap.size w na N) (hG : Nums w.heap.size w ga G) :
    Calls Try.prog 59 #[.agg #[.slice ca L.length cc, .slice pa A.length pc], .slice na N.length nc, .slice ga G.length gc] w fun e w' => e = .returned (.int .i64 (givenE L N G)) ∧ Below w.heap.size w w' := by
  have hb0 : Below w.heap.size w (w.alloc (.cells #[.slice ca L.length cc, .slice pa A.length pc] 25)) := below_new w _
  have HI := Lib.hid (hI.grow hb0)
  have HN := Lib.hid (hN.grow hb0)
  have HG := Lib.hid (hG.grow hb0)
  have HX : Hid (∀ wr, Below (w.alloc (.cells #[.slice ca L.length cc, .slice pa A.length pc] 25)).heap.size (w.alloc (.cells #[.slice ca L.length cc, .slice pa A.length pc] 25)) wr → Below w.heap.size w wr ∧ wr.cell? ⟨w.heap.size, 0, none⟩ = some (.slice ca L.length cc) ∧ wr.cell? ⟨w.heap.size, 1, none⟩ = some (.slice pa A.length pc)) := Lib.hid fun wr h => ⟨mono_in _ h, box2 h⟩
  clear hb0 hI hN hG
  have z0 : (w.alloc (.cells #[.slice ca L.length cc, .slice pa A.length pc] 25)).cell? ⟨w.heap.size, 0, none⟩ = some (.slice ca L.length cc) := by simp
  have z1 : (w.alloc (.cells #[.slice ca L.length cc, .slice pa A.length pc] 25)).cell? ⟨w.heap.size, 1, none⟩ = some (.slice pa A.length pc) := by simp
  have hml := manTo_le L L.length
  by_cases hn1 : N.length = L.length
  · have m1 : ((N.length : Int) != (L.length : Int)) = false := by rw [bne_eq_false_iff_eq]; omega
    by_cases hg1 : G.length = manTo L L.length
    · have m2 : ((G.length : Int) != ((manTo L L.length : Nat) : Int)) = false := by rw [bne_eq_false_iff_eq]; omega
      have HC : Hid (givenE L N G = if N.any wrongT || G.any wrongT then 2 else 0) := Lib.hid (by unfold givenE; rw [if_pos ⟨hn1, hg1⟩])
      clear hn1 hg1
      go_enter Try.func59, Try.ntmps59
      go_wp2_with (go_at_call 60; (with_reducible refine (manual_any _ _ L A _ _ L.length _ hlen (Nat.le_refl _) HI.out).mono ?_); rintro e w1 ⟨rfl, hb1⟩)
      have hB := hb1
      clear hb1
      go_loop [7] (fun i => ∃ k : Nat, k ≤ N.length ∧ i = .int .i64 k ∧ Hid (∀ j, j < k → wrongT (ig N j) = false)) (fun i => N.length - (intOf i).toNat)
      case atStart => exact ⟨0, Nat.zero_le _, rfl, Lib.hid (fun _ h => absurd h (Nat.not_lt_zero _))⟩
      case round =>
        obtain ⟨k, hk, rfl, HA⟩ := hrel
        by_cases hlt : k < N.length
        · obtain ⟨nb, no, rfl, hnl, hnc⟩ := HN.out (by omega)
          have n1 := (hB.cell (p := ⟨nb, no + k, none⟩) hnl).trans (hnc k hlt)
          clear hnc
          cases hwn : wrongT (ig N k)
          · have HWN := Lib.hid hwn
            have HA' : Hid (∀ j, j < k + 1 → wrongT (ig N j) = false) := Lib.hid fun j hj => by
              rcases Nat.lt_or_ge j k with l | l
              · exact HA.out j l
              · obtain rfl : j = k := by omega
                exact hwn
            clear hwn
            go_wp2_with (go_at_call 58; (with_reducible refine (within_t (ig N k) _).mono ?_); rintro e w' ⟨rfl, rfl⟩; rw [HWN.out])
            go_round
            case rel => exact ⟨k + 1, by omega, by go_num, HA'⟩
            case measure => simp [intOf]; omega
          · have HWN := Lib.hid hwn
            have HP0 : Hid (givenE L N G = 2) := Lib.hid (by rw [HC.out, anyT_true_of hlt hwn]; rfl)
            clear hwn
            go_wp2_with (go_at_call 58; (with_reducible refine (within_t (ig N k) _).mono ?_); rintro e w' ⟨rfl, rfl⟩; rw [HWN.out])
            go_ret
            exact ⟨ret_int HP0.out.symm, (HX.out _ hB).1⟩
        · obtain rfl : k = N.length := by omega
          have HWN := Lib.hid (anyT_false_of HA.out)
          clear HA hlt hk
          go_wp2_with fail
          go_loop [8] (fun i => ∃ k : Nat, k ≤ G.length ∧ i = .int .i64 k ∧ Hid (∀ j, j < k → wrongT (ig G j) = false)) (fun i => G.length - (intOf i).toNat)
          case atStart => exact ⟨0, Nat.zero_le _, rfl, Lib.hid (fun _ h => absurd h (Nat.not_lt_zero _))⟩
          case round =>
            obtain ⟨k, hk, rfl, HA⟩ := hrel
            by_cases hlt : k < G.length
            · obtain ⟨gb, go, rfl, hnl, hnc⟩ := HG.out (by omega)
              have n1 := (hB.cell (p := ⟨gb, go + k, none⟩) hnl).trans (hnc k hlt)
              clear hnc
              cases hwn : wrongT (ig G k)
              · have HWN := Lib.hid hwn
                have HA' : Hid (∀ j, j < k + 1 → wrongT (ig G j) = false) := Lib.hid fun j hj => by
                  rcases Nat.lt_or_ge j k with l | l
                  · exact HA.out j l
                  · obtain rfl : j = k := by omega
                    exact hwn
                clear hwn
                go_wp2_with (go_at_call 58; (with_reducible refine (within_t (ig G k) _).mono ?_); rintro e w' ⟨rfl, rfl⟩; rw [HWN.out])
                go_round
                case rel => exact ⟨k + 1, by omega, by go_num, HA'⟩
                case measure => simp [intOf]; omega
              · have HWN := Lib.hid hwn
                have HP0 : Hid (givenE L N G = 2) := Lib.hid (by rw [HC.out, anyT_true_of hlt hwn, Bool.or_true]; rfl)
                clear hwn
                go_wp2_with (go_at_call 58; (with_reducible refine (within_t (ig G k) _).mono ?_); rintro e w' ⟨rfl, rfl⟩; rw [HWN.out])
                go_ret
                exact ⟨ret_int HP0.out.symm, (HX.out _ hB).1⟩
            · obtain rfl : k = G.length := by omega
              have HWG := Lib.hid (anyT_false_of HA.out)
              clear HA hlt hk
              go_wp2_with fail
              have HP0 : Hid (givenE L N G = 0) := Lib.hid (by rw [HC.out, HWN.out, HWG.out]; rfl)
              go_ret
              exact ⟨ret_int HP0.out.symm, (HX.out _ hB).1⟩
    · have m2 : ((G.length : Int) != ((manTo L L.length : Nat) : Int)) = true := bne_iff_ne.2 (by omega)
      have HP0 : Hid (givenE L N G = 3) := Lib.hid (by unfold givenE; rw [if_neg (fun h => hg1 h.2)])
      clear hn1 hg1
      go_enter Try.func59, Try.ntmps59
      go_wp2_with (go_at_call 60; (with_reducible refine (manual_any _ _ L A _ _ L.length _ hlen (Nat.le_refl _) HI.out).mono ?_); rintro e w1 ⟨rfl, hb1⟩)
      go_ret
      exact ⟨ret_int HP0.out.symm, (HX.out _ hb1).1⟩
  · have m1 : ((N.length : Int) != (L.length : Int)) = true := bne_iff_ne.2 (by omega)
    have HP0 : Hid (givenE L N G = 3) := Lib.hid (by unfold givenE; rw [if_neg (fun h => hn1 h.1)])
    clear hn1
    go_enter Try.func59, Try.ntmps59
    go_wp2_with fail
    go_ret
    exact ⟨ret_int HP0.out.symm, (HX.out _ (Below.refl _ _)).1⟩
end Go.Proofs.Ytapjhjpibefooaa
