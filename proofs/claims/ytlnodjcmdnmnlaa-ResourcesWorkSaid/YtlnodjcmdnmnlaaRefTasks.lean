/-
  THE WALKS of the reference's Tasks, Given, Energy (layer 42).
-/
import Derived.Test.YtlnodjcmdnmnlaaProfile
namespace Go.Proofs.Ytlnodjcmdnmnlaa
open Go.RowKit Go.Shelf

def TaskOK (r : TaskR) : Prop := (1 ≤ r.length ∧ r.length ≤ 10000) ∧ (0 ≤ r.crew ∧ r.crew ≤ 100) ∧ 0 ≤ r.power ∧ r.power ≤ 100
set_option maxRecDepth 100000 in
set_option maxHeartbeats 16000000 in
theorem reftasks_any (a : Option Addr) (L : List TaskR) (cap : Nat) (n₀ : Nat) (w : World) (hl : L.length ≤ 1000) (hL : Tasks n₀ w a L) :
    Calls Try.prog 11 #[.slice a L.length cap] w fun e w' => e = .returned (.bool (tasksB L)) ∧ w = w' := by
  have HL := Lib.hid hL; clear hL
  by_cases q : L.length ≤ 60
  · have HNO : Hid (∀ k, k < L.length → (((tg L k).length < 1 ∨ 10000 < (tg L k).length) ∨ ((tg L k).crew < 0 ∨ 100 < (tg L k).crew) ∨ (tg L k).power < 0 ∨ 100 < (tg L k).power) → tasksB L = false) := Lib.hid fun k hk h => by
      cases hv : tasksB L with
      | false => rfl
      | true => have := (tasks_ok hv).2 k hk; omega
    have HYES : Hid ((∀ j, j < L.length → TaskOK (tg L j)) → tasksB L = true) := Lib.hid fun h => tasks_of q h
    go_enter Try.func11, Try.ntmps11
    go_wp2_with fail
    go_loop [3] (fun i => ∃ k : Nat, k ≤ L.length ∧ i = .int .i64 k ∧ Hid (∀ j, j < k → TaskOK (tg L j))) (fun i => L.length - (intOf i).toNat)
    case atStart => exact ⟨0, Nat.zero_le _, rfl, Lib.hid (fun _ h => absurd h (Nat.not_lt_zero _))⟩
    case round =>
      obtain ⟨k, hk, rfl, HA⟩ := hrel
      by_cases hlt : k < L.length
      · obtain ⟨b, off, rfl, hb, hc⟩ := HL.out (by omega)
        obtain ⟨c0, c1, c2, c3, c4⟩ := hc k hlt
        clear hc
        by_cases p0 : (tg L k).length < 1
        · have HF : Hid (tasksB L = false) := Lib.hid (HNO.out k hlt (by omega))
          go_wp2_with fail
          go_ret
          exact ⟨ret_bool HF.out.symm, rfl⟩
        · by_cases p1 : 10000 < (tg L k).length
          · have HF : Hid (tasksB L = false) := Lib.hid (HNO.out k hlt (by omega))
            go_wp2_with fail
            go_ret
            exact ⟨ret_bool HF.out.symm, rfl⟩
          · by_cases p2 : (tg L k).crew < 0
            · have HF : Hid (tasksB L = false) := Lib.hid (HNO.out k hlt (by omega))
              go_wp2_with fail
              go_ret
              exact ⟨ret_bool HF.out.symm, rfl⟩
            · by_cases p3 : 100 < (tg L k).crew
              · have HF : Hid (tasksB L = false) := Lib.hid (HNO.out k hlt (by omega))
                go_wp2_with fail
                go_ret
                exact ⟨ret_bool HF.out.symm, rfl⟩
              · by_cases p4 : (tg L k).power < 0
                · have HF : Hid (tasksB L = false) := Lib.hid (HNO.out k hlt (by omega))
                  go_wp2_with fail
                  go_ret
                  exact ⟨ret_bool HF.out.symm, rfl⟩
                · by_cases p5 : 100 < (tg L k).power
                  · have HF : Hid (tasksB L = false) := Lib.hid (HNO.out k hlt (by omega))
                    go_wp2_with fail
                    go_ret
                    exact ⟨ret_bool HF.out.symm, rfl⟩
                  · have HS : Hid (∀ j, j < k + 1 → TaskOK (tg L j)) := Lib.hid fun j hj => by
                      rcases Nat.lt_or_ge j k with l | l
                      · exact HA.out j l
                      · obtain rfl : j = k := by omega
                        unfold TaskOK; omega
                    go_wp2_with fail
                    go_round
                    case rel => exact ⟨k + 1, by omega, by go_num, HS⟩
                    case measure => simp [intOf]; omega
      · obtain rfl : k = L.length := by omega
        have HF := Lib.hid (HYES.out HA.out)
        go_wp2_with fail
        go_ret
        exact ⟨ret_bool HF.out.symm, rfl⟩
  · have HF : Hid (tasksB L = false) := Lib.hid (by unfold tasksB; rw [decide_eq_false q]; rfl)
    go_enter Try.func11, Try.ntmps11
    go_wp2_with fail
    go_ret
    exact ⟨ret_bool HF.out.symm, rfl⟩
set_option maxRecDepth 100000 in
set_option maxHeartbeats 16000000 in
theorem refgiven_any (a sa : Option Addr) (L : List TaskR) (S : List Int) (cap sc : Nat) (n₀ : Nat) (w : World) (hl : L.length ≤ 1000) (hls : S.length ≤ 1000) (hL : Tasks n₀ w a L) (hS : Nums n₀ w sa S) :
    Calls Try.prog 13 #[.slice a L.length cap, .slice sa S.length sc] w fun e w' => e = .returned (.int .i64 (profE L S)) ∧ w = w' := by
  have HL := Lib.hid hL
  have HS := Lib.hid hS
  clear hL hS
  cases ht : tasksB L
  · have HT := Lib.hid ht
    have HE : Hid (profE L S = 1) := Lib.hid (by unfold profE; rw [ht]; rfl)
    clear ht
    go_enter Try.func13, Try.ntmps13
    go_wp2_with (go_at_call 11; (with_reducible refine (reftasks_any _ L _ _ _ (by omega) HL.out).mono ?_); rintro e w' ⟨rfl, rfl⟩; rw [HT.out])
    go_ret
    exact ⟨ret_int HE.out.symm, rfl⟩
  · have HT := Lib.hid ht
    by_cases hn : S.length = L.length
    · have q1 : ((S.length : Int) != (L.length : Int)) = false := by rw [bne_eq_false_iff_eq]; omega
      have HEE : Hid (profE L S = if S.any startBad then 2 else 0) := Lib.hid (by unfold profE; rw [ht, if_pos rfl, if_pos hn])
      clear ht hn
      go_enter Try.func13, Try.ntmps13
      go_wp2_with (go_at_call 11; (with_reducible refine (reftasks_any _ L _ _ _ (by omega) HL.out).mono ?_); rintro e w' ⟨rfl, rfl⟩; rw [HT.out])
      go_loop [5] (fun i => ∃ k : Nat, k ≤ S.length ∧ i = .int .i64 k ∧ Hid (∀ j, j < k → startBad (ig S j) = false)) (fun i => S.length - (intOf i).toNat)
      case atStart => exact ⟨0, Nat.zero_le _, rfl, Lib.hid (fun _ h => absurd h (Nat.not_lt_zero _))⟩
      case round =>
        obtain ⟨k, hk, rfl, HA⟩ := hrel
        by_cases hlt : k < S.length
        · obtain ⟨b, off, rfl, hb, hc⟩ := HS.out (by omega)
          have c0 := hc k hlt
          clear hc
          have bad : startBad (ig S k) = true → Hid (profE L S = 2) := fun h => Lib.hid (by
            rw [HEE.out, if_pos]
            exact List.any_eq_true.2 ⟨ig S k, by rw [ig_eq S k hlt]; exact List.getElem_mem hlt, h⟩)
          by_cases p0 : ig S k < 0
          · have HE := bad (by unfold startBad; rw [decide_eq_true p0]; rfl)
            clear bad
            go_wp2_with fail
            go_ret
            exact ⟨ret_int HE.out.symm, rfl⟩
          · by_cases p1 : 1000000 < ig S k
            · have HE := bad (by unfold startBad; rw [decide_eq_true p1, Bool.or_true])
              clear bad
              go_wp2_with fail
              go_ret
              exact ⟨ret_int HE.out.symm, rfl⟩
            · have HB : Hid (∀ j, j < k + 1 → startBad (ig S j) = false) := Lib.hid fun j hj => by
                rcases Nat.lt_or_ge j k with l | l
                · exact HA.out j l
                · obtain rfl : j = k := by omega
                  unfold startBad; rw [decide_eq_false p0, decide_eq_false p1]; rfl
              clear bad
              go_wp2_with fail
              go_round
              case rel => exact ⟨k + 1, by omega, by go_num, HB⟩
              case measure => simp [intOf]; omega
        · obtain rfl : k = S.length := by omega
          have HE : Hid (profE L S = 0) := Lib.hid (by
            rw [HEE.out, if_neg]
            rw [Bool.not_eq_true, List.any_eq_false]
            intro x hx
            obtain ⟨j, hj, e⟩ := List.getElem_of_mem hx
            have := HA.out j hj
            rw [ig_eq S j hj, e] at this
            rw [this]; decide)
          go_wp2_with fail
          go_ret
          exact ⟨ret_int HE.out.symm, rfl⟩
    · have q1 : ((S.length : Int) != (L.length : Int)) = true := bne_iff_ne.2 (by omega)
      have HE : Hid (profE L S = 3) := Lib.hid (by unfold profE; rw [ht, if_pos rfl, if_neg hn])
      clear ht hn
      go_enter Try.func13, Try.ntmps13
      go_wp2_with (go_at_call 11; (with_reducible refine (reftasks_any _ L _ _ _ (by omega) HL.out).mono ?_); rintro e w' ⟨rfl, rfl⟩; rw [HT.out])
      go_ret
      exact ⟨ret_int HE.out.symm, rfl⟩
set_option maxRecDepth 100000 in
set_option maxHeartbeats 16000000 in
theorem refenergy_any (a : Option Addr) (L : List TaskR) (cap : Nat) (w : World) (ht : tasksB L = true) (hL : Tasks w.heap.size w a L) :
    Calls Try.prog 12 #[.slice a L.length cap] w fun e w' => e = .returned (.tuple #[.int .i64 (workTo TaskR.crew L L.length), .int .i64 (workTo TaskR.power L L.length)]) ∧ Below w.heap.size w w' := by
  have HL := Lib.hid hL; clear hL
  obtain ⟨h60, hok⟩ := tasks_ok ht
  have HOK := Lib.hid hok
  have HW1 : Hid (∀ k, k ≤ L.length → 0 ≤ workTo TaskR.crew L k ∧ workTo TaskR.crew L k ≤ 1000000 * (k : Int)) := Lib.hid (workTo_b fun k hk => ⟨(hok k hk).1, (hok k hk).2.1⟩)
  have HW2 : Hid (∀ k, k ≤ L.length → 0 ≤ workTo TaskR.power L k ∧ workTo TaskR.power L k ≤ 1000000 * (k : Int)) := Lib.hid (workTo_b fun k hk => ⟨(hok k hk).1, (hok k hk).2.2⟩)
  clear ht hok
  go_enter Try.func12, Try.ntmps12
  go_wp2_with fail
  go_loopw [4, 5, 6] (fun c p i wr => ∃ k : Nat, k ≤ L.length ∧ i = .int .i64 k ∧ c = .int .i64 (workTo TaskR.crew L k) ∧ p = .int .i64 (workTo TaskR.power L k) ∧ Below w.heap.size w wr) (fun _ _ i _ => L.length - (intOf i).toNat)
  case atStart => exact ⟨0, Nat.zero_le _, rfl, rfl, rfl, Below.refl _ _⟩
  case round =>
    obtain ⟨k, hk, rfl, rfl, rfl, hB⟩ := hrel
    by_cases hlt : k < L.length
    · obtain ⟨b, off, rfl, hb, hc⟩ := HL.out (by omega)
      obtain ⟨c0, c1, c2, c3, c4⟩ := hc k hlt
      have d1 := (hB.cell (p := ⟨b, off + k * 5 + 1, none⟩) hb).trans c1
      have d2 := (hB.cell (p := ⟨b, off + k * 5 + 2, none⟩) hb).trans c2
      have d3 := (hB.cell (p := ⟨b, off + k * 5 + 3, none⟩) hb).trans c3
      have HS1 : Hid (workTo TaskR.crew L (k + 1) = workTo TaskR.crew L k + (tg L k).crew * (tg L k).length) := Lib.hid rfl
      have HS2 : Hid (workTo TaskR.power L (k + 1) = workTo TaskR.power L k + (tg L k).power * (tg L k).length) := Lib.hid rfl
      obtain ⟨⟨l1, l2⟩, ⟨l3, l4⟩, l5, l6⟩ := HOK.out k hlt
      obtain ⟨m3, m4⟩ : 0 ≤ (tg L k).crew * (tg L k).length ∧ (tg L k).crew * (tg L k).length ≤ 1000000 := ⟨Int.mul_nonneg l3 (by omega), by have := Int.mul_le_mul l4 l2 (by omega) (by omega); omega⟩
      obtain ⟨m5, m6⟩ : 0 ≤ (tg L k).power * (tg L k).length ∧ (tg L k).power * (tg L k).length ≤ 1000000 := ⟨Int.mul_nonneg l5 (by omega), by have := Int.mul_le_mul l6 l2 (by omega) (by omega); omega⟩
      obtain ⟨b1, b2⟩ := HW1.out k hk
      obtain ⟨b3, b4⟩ := HW2.out k hk
      clear hc c0 c1 c2 c3 c4
      generalize hx : (tg L k).crew * (tg L k).length = x at *
      generalize hy : (tg L k).power * (tg L k).length = y at *
      have n1 : IntKind.i64.wrap ((tg L k).crew * (tg L k).length) = x := by rw [hx]; exact IntWalk.i64_in _ (by omega)
      have n2 : IntKind.i64.wrap ((tg L k).power * (tg L k).length) = y := by rw [hy]; exact IntWalk.i64_in _ (by omega)
      have n3 : IntKind.i64.wrap (workTo TaskR.crew L k + x) = workTo TaskR.crew L k + x := IntWalk.i64_in _ (by omega)
      have n4 : IntKind.i64.wrap (workTo TaskR.power L k + y) = workTo TaskR.power L k + y := IntWalk.i64_in _ (by omega)
      go_wp2_with fail
      go_quiet (fail)
      go_wp2_with fail
      go_quiet (fail)
      clear n1 n2 n3 n4
      go_wp2_with fail
      go_roundw
      case rel => exact ⟨k + 1, by omega, by go_num, by rw [HS1.out], by rw [HS2.out], by first | exact below_drewN (below_drewN hB _) _ | exact below_drewN hB _⟩
      case measure => simp [intOf]; omega
    · obtain rfl : k = L.length := by omega
      go_wp2_with fail
      go_ret2
      exact ⟨rfl, hB⟩
end Go.Proofs.Ytlnodjcmdnmnlaa
