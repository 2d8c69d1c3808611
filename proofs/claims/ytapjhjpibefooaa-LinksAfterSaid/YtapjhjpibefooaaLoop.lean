/-
  THE WALK of Loop (package links).
-/
import Derived.Test.YtapjhjpibefooaaLoopP
namespace Go.Proofs.Ytapjhjpibefooaa
open Go.RowKit Go.Shelf

set_option maxRecDepth 100000 in
set_option maxHeartbeats 8000000 in
theorem loop_any (ca pa : Option Addr) (L : List CueR) (A : List (ByteArray × ByteArray)) (cc pc : Nat) (w : World) (hlen : L.length ≤ 1000) (hI : Cues w.heap.size w ca L) (hP : Pairs w.heap.size w pa A) :
    Calls Try.prog 37 #[.agg #[.slice ca L.length cc, .slice pa A.length pc]] w fun e w' => Hid (∃ v, e = .returned (.tuple #[v, .int .i64 (loopP L A).2]) ∧ w'.ownsRow w.heap.size 9 1 v (loopP L A).1.length (sflat (loopP L A).1) ∧ Below w.heap.size w w') := by
  have hb0 : Below w.heap.size w (w.alloc (.cells #[.slice ca L.length cc, .slice pa A.length pc] 25)) := below_new w _
  have HI := Lib.hid (hI.grow hb0)
  have HP := Lib.hid (hP.grow hb0)
  have HX : Hid (∀ wr, Below (w.alloc (.cells #[.slice ca L.length cc, .slice pa A.length pc] 25)).heap.size (w.alloc (.cells #[.slice ca L.length cc, .slice pa A.length pc] 25)) wr → Below w.heap.size w wr ∧ wr.cell? ⟨w.heap.size, 0, none⟩ = some (.slice ca L.length cc) ∧ wr.cell? ⟨w.heap.size, 1, none⟩ = some (.slice pa A.length pc)) := Lib.hid fun wr h => ⟨mono_in _ h, box2 h⟩
  have hz0 : w.heap.size ≤ (w.alloc (.cells #[.slice ca L.length cc, .slice pa A.length pc] 25)).heap.size := hb0.size
  clear hb0 hI hP
  cases hlk : linkedB L A
  · have HLK := Lib.hid hlk
    have HP0 : Hid (loopP L A = ([], 1)) := Lib.hid (by unfold loopP; rw [hlk]; rfl)
    clear hlk
    go_enter Try.func37, Try.ntmps37
    go_wp2_with (go_at_call 48; (with_reducible refine (linked_any _ _ L A _ _ _ (by omega) HI.out HP.out).mono ?_); rintro e w1 ⟨rfl, hb1⟩; rw [HLK.out]; obtain ⟨hB1, z0, z1⟩ := HX.out _ hb1)
    go_ret2
    rw [HP0.out]
    exact Lib.hid ⟨_, rfl, World.ownsRow_nil _ _ _ _, hB1⟩
  · have HLK := Lib.hid hlk
    have HC : Hid (loopP L A = match loopI (hangs L) with
      | some i => (namesOf L (chainP (hangs L) (i : Int)).1, 0)
      | none => ([], 12)) := Lib.hid (by unfold loopP; rw [hlk]; rfl)
    clear hlk
    have HK0 := hang_ok L
    have hhl0 := hangs_len L
    obtain ⟨hs, HH⟩ : ∃ hs, Hid (hangs L = hs) := ⟨_, Lib.hid rfl⟩
    rw [HH.out] at HC HK0 hhl0
    have HK := Lib.hid HK0
    have HHL := Lib.hid hhl0
    have hhl : hs.length ≤ 1000 := by omega
    clear HK0 hhl0
    go_enter Try.func37, Try.ntmps37
    go_wp2_with (first
      | (go_at_call 48; (with_reducible refine (linked_any _ _ L A _ _ _ (by omega) HI.out HP.out).mono ?_); rintro e w1 ⟨rfl, hb1⟩; rw [HLK.out]; obtain ⟨hB1, z0, z1⟩ := HX.out _ hb1)
      | (go_at_call 55; (with_reducible refine (before_any _ _ L A _ _ _ (by omega) (HI.out.grow hb1)).mono ?_); rintro e w3 hx; obtain ⟨v3, rfl, hr3, hb3⟩ := hx.out; rw [HH.out] at hr3; have hB3 := hb1.trans (hb3.mono hb1.size); obtain ⟨a3, c3, rfl, _, _, _, hn3⟩ := num_of_row hr3; have HN3 := Lib.hid hn3; clear hx hr3 hn3))
    generalize w.alloc (.cells #[.slice ca L.length cc, .slice pa A.length pc] 25) = W0 at *
    go_loopw [15] (fun i wr => ∃ k : Nat, k ≤ hs.length ∧ i = .int .i64 k ∧ Below w3.heap.size w3 wr ∧ Hid (∀ j : Nat, j < k → loopB hs j = false)) (fun i _ => hs.length - (intOf i).toNat)
    case atStart => exact ⟨0, Nat.zero_le _, rfl, Below.refl _ _, Lib.hid (fun _ h => absurd h (Nat.not_lt_zero _))⟩
    case round =>
      clear z0 z1
      obtain ⟨k, hk, rfl, hB, HA⟩ := hrel
      have hBW := hB3.trans (hB.mono hB3.size)
      obtain ⟨hBw, z0, z1⟩ := HX.out _ hBW
      by_cases hlt : k < hs.length
      · obtain ⟨I, ii, hca, hsq, hpos, hI1, hend⟩ := chain_ends hs HK.out (k : Int) (by omega) (by omega)
        have hIl : I.length ≤ 1000 := by have := hca.len; omega
        obtain ⟨m, hm⟩ : ∃ m : Nat, lastN I = m := by
          have := hca.inn (lastN I) (by unfold lastN; rw [ig_eq I _ (by omega)]; exact List.getElem_mem _)
          exact ⟨(lastN I).toNat, by omega⟩
        have hml : m < hs.length := by
          have := hca.inn (lastN I) (by unfold lastN; rw [ig_eq I _ (by omega)]; exact List.getElem_mem _)
          omega
        have HIN : Hid (∀ x ∈ I, 0 ≤ x ∧ x < (L.length : Int)) := Lib.hid (by have := hca.inn; rwa [HHL.out] at this)
        have HLB : Hid (loopB hs k = (!(chainP hs k).2 && decide (ig hs m = (k : Int)))) := Lib.hid (by unfold loopB; rw [hI1, hm]; rfl)
        have HIM : Hid (ig I (I.length - 1) = m) := Lib.hid hm
        have HCI := Lib.hid hI1
        clear hsq hca hm hI1
        rcases hend with ⟨_, hok⟩ | ⟨_, hok⟩
        · have HOK := Lib.hid hok
          have HA' : Hid (∀ j : Nat, j < k + 1 → loopB hs j = false) := Lib.hid fun j hj => by
            rcases Nat.lt_or_ge j k with l | l
            · exact HA.out j l
            · obtain rfl : j = k := by omega
              rw [HLB.out, hok]; rfl
          clear hok
          go_wp2_with (go_at_call 54; (with_reducible refine (chain_any _ hs _ (k : Int) _ hhl (HN3.out.grow hB) HK.out (by omega) (by omega)).mono ?_); rintro e w4 hx; obtain ⟨v4, rfl, hr4, hb4⟩ := hx.out; rw [HCI.out] at hr4; rw [HOK.out]; obtain ⟨_, t0, t1⟩ := HX.out _ (hBW.trans (hb4.mono hBW.size)); obtain ⟨a4, c4, rfl, _, _, _, hn4⟩ := num_of_row hr4; have HN4 := Lib.hid hn4;  clear hx hr4 hn4)
          go_roundw
          case rel => exact ⟨k + 1, by omega, by go_num, hB.trans (hb4.mono hB.size), HA'⟩
          case measure => simp [intOf]; omega
        · have HOK := Lib.hid hok
          obtain ⟨hb, ho, rfl, hhb, hhc⟩ := HN3.out (by omega)
          have HHC := Lib.hid (hhc m hml)
          clear hhc
          by_cases hq : ig hs m = (k : Int)
          · have g1 : (ig hs m == (k : Int)) = true := beq_iff_eq.2 hq
            have HT := Lib.hid (loopI_some k hlt (by rw [HLB.out, hok, decide_eq_true hq]; rfl) HA.out)
            have HP0 : Hid (loopP L A = (namesOf L I, 0)) := Lib.hid (by rw [HC.out, HT.out, ← HCI.out])
            clear hok hq
            go_wp2_with (first
              | (go_at_call 54; (with_reducible refine (chain_any _ hs _ (k : Int) _ hhl (HN3.out.grow hB) HK.out (by omega) (by omega)).mono ?_); rintro e w4 hx; obtain ⟨v4, rfl, hr4, hb4⟩ := hx.out; rw [HCI.out] at hr4; rw [HOK.out]; obtain ⟨_, t0, t1⟩ := HX.out _ (hBW.trans (hb4.mono hBW.size)); obtain ⟨a4, c4, rfl, _, _, _, hn4⟩ := num_of_row hr4; have HN4 := Lib.hid hn4; obtain ⟨b4, o4, rfl, hb4l, hb4c⟩ := HN4.out (by omega); have e1 := hb4c (I.length - 1) (by omega); rw [HIM.out] at e1; have e2 := (hb4.cell (p := ⟨hb, ho + m, none⟩) (show hb < wr.heap.size by (have := hB.size; omega))).trans ((hB.cell (p := ⟨hb, ho + m, none⟩) hhb).trans HHC.out); clear hb4c; clear hx hr4 hn4)
              | (go_at_call 56; (with_reducible refine (names_any _ _ _ L A _ _ _ I _ hlen hIl (HI.out.grow (hBW.trans (hb4.mono hBW.size))) HN4.out HIN.out).mono ?_); rintro e w5 hx; obtain ⟨v5, rfl, hr5, hb5⟩ := hx.out; clear hx))
            go_ret2
            rw [HP0.out]
            exact Lib.hid ⟨_, rfl, ownsRow_base hr5 (by have := hBw.size; have := hb4.size; omega), hBw.trans ((hb4.trans (hb5.mono hb4.size)).mono hBw.size)⟩
          · have g1 : (ig hs m == (k : Int)) = false := beq_eq_false_iff_ne.2 hq
            have HA' : Hid (∀ j : Nat, j < k + 1 → loopB hs j = false) := Lib.hid fun j hj => by
              rcases Nat.lt_or_ge j k with l | l
              · exact HA.out j l
              · obtain rfl : j = k := by omega
                rw [HLB.out, decide_eq_false hq, Bool.and_false]
            clear hok hq
            go_wp2_with (go_at_call 54; (with_reducible refine (chain_any _ hs _ (k : Int) _ hhl (HN3.out.grow hB) HK.out (by omega) (by omega)).mono ?_); rintro e w4 hx; obtain ⟨v4, rfl, hr4, hb4⟩ := hx.out; rw [HCI.out] at hr4; rw [HOK.out]; obtain ⟨_, t0, t1⟩ := HX.out _ (hBW.trans (hb4.mono hBW.size)); obtain ⟨a4, c4, rfl, _, _, _, hn4⟩ := num_of_row hr4; have HN4 := Lib.hid hn4; obtain ⟨b4, o4, rfl, hb4l, hb4c⟩ := HN4.out (by omega); have e1 := hb4c (I.length - 1) (by omega); rw [HIM.out] at e1; have e2 := (hb4.cell (p := ⟨hb, ho + m, none⟩) (show hb < wr.heap.size by (have := hB.size; omega))).trans ((hB.cell (p := ⟨hb, ho + m, none⟩) hhb).trans HHC.out); clear hb4c; clear hx hr4 hn4)
            go_roundw
            case rel => exact ⟨k + 1, by omega, by go_num, hB.trans (hb4.mono hB.size), HA'⟩
            case measure => simp [intOf]; omega
      · have HT := Lib.hid (loopI_none (hs := hs) fun i hi => HA.out i (by omega))
        have HP0 : Hid (loopP L A = ([], 12)) := Lib.hid (by rw [HC.out, HT.out])
        go_wp2_with fail
        go_ret2
        rw [HP0.out]
        exact Lib.hid ⟨_, rfl, World.ownsRow_nil _ _ _ _, hBw⟩
end Go.Proofs.Ytapjhjpibefooaa
