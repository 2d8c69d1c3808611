/-
  THE WALK of the law InspectFinds: it answers true at every input. Condition: the months' table lies in memory as the program's text lays it.
-/
import Derived.Test.YtfojipgbenbigaaDoorFindC
import Derived.Test.YtfojipgbenbigaaDoorFindsQ
namespace Go.Proofs.YtfojipgbenbigaaDoor
open Go.RowKit Go.Shelf

theorem mono_in {w w' : World} (o : Obj) (h : Below (w.alloc o).heap.size (w.alloc o) w') : Below w.heap.size w w' := ((Below.refl _ _).alloc (Nat.le_refl _) o).trans (h.mono (by simp))
theorem rope_in {w w' : World} {rope : ByteArray} (h : Below (w.alloc (.cells #[.string rope] 9)).heap.size (w.alloc (.cells #[.string rope] 9)) w') : w'.cell? ⟨w.heap.size, 0, none⟩ = some (.string rope) :=
  (h.cell (p := ⟨w.heap.size, 0, none⟩) (by simp)).trans (by simp)
theorem row_nil {w : World} {base size n cap : Nat} {e : TypeId} {a : Option Addr} {xs : List Value} (h : w.ownsRow base e size (.slice a n cap) n xs) : a = none → cap = 0 := by
  rintro rfl
  rcases h.2 with ⟨h', _⟩ | ⟨g, cap', cur, h', _⟩
  · simp at h'; exact h'.2
  · simp at h'
theorem check_at2 (a : Option Addr) (L : List LogR) (cap : Nat) (today every : Int) (F : List (Int × ByteArray)) (c : Int) {w : World} (hlen : L.length ≤ 1100) (hI : Logs w.heap.size w a L) (hP : checkP L today every = (F, c)) :
    Calls Tryd.prog 16 #[.slice a L.length cap, .int .i64 today, .int .i64 every] w fun e w' => Hid (∃ a cap, e = .returned (.tuple #[.slice a F.length cap, .int .i64 c]) ∧ Finds w'.heap.size w' a F ∧ F.length ≤ cap ∧ cap ≤ 9223372036854775807 ∧ (a = none → cap = 0)) ∧ Below w.heap.size w w' :=
  (check_any a L cap today every w hlen hI).mono fun e w' h => by
    rw [hP] at h
    obtain ⟨v, he, hrow, hb⟩ := h
    obtain ⟨a, cap, rfl, h1, h2, hF⟩ := finds_of_row2 hrow
    exact ⟨Lib.hid ⟨a, cap, he, hF, h1, by unfold maxLen at h2; exact h2, row_nil hrow⟩, hb⟩
theorem del_logs (v : Value) (L : List LogR) (n₀ bx : Nat) (rope : ByteArray) (w : World) (hlen : L.length ≤ 1100) (hn₀ : n₀ ≤ w.heap.size) (hown : w.ownsRow n₀ 55 4 v L.length (lflat L)) (hbx : bx < n₀) (hc : w.cell? ⟨bx, 0, none⟩ = some (.string rope)) :
    Calls Tryd.prog 34 #[v, .func (.func 35) #[] #[.pointer (some ⟨bx, 0, none⟩)]] w fun e w' => Hid (∃ a cap, e = .returned (.slice a (wo rope L).length cap) ∧ Logs w'.heap.size w' a (wo rope L)) ∧ Below n₀ w w' :=
  (log_deleteFunc v L n₀ _ _ (fun r => decide (r.rope = rope)) w (enters_of Tryd.func35 (by kernel_rfl) rfl) hlen hn₀ hown (asks_f3 bx rope n₀ w hbx hc)).mono fun e w' h => by
    obtain ⟨v', he, hrow, hb⟩ := h.out
    obtain ⟨a, cap, rfl, _, _, hL⟩ := logs_of_row hrow
    exact ⟨Lib.hid ⟨a, cap, he, hL⟩, hb⟩
def woF (r0 : ByteArray) (F : List (Int × ByteArray)) : List (Int × ByteArray) := F.filter fun f => !decide (f.2 = r0)
theorem del_finds (v : Value) (F : List (Int × ByteArray)) (n₀ bx : Nat) (rope : ByteArray) (w : World) (hlen : F.length ≤ 1100) (hn₀ : n₀ ≤ w.heap.size) (hown : w.ownsRow n₀ 43 2 v F.length (flat F)) (hbx : bx < n₀) (hc : w.cell? ⟨bx, 0, none⟩ = some (.string rope)) :
    Calls Tryd.prog 36 #[v, .func (.func 38) #[] #[.pointer (some ⟨bx, 0, none⟩)]] w fun e w' => Hid (∃ a cap, e = .returned (.slice a (woF rope F).length cap) ∧ Finds w'.heap.size w' a (woF rope F)) ∧ Below n₀ w w' :=
  (fin_deleteFunc v F n₀ _ _ (fun r => decide (r.2 = rope)) w (enters_of Tryd.func38 (by kernel_rfl) rfl) hlen hn₀ hown (asks_f4 bx rope n₀ w hbx hc)).mono fun e w' h => by
    obtain ⟨v', he, hrow, hb⟩ := h.out
    obtain ⟨a, cap, rfl, _, _, hL⟩ := finds_of_row2 hrow
    exact ⟨Lib.hid ⟨a, cap, he, hL⟩, hb⟩

set_option maxRecDepth 100000 in
set_option maxHeartbeats 8000000 in
theorem finds_main (a : Option Addr) (L : List LogR) (cap : Nat) (rope : ByteArray) (today every : Int) (w : World) (hm : Months w) (hI : Logs w.heap.size w a L) (hnil : a = none → cap = 0)
    (hl : ¬ (40 : Int) < L.length) (hs : shortB L = true) (hr : ¬ (60 : Int) < rope.size) (hv : validB L = true) (h0 : ¬ today < 0) (h1 : ¬ 109572 < today) (he : everyB every = true) : Calls Tryd.prog 9 #[.slice a L.length cap, .string rope, .int .i64 today, .int .i64 every] w fun e w' => e = .returned (.bool true) ∧ Below w.heap.size w w' := by
  have hB0 : Below w.heap.size w (w.alloc (.cells #[.string rope] 9)) := (Below.refl _ w).alloc (Nat.le_refl _) _
  have HA := Lib.hid (awake_any _ (hm.below hB0))
  have HI := Lib.hid (hI.grow hB0); clear hI hm hB0
  have HNIL := Lib.hid hnil; clear hnil
  have HSH := Lib.hid hs
  have hlen := short_len L hs
  obtain ⟨F, hF⟩ : ∃ F, findsOf L today every = F := ⟨_, rfl⟩
  have hFl : F.length ≤ 1100 := by have := finds_len L today every; rw [hF] at this; omega
  have HF := Lib.hid hF
  have HCP : Hid (checkP L today every = (F, 0)) := Lib.hid (by unfold checkP; rw [hv, show isDayB today = true from decide_eq_true (by omega), he, ← hF]; rfl)
  have HCW : Hid (checkP (wo rope L) today every = (woF rope F, 0)) := Lib.hid (by unfold checkP; rw [wo_valid rope L hv, show isDayB today = true from decide_eq_true (by omega), he, ← hF]; exact congrArg (fun z => (z, (0 : Int))) (wo_finds rope L today every))
  have hwl : (wo rope L).length ≤ 1100 := by have := wo_len rope L; omega
  have hfl : (woF rope F).length ≤ 1100 := by have : (woF rope F).length ≤ F.length := List.length_filter_le _ _; omega
  have HV := Lib.hid hv
  have HE := Lib.hid he
  clear hs he hv hF
  go_enter Tryd.func9, Tryd.ntmps9
  go_wp2_with (first
    | (go_at_call 10; (with_reducible refine HA.out.mono ?_); rintro e w1 ⟨rfl, hb1⟩)
    | (go_at_call 15; (with_reducible refine (short_any _ L _ _ (HI.out.grow hb1)).mono ?_); rintro e w2 ⟨rfl, hb2⟩; have hB2 := hb1.trans (hb2.mono hb1.size); have cR2 := rope_in hB2; rw [HSH.out])
    | (go_at_call 16; (with_reducible refine (check_at2 _ L _ today every _ _ hlen (HI.out.grow hB2) HCP.out).mono ?_); rintro e w3 ⟨hx, hb3⟩; obtain ⟨a1, cap1, rfl, hF1, hc1, hc1m, hn1⟩ := hx.out; have HF3 := Lib.hid hF1; have HN1 := Lib.hid hn1; clear hF1 hx hn1; have hB3 := hB2.trans (hb3.mono hB2.size)))
  have hI3 := HI.out.grow hB3
  have HI3 := Lib.hid hI3
  have cR3 := rope_in hB3
  have HcR3 := Lib.hid cR3
  have hw3 : w.heap.size < w3.heap.size := by have := hB3.size; simp at this; omega
  have hfinal : ∀ wr, Below w3.heap.size w3 wr → Below w.heap.size w wr := fun wr h => mono_in _ (hB3.trans (h.mono hB3.size))
  have HFIN := Lib.hid hfinal
  clear hI3 cR3 hfinal cR2 hB2 hb3 hb2 hb1 HI HA hB3
  go_loopw [11, 12, 53] (fun u v i wr => ∃ k : Nat, k ≤ F.length ∧ i = .int .i64 k ∧ Below w3.heap.size w3 wr) (fun _ _ i _ => F.length - (intOf i).toNat)
  case atStart => exact ⟨0, Nat.zero_le _, rfl, Below.refl _ _⟩
  case round =>
    obtain ⟨k, hk, rfl, hB⟩ := hrel
    by_cases hlt : k < F.length
    · obtain ⟨b, off, rfl, hbl, hc⟩ := HF3.out (by omega)
      obtain ⟨c0, c1⟩ := hc k hlt
      have d0 := (hB.cell (p := ⟨b, off + k * 2, none⟩) hbl).trans c0
      have d1 := (hB.cell (p := ⟨b, off + k * 2 + 1, none⟩) hbl).trans c1
      have HKN : Hid (decide (0 ≤ firstF F (fun r => decide (r.2 = (fg F k).2)) k) = false) := Lib.hid (by
        rw [firstF_miss F _ k fun j hj => decide_eq_false (by have := finds_apart L today every k j (by rw [HF.out]; exact hlt) hj; rw [HF.out] at this; exact this)]
        rfl)
      have hkind := finds_kind L today every k (by rw [HF.out]; exact hlt)
      rw [HF.out] at hkind
      clear c0 c1 hc
      rcases hkind with hk1 | hk1
      · rw [hk1] at d0
        have hfk := Lib.hid hk1
        have hBa : Below wr.heap.size wr (wr.alloc (.cells #[.int .i64 1, .string (fg F k).2] 43)) := (Below.refl _ _).alloc (Nat.le_refl _) _
        have HBA := Lib.hid hBa
        clear hk1 hBa
        go_wp2_with (go_at_call 30; (refine (containsFuncF_any _ F k _ _ _ _ (fun r => decide (r.2 = (fg F k).2)) _ (enters_of Tryd.func31 (by kernel_rfl) rfl) (by omega) hFl (Nat.le_refl _) ((HF3.out.grow hB).grow HBA.out) (asks_f1 wr.heap.size (fg F k).2 _ _ (by simp) (by simp))).mono ?_); rintro e w4 ⟨rfl, hb4⟩; rw [HKN.out]; have q0 := (hb4.cell (p := ⟨wr.heap.size, 0, none⟩) (by simp)).trans (show _ = some (.int .i64 1) by simp))
        go_roundw
        case rel => exact ⟨k + 1, by omega, by go_num, hB.trans ((HBA.out.trans (hb4.mono HBA.out.size)).mono hB.size)⟩
        case measure => simp [intOf]; omega
      · rw [hk1] at d0
        have hfk := Lib.hid hk1
        have hBa : Below wr.heap.size wr (wr.alloc (.cells #[.int .i64 2, .string (fg F k).2] 43)) := (Below.refl _ _).alloc (Nat.le_refl _) _
        have HBA := Lib.hid hBa
        clear hk1 hBa
        go_wp2_with (go_at_call 30; (refine (containsFuncF_any _ F k _ _ _ _ (fun r => decide (r.2 = (fg F k).2)) _ (enters_of Tryd.func31 (by kernel_rfl) rfl) (by omega) hFl (Nat.le_refl _) ((HF3.out.grow hB).grow HBA.out) (asks_f1 wr.heap.size (fg F k).2 _ _ (by simp) (by simp))).mono ?_); rintro e w4 ⟨rfl, hb4⟩; rw [HKN.out]; have q0 := (hb4.cell (p := ⟨wr.heap.size, 0, none⟩) (by simp)).trans (show _ = some (.int .i64 2) by simp))
        go_roundw
        case rel => exact ⟨k + 1, by omega, by go_num, hB.trans ((HBA.out.trans (hb4.mono HBA.out.size)).mono hB.size)⟩
        case measure => simp [intOf]; omega
    · obtain rfl : k = F.length := by omega
      clear hlt hk
      go_wp2_with fail
      obtain ⟨wo2, HB2⟩ : ∃ wo2, Hid (wo2 = wr) := ⟨wr, Lib.hid rfl⟩
      go_loopw [76] (fun i wr => ∃ k : Nat, k ≤ L.length ∧ i = .int .i64 k ∧ Below w3.heap.size w3 wr) (fun i _ => L.length - (intOf i).toNat)
      case atStart => exact ⟨0, Nat.zero_le _, rfl, hB⟩
      case round =>
        clear hB
        obtain ⟨k, hk, rfl, hB⟩ := hrel
        by_cases hlt : k < L.length
        · obtain ⟨b, off, rfl, hbl, hc⟩ := HI3.out (by omega)
          obtain ⟨c0, c1, c2, c3⟩ := hc k hlt
          have d0 := (hB.cell (p := ⟨b, off + k * 4, none⟩) hbl).trans c0
          have d1 := (hB.cell (p := ⟨b, off + k * 4 + 1, none⟩) hbl).trans c1
          have d2 := (hB.cell (p := ⟨b, off + k * 4 + 2, none⟩) hbl).trans c2
          have d3 := (hB.cell (p := ⟨b, off + k * 4 + 3, none⟩) hbl).trans c3
          have hfi := first_not L k hlt
          have HRP : Hid (retP L (lg L k).rope = (retB L (lg L k).rope, 0)) := Lib.hid (by unfold retP; rw [if_pos ((given_zero _ _).2 ⟨HV.out, hfi⟩)])
          have HDP : Hid (dueP L (lg L k).rope every = if retB L (lg L k).rope then (0, 13) else (dueI L (lg L k).rope every, 0)) := Lib.hid (by unfold dueP; rw [HV.out, HE.out, if_neg hfi]; rfl)
          have HWK : Hid (wantI L today every (lg L k).rope = if retB L (lg L k).rope then 0 else if dueI L (lg L k).rope every < today then 1 else if dueI L (lg L k).rope every = today then 2 else 0) := Lib.hid rfl
          have HYES : Hid (wantI L today every (lg L k).rope ≠ 0 → ∃ i : Nat, i < F.length ∧ fg F i = (wantI L today every (lg L k).rope, (lg L k).rope) ∧ firstF F (fun f => decide (f.2 = (lg L k).rope)) F.length = i) := Lib.hid fun hw => by
            have := finds_yes L today every k hlt hw
            rw [HF.out] at this
            obtain ⟨i, h1, h2, h3⟩ := this
            exact ⟨i, h1, h2, firstF_hit F _ _ i h1 (decide_eq_true (by rw [h2])) fun j hj => decide_eq_false (h3 j hj)⟩
          have HNO : Hid (wantI L today every (lg L k).rope = 0 → firstF F (fun f => decide (f.2 = (lg L k).rope)) F.length = -1) := Lib.hid fun hw => by
            have := finds_no L today every (lg L k).rope hw
            rw [HF.out] at this
            exact firstF_miss F _ _ fun j hj => decide_eq_false (this j hj)
          have hBa : Below wr.heap.size wr (wr.alloc (.cells #[.int .i64 (lg L k).day, .string (lg L k).rope, .int .i64 (lg L k).kind, .int .i64 (lg L k).runs] 55)) := (Below.refl _ _).alloc (Nat.le_refl _) _
          have HBA := Lib.hid hBa
          clear c0 c1 c2 c3 hc hfi hBa
          cases hrt : retB L (lg L k).rope
          · rw [hrt] at HRP HDP HWK
            obtain ⟨d, hd⟩ : ∃ d, dueI L (lg L k).rope every = d := ⟨_, rfl⟩
            rw [hd] at HDP HWK
            by_cases h1 : d < today
            · have HW : Hid (wantI L today every (lg L k).rope = 1) := Lib.hid (by rw [HWK.out, if_neg (by decide), if_pos h1])
              obtain ⟨ix, hix, hfx, hfi⟩ := HYES.out (by rw [HW.out]; decide)
              rw [HW.out] at hfx
              have HFI := Lib.hid hfi
              have HFX := Lib.hid hfx
              clear hfi hfx hd hrt
              obtain ⟨b', off', rfl, hbl', hc'⟩ := HF3.out (by omega)
              have y0 := (hB.cell (p := ⟨b', off' + ix * 2, none⟩) hbl').trans (hc' ix hix).1
              rw [HFX.out] at y0
              clear hc'
              go_wp2_with (first
                | (go_at_call 32; (refine (indexFuncF_any _ F F.length _ _ _ _ (fun r => decide (r.2 = (lg L k).rope)) _ (enters_of Tryd.func33 (by kernel_rfl) rfl) (Nat.le_refl _) hFl (Nat.le_refl _) ((HF3.out.grow hB).grow HBA.out) (asks_f2 wr.heap.size (lg L k).rope _ _ (by simp) (by simp))).mono ?_); rintro e w4 ⟨rfl, hb4⟩; rw [HFI.out]; have hB4 := HBA.out.trans (hb4.mono HBA.out.size); have q1 := (hb4.cell (p := ⟨wr.heap.size, 1, none⟩) (by simp)).trans (show _ = some (.string (lg L k).rope) by simp); have z0 := (hB4.cell (p := ⟨b', off' + ix * 2, none⟩) (World.block_lt_of_cell? wr _ y0)).trans y0)
                | (go_at_call 26; (with_reducible refine (retired2_any _ L _ (lg L k).rope _ hlen ((HI3.out.grow hB).grow hB4)).mono ?_); rintro e w5 ⟨rfl, hb5⟩; have hB5 := hB4.trans (hb5.mono hB4.size); have r1 := (hb5.cell (p := ⟨wr.heap.size, 1, none⟩) (World.block_lt_of_cell? w4 _ q1)).trans q1; rw [HRP.out])
                | (go_at_call 21; (with_reducible refine (due2_any _ L _ (lg L k).rope every _ hlen ((HI3.out.grow hB).grow hB5)).mono ?_); rintro e w6 ⟨rfl, hb6⟩; have hB6 := hB5.trans (hb6.mono hB5.size); rw [HDP.out]))
              go_roundw
              case rel => exact ⟨k + 1, by omega, by go_num, hB.trans (hB6.mono hB.size)⟩
              case measure => simp [intOf]; omega
            · by_cases h2 : d = today
              · have HW : Hid (wantI L today every (lg L k).rope = 2) := Lib.hid (by rw [HWK.out, if_neg (by decide), if_neg h1, if_pos h2])
                obtain ⟨ix, hix, hfx, hfi⟩ := HYES.out (by rw [HW.out]; decide)
                rw [HW.out] at hfx
                have g2 : (d == today) = true := beq_iff_eq.2 h2
                have HFI := Lib.hid hfi
                have HFX := Lib.hid hfx
                clear hfi hfx hd hrt
                obtain ⟨b', off', rfl, hbl', hc'⟩ := HF3.out (by omega)
                have y0 := (hB.cell (p := ⟨b', off' + ix * 2, none⟩) hbl').trans (hc' ix hix).1
                rw [HFX.out] at y0
                clear hc'
                go_wp2_with (first
                  | (go_at_call 32; (refine (indexFuncF_any _ F F.length _ _ _ _ (fun r => decide (r.2 = (lg L k).rope)) _ (enters_of Tryd.func33 (by kernel_rfl) rfl) (Nat.le_refl _) hFl (Nat.le_refl _) ((HF3.out.grow hB).grow HBA.out) (asks_f2 wr.heap.size (lg L k).rope _ _ (by simp) (by simp))).mono ?_); rintro e w4 ⟨rfl, hb4⟩; rw [HFI.out]; have hB4 := HBA.out.trans (hb4.mono HBA.out.size); have q1 := (hb4.cell (p := ⟨wr.heap.size, 1, none⟩) (by simp)).trans (show _ = some (.string (lg L k).rope) by simp); have z0 := (hB4.cell (p := ⟨b', off' + ix * 2, none⟩) (World.block_lt_of_cell? wr _ y0)).trans y0)
                  | (go_at_call 26; (with_reducible refine (retired2_any _ L _ (lg L k).rope _ hlen ((HI3.out.grow hB).grow hB4)).mono ?_); rintro e w5 ⟨rfl, hb5⟩; have hB5 := hB4.trans (hb5.mono hB4.size); have r1 := (hb5.cell (p := ⟨wr.heap.size, 1, none⟩) (World.block_lt_of_cell? w4 _ q1)).trans q1; rw [HRP.out])
                  | (go_at_call 21; (with_reducible refine (due2_any _ L _ (lg L k).rope every _ hlen ((HI3.out.grow hB).grow hB5)).mono ?_); rintro e w6 ⟨rfl, hb6⟩; have hB6 := hB5.trans (hb6.mono hB5.size); rw [HDP.out]))
                go_roundw
                case rel => exact ⟨k + 1, by omega, by go_num, hB.trans (hB6.mono hB.size)⟩
                case measure => simp [intOf]; omega
              · have hfi := HNO.out (by rw [HWK.out, if_neg (by decide), if_neg h1, if_neg h2])
                have g2 : (d == today) = false := beq_eq_false_iff_ne.2 h2
                have HFI := Lib.hid hfi
                clear hfi hrt
                go_wp2_with (first
                  | (go_at_call 32; (refine (indexFuncF_any _ F F.length _ _ _ _ (fun r => decide (r.2 = (lg L k).rope)) _ (enters_of Tryd.func33 (by kernel_rfl) rfl) (Nat.le_refl _) hFl (Nat.le_refl _) ((HF3.out.grow hB).grow HBA.out) (asks_f2 wr.heap.size (lg L k).rope _ _ (by simp) (by simp))).mono ?_); rintro e w4 ⟨rfl, hb4⟩; rw [HFI.out]; have hB4 := HBA.out.trans (hb4.mono HBA.out.size); have q1 := (hb4.cell (p := ⟨wr.heap.size, 1, none⟩) (by simp)).trans (show _ = some (.string (lg L k).rope) by simp))
                  | (go_at_call 26; (with_reducible refine (retired2_any _ L _ (lg L k).rope _ hlen ((HI3.out.grow hB).grow hB4)).mono ?_); rintro e w5 ⟨rfl, hb5⟩; have hB5 := hB4.trans (hb5.mono hB4.size); have r1 := (hb5.cell (p := ⟨wr.heap.size, 1, none⟩) (World.block_lt_of_cell? w4 _ q1)).trans q1; rw [HRP.out])
                  | (go_at_call 21; (with_reducible refine (due2_any _ L _ (lg L k).rope every _ hlen ((HI3.out.grow hB).grow hB5)).mono ?_); rintro e w6 ⟨rfl, hb6⟩; have hB6 := hB5.trans (hb6.mono hB5.size); rw [HDP.out]))
                go_roundw
                case rel => exact ⟨k + 1, by omega, by go_num, hB.trans (hB6.mono hB.size)⟩
                case measure => simp [intOf]; omega
          · rw [hrt] at HRP HDP HWK
            have hfi := HNO.out (by rw [HWK.out]; rfl)
            have HFI := Lib.hid hfi
            clear hfi hrt
            go_wp2_with (first
              | (go_at_call 32; (refine (indexFuncF_any _ F F.length _ _ _ _ (fun r => decide (r.2 = (lg L k).rope)) _ (enters_of Tryd.func33 (by kernel_rfl) rfl) (Nat.le_refl _) hFl (Nat.le_refl _) ((HF3.out.grow hB).grow HBA.out) (asks_f2 wr.heap.size (lg L k).rope _ _ (by simp) (by simp))).mono ?_); rintro e w4 ⟨rfl, hb4⟩; rw [HFI.out]; have hB4 := HBA.out.trans (hb4.mono HBA.out.size); have q1 := (hb4.cell (p := ⟨wr.heap.size, 1, none⟩) (by simp)).trans (show _ = some (.string (lg L k).rope) by simp))
              | (go_at_call 26; (with_reducible refine (retired2_any _ L _ (lg L k).rope _ hlen ((HI3.out.grow hB).grow hB4)).mono ?_); rintro e w5 ⟨rfl, hb5⟩; have hB5 := hB4.trans (hb5.mono hB4.size); have r1 := (hb5.cell (p := ⟨wr.heap.size, 1, none⟩) (World.block_lt_of_cell? w4 _ q1)).trans q1; rw [HRP.out])
              | (go_at_call 21; (with_reducible refine (due2_any _ L _ (lg L k).rope every _ hlen ((HI3.out.grow hB).grow hB5)).mono ?_); rintro e w6 ⟨rfl, hb6⟩; have hB6 := hB5.trans (hb6.mono hB5.size); rw [HDP.out]))
            go_roundw
            case rel => exact ⟨k + 1, by omega, by go_num, hB.trans (hB6.mono hB.size)⟩
            case measure => simp [intOf]; omega
        · obtain rfl : k = L.length := by omega
          clear hlt hk
          have hb3 := HFIN.out _ hB
          have cR := (hB.cell (p := ⟨w.heap.size, 0, none⟩) hw3).trans HcR3.out
          have hwr : w.heap.size < wr.heap.size := by have := hB.size; omega
          go_wp2_with (first
            | (go_at_call 29; (with_reducible refine (clone_any a L cap _ hlen HNIL.out (HI3.out.grow hB)).mono ?_); rintro e w4 hx; obtain ⟨v4, rfl, hown4, hb4⟩ := hx.out; have HO4 := Lib.hid hown4; have c4 := (hb4.cell (p := ⟨w.heap.size, 0, none⟩) hwr).trans cR; clear hx hown4)
            | (go_at_call 34; (with_reducible refine (del_logs v4 L wr.heap.size w.heap.size rope _ hlen hb4.size HO4.out hwr c4).mono ?_); rintro e w5 ⟨hx, hb5⟩; obtain ⟨a5, cap5, rfl, hL5⟩ := hx.out; have HL5 := Lib.hid hL5; have hB5 := hb4.trans hb5; clear hx hL5)
            | (go_at_call 16; (with_reducible refine (check_at2 _ (wo rope L) _ today every _ _ hwl HL5.out HCW.out).mono ?_); rintro e w6 ⟨hx, hb6⟩; obtain ⟨a6, cap6, rfl, hF6, _, _, _⟩ := hx.out; have HF6 := Lib.hid hF6; have hB6 := hB5.trans (hb6.mono hB5.size); have c6 := (hB6.cell (p := ⟨w.heap.size, 0, none⟩) hwr).trans cR; clear hx hF6)
            | (go_at_call 37; (with_reducible refine (fin_clone a1 F cap1 _ hFl HN1.out ((HF3.out.grow hB).grow hB6)).mono ?_); rintro e w7 hx; obtain ⟨v7, rfl, hown7, hb7⟩ := hx.out; have HO7 := Lib.hid hown7; have c7 := (hb7.cell (p := ⟨w.heap.size, 0, none⟩) (World.block_lt_of_cell? w6 _ c6)).trans c6; have hB7 := hB6.trans (hb7.mono hB6.size); clear hx hown7)
            | (go_at_call 36; (with_reducible refine (del_finds v7 F w6.heap.size w.heap.size rope _ hFl hb7.size HO7.out (World.block_lt_of_cell? w6 _ c6) c7).mono ?_); rintro e w8 ⟨hx, hb8⟩; obtain ⟨a8, cap8, rfl, hF8⟩ := hx.out; have HF8 := Lib.hid hF8; have hB8 := hb7.trans hb8; clear hx hF8)
            | (go_at_call 19; (refine ((equal_any _ _ (woF rope F) (woF rope F) _ _ _ hfl (HF6.out.grow hB8) HF8.out hfl).mono fun e w' h => show e = .returned (.bool true) ∧ Below w8.heap.size w8 w' by (rw [decide_eq_true rfl] at h; exact h)).mono ?_); rintro e w9 ⟨rfl, hb9⟩; have hB9 := (hB6.trans (hB8.mono hB6.size)).trans (hb9.mono (by have := hB6.size; have := hB8.size; omega))))
          go_ret
          exact ⟨rfl, HFIN.out _ (hB.trans (hB9.mono hB.size))⟩
end Go.Proofs.YtfojipgbenbigaaDoor
