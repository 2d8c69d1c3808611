/-
  THE WALKS of Roots and Order (package links), of the reference's Roots.
-/
import Derived.Test.YtapjhjpibefooaaStarts
namespace Go.Proofs.Ytapjhjpibefooaa
open Go.RowKit Go.Shelf

/-- The names of the Manual cues. -/
def rootsTo (L : List CueR) : Nat → List ByteArray
  | 0 => []
  | k + 1 => if (cg L k).link = 1 then rootsTo L k ++ [(cg L k).name] else rootsTo L k
theorem rootsTo_len (L : List CueR) (k : Nat) : (rootsTo L k).length ≤ k := by
  induction k with
  | zero => exact Nat.le_refl _
  | succ k ih =>
    simp only [rootsTo]
    split
    · rw [List.length_append, List.length_singleton]; omega
    · omega
def rootsP (L : List CueR) (A : List (ByteArray × ByteArray)) : List ByteArray × Int := if linkedB L A then (rootsTo L L.length, 0) else ([], 1)
def orderP (L : List CueR) (A : List (ByteArray × ByteArray)) : List Int × Int := if linkedB L A then (if (ordP (hangs L)).length < L.length then ([], 23) else (ordP (hangs L), 0)) else ([], 1)

set_option maxRecDepth 100000 in
set_option maxHeartbeats 4000000 in
theorem roots_any (ca pa : Option Addr) (L : List CueR) (A : List (ByteArray × ByteArray)) (cc pc : Nat) (w : World) (hlen : L.length ≤ 1000) (hI : Cues w.heap.size w ca L) (hP : Pairs w.heap.size w pa A) :
    Calls Try.prog 31 #[.agg #[.slice ca L.length cc, .slice pa A.length pc]] w fun e w' => Hid (∃ v, e = .returned (.tuple #[v, .int .i64 (rootsP L A).2]) ∧ w'.ownsRow w.heap.size 9 1 v (rootsP L A).1.length (sflat (rootsP L A).1) ∧ Below w.heap.size w w') := by
  have hb0 : Below w.heap.size w (w.alloc (.cells #[.slice ca L.length cc, .slice pa A.length pc] 25)) := below_new w _
  have HI := Lib.hid (hI.grow hb0)
  have HP := Lib.hid (hP.grow hb0)
  have HX : Hid (∀ wr, Below (w.alloc (.cells #[.slice ca L.length cc, .slice pa A.length pc] 25)).heap.size (w.alloc (.cells #[.slice ca L.length cc, .slice pa A.length pc] 25)) wr → Below w.heap.size w wr ∧ wr.cell? ⟨w.heap.size, 0, none⟩ = some (.slice ca L.length cc) ∧ wr.cell? ⟨w.heap.size, 1, none⟩ = some (.slice pa A.length pc)) := Lib.hid fun wr h => ⟨mono_in _ h, box2 h⟩
  have hz0 : w.heap.size ≤ (w.alloc (.cells #[.slice ca L.length cc, .slice pa A.length pc] 25)).heap.size := hb0.size
  clear hb0 hI hP
  cases hlk : linkedB L A
  · have HLK := Lib.hid hlk
    have HP0 : Hid (rootsP L A = ([], 1)) := Lib.hid (by unfold rootsP; rw [hlk]; rfl)
    clear hlk
    go_enter Try.func31, Try.ntmps31
    go_wp2_with (go_at_call 48; (with_reducible refine (linked_any _ _ L A _ _ _ (by omega) HI.out HP.out).mono ?_); rintro e w1 ⟨rfl, hb1⟩; rw [HLK.out]; obtain ⟨hB1, z0, z1⟩ := HX.out _ hb1)
    go_ret2
    rw [HP0.out]
    exact Lib.hid ⟨_, rfl, World.ownsRow_nil _ _ _ _, hB1⟩
  · have HLK := Lib.hid hlk
    have HP0 : Hid (rootsP L A = (rootsTo L L.length, 0)) := Lib.hid (by unfold rootsP; rw [hlk]; rfl)
    clear hlk
    go_enter Try.func31, Try.ntmps31
    go_wp2_with (go_at_call 48; (with_reducible refine (linked_any _ _ L A _ _ _ (by omega) HI.out HP.out).mono ?_); rintro e w1 ⟨rfl, hb1⟩; rw [HLK.out]; obtain ⟨hB1, z0, z1⟩ := HX.out _ hb1)
    generalize (w.alloc (.cells #[.slice ca L.length cc, .slice pa A.length pc] 25)) = W0 at *
    clear z0 z1
    go_loopw [4, 13] (fun v i wr => ∃ k : Nat, k ≤ L.length ∧ i = .int .i64 k ∧ Below W0.heap.size W0 wr ∧ Hid (wr.ownsRow W0.heap.size 9 1 v (rootsTo L k).length (sflat (rootsTo L k)))) (fun _ i _ => L.length - (intOf i).toNat)
    case atStart => exact ⟨0, Nat.zero_le _, rfl, hb1, Lib.hid (World.ownsRow_nil _ _ _ _)⟩
    case round =>
      obtain ⟨k, hk, rfl, hB, HR⟩ := hrel
      obtain ⟨_, z0, z1⟩ := HX.out _ hB
      have hbz : w.heap.size < wr.heap.size := World.block_lt_of_cell? _ _ z0
      have hbs := hB.size
      by_cases hlt : k < L.length
      · obtain ⟨b, off, rfl, hbl, hc⟩ := HI.out (by omega)
        obtain ⟨c0, c1, c2, c3, c4, c5, c6⟩ := hc k hlt
        have d0 := (hB.cell (p := ⟨b, off + k * 7, none⟩) hbl).trans c0
        have d1 := (hB.cell (p := ⟨b, off + k * 7 + 1, none⟩) hbl).trans c1
        have d2 := (hB.cell (p := ⟨b, off + k * 7 + 2, none⟩) hbl).trans c2
        have d3 := (hB.cell (p := ⟨b, off + k * 7 + 3, none⟩) hbl).trans c3
        have d4 := (hB.cell (p := ⟨b, off + k * 7 + 4, none⟩) hbl).trans c4
        have d5 := (hB.cell (p := ⟨b, off + k * 7 + 5, none⟩) hbl).trans c5
        have d6 := (hB.cell (p := ⟨b, off + k * 7 + 6, none⟩) hbl).trans c6
        have HL : Hid ((rootsTo L k).length ≤ 1000000) := Lib.hid (by have := rootsTo_len L k; omega)
        clear hc c0 c1 c2 c3 c4 c5 c6
        by_cases l1 : (cg L k).link = 1
        · have m1 : ((cg L k).link == 1) = true := beq_iff_eq.2 l1
          have HH : Hid (rootsTo L (k + 1) = rootsTo L k ++ [(cg L k).name]) := Lib.hid (by simp only [rootsTo]; rw [if_pos l1])
          clear l1
          go_wp2_with (at_builtin; refine str_append rfl _ _ rfl W0.heap.size _ (rootsTo L k) rfl ((HR.out.alloc (.cells #[.string (cg L k).name, .string (cg L k).after, .int .i64 (cg L k).link, .int .i64 (cg L k).delay, .slice (cg L k).ma (cg L k).ml (cg L k).mc, .int .i64 (cg L k).crew, .int .i64 (cg L k).power] 56)).alloc _) _ (cg L k).name rfl (by simp) HL.out (by first | omega | (simp; omega)) ?_; intro v1 w2 hown2 hg2; have hB2 := grown_own ((HR.out.alloc (.cells #[.string (cg L k).name, .string (cg L k).after, .int .i64 (cg L k).link, .int .i64 (cg L k).delay, .slice (cg L k).ma (cg L k).ml (cg L k).mc, .int .i64 (cg L k).crew, .int .i64 (cg L k).power] 56)).alloc _) hg2 ((hB.alloc hbs (.cells #[.string (cg L k).name, .string (cg L k).after, .int .i64 (cg L k).link, .int .i64 (cg L k).delay, .slice (cg L k).ma (cg L k).ml (cg L k).mc, .int .i64 (cg L k).crew, .int .i64 (cg L k).power] 56)).alloc (by first | omega | (simp; omega)) _) (by first | omega | (simp; omega)) (Nat.le_refl _))
          go_roundw
          case rel => exact ⟨k + 1, by omega, by go_num, hB2, Lib.hid (by rw [HH.out]; exact hown2)⟩
          case measure => simp [intOf]; omega
        · have m1 : ((cg L k).link == 1) = false := beq_eq_false_iff_ne.2 l1
          have HH : Hid (rootsTo L (k + 1) = rootsTo L k) := Lib.hid (by simp only [rootsTo]; rw [if_neg l1])
          clear l1
          go_wp2_with fail
          go_roundw
          case rel => exact ⟨k + 1, by omega, by go_num, (hB.alloc hbs (.cells #[.string (cg L k).name, .string (cg L k).after, .int .i64 (cg L k).link, .int .i64 (cg L k).delay, .slice (cg L k).ma (cg L k).ml (cg L k).mc, .int .i64 (cg L k).crew, .int .i64 (cg L k).power] 56)), Lib.hid (by rw [HH.out]; exact (HR.out.alloc (.cells #[.string (cg L k).name, .string (cg L k).after, .int .i64 (cg L k).link, .int .i64 (cg L k).delay, .slice (cg L k).ma (cg L k).ml (cg L k).mc, .int .i64 (cg L k).crew, .int .i64 (cg L k).power] 56)))⟩
          case measure => simp [intOf]; omega
      · obtain rfl : k = L.length := by omega
        go_wp2_with fail
        go_ret2
        rw [HP0.out]
        exact Lib.hid ⟨_, rfl, ownsRow_base HR.out hz0, (HX.out _ hB).1⟩

set_option maxRecDepth 100000 in
set_option maxHeartbeats 4000000 in
theorem refroots_any (ca pa : Option Addr) (L : List CueR) (A : List (ByteArray × ByteArray)) (cc pc : Nat) (w : World) (hlen : L.length ≤ 1000) (hI : Cues w.heap.size w ca L) :
    Calls Try.prog 40 #[.agg #[.slice ca L.length cc, .slice pa A.length pc]] w fun e w' => Hid (∃ v, e = .returned v ∧ w'.ownsRow w.heap.size 9 1 v (rootsTo L L.length).length (sflat (rootsTo L L.length)) ∧ Below w.heap.size w w') := by
  have hb0 : Below w.heap.size w (w.alloc (.cells #[.slice ca L.length cc, .slice pa A.length pc] 25)) := below_new w _
  have HI := Lib.hid (hI.grow hb0)
  have HX : Hid (∀ wr, Below (w.alloc (.cells #[.slice ca L.length cc, .slice pa A.length pc] 25)).heap.size (w.alloc (.cells #[.slice ca L.length cc, .slice pa A.length pc] 25)) wr → Below w.heap.size w wr ∧ wr.cell? ⟨w.heap.size, 0, none⟩ = some (.slice ca L.length cc) ∧ wr.cell? ⟨w.heap.size, 1, none⟩ = some (.slice pa A.length pc)) := Lib.hid fun wr h => ⟨mono_in _ h, box2 h⟩
  have hz0 : w.heap.size ≤ (w.alloc (.cells #[.slice ca L.length cc, .slice pa A.length pc] 25)).heap.size := hb0.size
  clear hb0 hI
  go_enter Try.func40, Try.ntmps40
  go_wp2_with fail
  generalize (w.alloc (.cells #[.slice ca L.length cc, .slice pa A.length pc] 25)) = W0 at *
  go_loopw [3, 4] (fun v i wr => ∃ k : Nat, k ≤ L.length ∧ i = .int .i64 k ∧ Below W0.heap.size W0 wr ∧ Hid (wr.ownsRow W0.heap.size 9 1 v (rootsTo L k).length (sflat (rootsTo L k)))) (fun _ i _ => L.length - (intOf i).toNat)
  case atStart => exact ⟨0, Nat.zero_le _, rfl, Below.refl _ _, Lib.hid (World.ownsRow_nil _ _ _ _)⟩
  case round =>
    obtain ⟨k, hk, rfl, hB, HR⟩ := hrel
    obtain ⟨_, z0, z1⟩ := HX.out _ hB
    have hbz : w.heap.size < wr.heap.size := World.block_lt_of_cell? _ _ z0
    have hbs := hB.size
    by_cases hlt : k < L.length
    · obtain ⟨b, off, rfl, hbl, hc⟩ := HI.out (by omega)
      obtain ⟨c0, c1, c2, c3, c4, c5, c6⟩ := hc k hlt
      have d0 := (hB.cell (p := ⟨b, off + k * 7, none⟩) hbl).trans c0
      have d1 := (hB.cell (p := ⟨b, off + k * 7 + 1, none⟩) hbl).trans c1
      have d2 := (hB.cell (p := ⟨b, off + k * 7 + 2, none⟩) hbl).trans c2
      have d3 := (hB.cell (p := ⟨b, off + k * 7 + 3, none⟩) hbl).trans c3
      have d4 := (hB.cell (p := ⟨b, off + k * 7 + 4, none⟩) hbl).trans c4
      have d5 := (hB.cell (p := ⟨b, off + k * 7 + 5, none⟩) hbl).trans c5
      have d6 := (hB.cell (p := ⟨b, off + k * 7 + 6, none⟩) hbl).trans c6
      have HL : Hid ((rootsTo L k).length ≤ 1000000) := Lib.hid (by have := rootsTo_len L k; omega)
      clear hc c0 c1 c2 c3 c4 c5 c6
      by_cases l1 : (cg L k).link = 1
      · have m1 : ((cg L k).link == 1) = true := beq_iff_eq.2 l1
        have HH : Hid (rootsTo L (k + 1) = rootsTo L k ++ [(cg L k).name]) := Lib.hid (by simp only [rootsTo]; rw [if_pos l1])
        clear l1
        go_wp2_with (at_builtin; refine str_append rfl _ _ rfl W0.heap.size _ (rootsTo L k) rfl (HR.out.alloc _) _ (cg L k).name rfl (by simp) HL.out (by first | omega | (simp; omega)) ?_; intro v1 w2 hown2 hg2; have hB2 := grown_own (HR.out.alloc _) hg2 (hB.alloc (by first | omega | (simp; omega)) _) (by first | omega | (simp; omega)) (Nat.le_refl _))
        go_roundw
        case rel => exact ⟨k + 1, by omega, by go_num, hB2, Lib.hid (by rw [HH.out]; exact hown2)⟩
        case measure => simp [intOf]; omega
      · have m1 : ((cg L k).link == 1) = false := beq_eq_false_iff_ne.2 l1
        have HH : Hid (rootsTo L (k + 1) = rootsTo L k) := Lib.hid (by simp only [rootsTo]; rw [if_neg l1])
        clear l1
        go_wp2_with fail
        go_roundw
        case rel => exact ⟨k + 1, by omega, by go_num, hB, Lib.hid (by rw [HH.out]; exact HR.out)⟩
        case measure => simp [intOf]; omega
    · obtain rfl : k = L.length := by omega
      go_wp2_with fail
      go_ret
      exact Lib.hid ⟨_, rfl, ownsRow_base HR.out hz0, (HX.out _ hB).1⟩

set_option maxRecDepth 100000 in
set_option maxHeartbeats 4000000 in
theorem orderE_any (ca pa : Option Addr) (L : List CueR) (A : List (ByteArray × ByteArray)) (cc pc : Nat) (w : World) (hlen : L.length ≤ 1000) (hI : Cues w.heap.size w ca L) (hP : Pairs w.heap.size w pa A) :
    Calls Try.prog 36 #[.agg #[.slice ca L.length cc, .slice pa A.length pc]] w fun e w' => Hid (∃ v, e = .returned (.tuple #[v, .int .i64 (orderP L A).2]) ∧ w'.ownsRow w.heap.size 3 1 v (orderP L A).1.length (nflat (orderP L A).1) ∧ Below w.heap.size w w') := by
  have hb0 : Below w.heap.size w (w.alloc (.cells #[.slice ca L.length cc, .slice pa A.length pc] 25)) := below_new w _
  have HI := Lib.hid (hI.grow hb0)
  have HP := Lib.hid (hP.grow hb0)
  have HX : Hid (∀ wr, Below (w.alloc (.cells #[.slice ca L.length cc, .slice pa A.length pc] 25)).heap.size (w.alloc (.cells #[.slice ca L.length cc, .slice pa A.length pc] 25)) wr → Below w.heap.size w wr ∧ wr.cell? ⟨w.heap.size, 0, none⟩ = some (.slice ca L.length cc) ∧ wr.cell? ⟨w.heap.size, 1, none⟩ = some (.slice pa A.length pc)) := Lib.hid fun wr h => ⟨mono_in _ h, box2 h⟩
  have hz0 : w.heap.size ≤ (w.alloc (.cells #[.slice ca L.length cc, .slice pa A.length pc] 25)).heap.size := hb0.size
  clear hb0 hI hP
  cases hlk : linkedB L A
  · have HLK := Lib.hid hlk
    have HP0 : Hid (orderP L A = ([], 1)) := Lib.hid (by unfold orderP; rw [hlk]; rfl)
    clear hlk
    go_enter Try.func36, Try.ntmps36
    go_wp2_with (go_at_call 48; (with_reducible refine (linked_any _ _ L A _ _ _ (by omega) HI.out HP.out).mono ?_); rintro e w1 ⟨rfl, hb1⟩; rw [HLK.out]; obtain ⟨hB1, z0, z1⟩ := HX.out _ hb1)
    go_ret2
    rw [HP0.out]
    exact Lib.hid ⟨_, rfl, World.ownsRow_nil _ _ _ _, hB1⟩
  · have HLK := Lib.hid hlk
    have hole := ord_le L
    have HC : Hid (orderP L A = if (ordP (hangs L)).length < L.length then ([], 23) else (ordP (hangs L), 0)) := Lib.hid (by unfold orderP; rw [hlk]; rfl)
    obtain ⟨O, HO⟩ : ∃ O, Hid (ordP (hangs L) = O) := ⟨_, Lib.hid rfl⟩
    rw [HO.out] at HC hole
    clear hlk
    by_cases ho : O.length < L.length
    · have HP0 : Hid (orderP L A = ([], 23)) := Lib.hid (by rw [HC.out, if_pos ho])
      go_enter Try.func36, Try.ntmps36
      go_wp2_with (first
        | (go_at_call 48; (with_reducible refine (linked_any _ _ L A _ _ _ (by omega) HI.out HP.out).mono ?_); rintro e w1 ⟨rfl, hb1⟩; rw [HLK.out]; obtain ⟨hB1, z0, z1⟩ := HX.out _ hb1)
        | (go_at_call 52; (with_reducible refine (order_any _ _ L A _ _ _ (by omega) (HI.out.grow hb1)).mono ?_); rintro e w4 hx; obtain ⟨v4, rfl, hr4, hb4⟩ := hx.out; rw [HO.out] at hr4; have hB4 := hb1.trans (hb4.mono hb1.size); obtain ⟨hB4', t0, t1⟩ := HX.out _ hB4; obtain ⟨oa, oc, rfl, _, _, _, _⟩ := num_of_row hr4; clear hx))
      go_ret2
      rw [HP0.out]
      exact Lib.hid ⟨_, rfl, World.ownsRow_nil _ _ _ _, hB4'⟩
    · have HP0 : Hid (orderP L A = (O, 0)) := Lib.hid (by rw [HC.out, if_neg ho])
      go_enter Try.func36, Try.ntmps36
      go_wp2_with (first
        | (go_at_call 48; (with_reducible refine (linked_any _ _ L A _ _ _ (by omega) HI.out HP.out).mono ?_); rintro e w1 ⟨rfl, hb1⟩; rw [HLK.out]; obtain ⟨hB1, z0, z1⟩ := HX.out _ hb1)
        | (go_at_call 52; (with_reducible refine (order_any _ _ L A _ _ _ (by omega) (HI.out.grow hb1)).mono ?_); rintro e w4 hx; obtain ⟨v4, rfl, hr4, hb4⟩ := hx.out; rw [HO.out] at hr4; have hB4 := hb1.trans (hb4.mono hb1.size); obtain ⟨hB4', t0, t1⟩ := HX.out _ hB4; obtain ⟨oa, oc, rfl, _, _, _, _⟩ := num_of_row hr4; clear hx))
      go_ret2
      rw [HP0.out]
      exact Lib.hid ⟨_, rfl, ownsRow_base hr4 (by have := hB1.size; omega), hB4'⟩
end Go.Proofs.Ytapjhjpibefooaa
