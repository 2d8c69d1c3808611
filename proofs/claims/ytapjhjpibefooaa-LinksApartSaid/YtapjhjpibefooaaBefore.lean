/-
  THE WALKS of before, chain, names (package links).
-/
import Derived.Test.YtapjhjpibefooaaApp
import Derived.Test.YtapjhjpibefooaaOwn
import Derived.Test.YtapjhjpibefooaaLinked
namespace Go.Proofs.Ytapjhjpibefooaa
open Go.RowKit Go.Shelf

/-- The cue that each one hangs on; -1 for none. -/
def hangI (L : List CueR) (k : Nat) : Int := if (cg L k).link = 1 then -1 else findI L (cg L k).after
def hangsTo (L : List CueR) (k : Nat) : List Int := (List.range k).map (hangI L)
theorem hangsTo_succ (L : List CueR) (k : Nat) : hangsTo L (k + 1) = hangsTo L k ++ [hangI L k] := by unfold hangsTo; rw [List.range_succ, List.map_append]; rfl
theorem hangsTo_len (L : List CueR) (k : Nat) : (hangsTo L k).length = k := by simp [hangsTo]
def hangs (L : List CueR) : List Int := hangsTo L L.length
theorem hangs_len (L : List CueR) : (hangs L).length = L.length := hangsTo_len L _

set_option maxRecDepth 100000 in
set_option maxHeartbeats 4000000 in
theorem before_any (ca pa : Option Addr) (L : List CueR) (A : List (ByteArray × ByteArray)) (cc pc : Nat) (w : World) (hlen : L.length ≤ 1100) (hI : Cues w.heap.size w ca L) :
    Calls Try.prog 55 #[.agg #[.slice ca L.length cc, .slice pa A.length pc]] w fun e w' => Hid (∃ v, e = .returned v ∧ w'.ownsRow w.heap.size 3 1 v (hangs L).length (nflat (hangs L)) ∧ Below w.heap.size w w') := by
  have hb0 : Below w.heap.size w (w.alloc (.cells #[.slice ca L.length cc, .slice pa A.length pc] 25)) := below_new w _
  have HI := Lib.hid (hI.grow hb0); clear hI
  have HX : Hid (∀ wr, Below (w.alloc (.cells #[.slice ca L.length cc, .slice pa A.length pc] 25)).heap.size (w.alloc (.cells #[.slice ca L.length cc, .slice pa A.length pc] 25)) wr → Below w.heap.size w wr ∧ wr.cell? ⟨w.heap.size, 0, none⟩ = some (.slice ca L.length cc) ∧ wr.cell? ⟨w.heap.size, 1, none⟩ = some (.slice pa A.length pc)) := Lib.hid fun wr h => ⟨mono_in _ h, box2 h⟩
  have hz0 : w.heap.size ≤ (w.alloc (.cells #[.slice ca L.length cc, .slice pa A.length pc] 25)).heap.size := hb0.size
  clear hb0
  go_enter Try.func55, Try.ntmps55
  go_wp2
  generalize w.alloc (.cells #[.slice ca L.length cc, .slice pa A.length pc] 25) = W0 at *
  go_loopw [3, 10] (fun v i wr => ∃ k : Nat, k ≤ L.length ∧ i = .int .i64 k ∧ Below W0.heap.size W0 wr ∧ Hid (wr.ownsRow W0.heap.size 3 1 v (hangsTo L k).length (nflat (hangsTo L k)))) (fun _ i _ => L.length - (intOf i).toNat)
  case atStart => exact ⟨0, Nat.zero_le _, rfl, Below.refl _ _, Lib.hid (World.ownsRow_nil _ _ _ _)⟩
  case round =>
    obtain ⟨k, hk, rfl, hB, HR⟩ := hrel
    obtain ⟨_, z0, z1⟩ := HX.out _ hB
    have hbz : w.heap.size < wr.heap.size := World.block_lt_of_cell? _ _ z0
    have HIR := Lib.hid (HI.out.grow hB)
    have hbs := hB.size
    by_cases hlt : k < L.length
    · obtain ⟨b, off, rfl, hbl, hc⟩ := HIR.out (by omega)
      obtain ⟨d0, d1, d2, d3, d4, d5, d6⟩ := hc k hlt
      have HBA := Lib.hid (below_new wr (.cells #[.string (cg L k).name, .string (cg L k).after, .int .i64 (cg L k).link, .int .i64 (cg L k).delay, .slice (cg L k).ma (cg L k).ml (cg L k).mc, .int .i64 (cg L k).crew, .int .i64 (cg L k).power] 56))
      have HL : Hid ((hangsTo L k).length ≤ 1000000) := Lib.hid (by rw [hangsTo_len]; omega)
      clear hc
      by_cases l1 : (cg L k).link = 1
      · have m1 : ((cg L k).link != 1) = false := bne_eq_false_iff_eq.2 l1
        have HH : Hid (hangsTo L (k + 1) = hangsTo L k ++ [-1]) := Lib.hid (by rw [hangsTo_succ]; unfold hangI; rw [if_pos l1])
        clear l1
        go_wp2_with (at_builtin; refine num_append rfl _ _ rfl W0.heap.size _ (hangsTo L k) rfl ((HR.out.alloc _).alloc _) _ (-1) rfl (by simp) HL.out (by simp; omega) ?_; intro v1 w2 hown2 hg2; have hB2 := grown_own ((HR.out.alloc _).alloc _) hg2 ((hB.alloc hbs _).alloc (by simp; omega) _) (by simp; omega) (Nat.le_refl _))
        go_roundw
        case rel => exact ⟨k + 1, by omega, by go_num, hB2, Lib.hid (by rw [HH.out]; exact hown2)⟩
        case measure => simp [intOf]; omega
      · have m1 : ((cg L k).link != 1) = true := bne_iff_ne.2 l1
        have HH : Hid (hangsTo L (k + 1) = hangsTo L k ++ [findI L (cg L k).after]) := Lib.hid (by rw [hangsTo_succ]; unfold hangI; rw [if_neg l1])
        clear l1
        go_wp2_with (first
          | (go_at_call 53; (with_reducible refine (find_any _ L _ _ (cg L k).after _ hlen (HIR.out.grow HBA.out)).mono ?_); rintro e w1 ⟨rfl, hb1⟩; have hB1 := HBA.out.trans (hb1.mono HBA.out.size); have hz1 := hB1.size; have HR1 := Lib.hid (ownsRow_below HR.out hB1))
          | (at_builtin; refine num_append rfl _ _ rfl W0.heap.size _ (hangsTo L k) rfl (HR1.out.alloc _) _ (findI L (cg L k).after) rfl (by simp) HL.out (by simp; omega) ?_; intro v1 w2 hown2 hg2; have hB2 := grown_own (HR1.out.alloc _) hg2 ((hB.trans (hB1.mono hbs)).alloc (by omega) _) (by simp; omega) (Nat.le_refl _)))
        go_roundw
        case rel => exact ⟨k + 1, by omega, by go_num, hB2, Lib.hid (by rw [HH.out]; exact hown2)⟩
        case measure => simp [intOf]; omega
    · obtain rfl : k = L.length := by omega
      go_wp2
      go_ret
      exact Lib.hid ⟨_, rfl, ownsRow_base HR.out hz0, (HX.out _ hB).1⟩
end Go.Proofs.Ytapjhjpibefooaa
