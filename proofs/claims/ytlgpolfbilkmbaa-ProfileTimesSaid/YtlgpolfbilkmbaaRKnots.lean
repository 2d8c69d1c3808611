/-
  THE WALK of the reference's Knots (34).
-/
import Derived.Test.YtlgpolfbilkmbaaRSame
namespace Go.Proofs.Ytlgpolfbilkmbaa
open Go.RowKit Go.Shelf

set_option maxRecDepth 100000 in
set_option maxHeartbeats 8000000 in
theorem rknots_any (d : Int) (m : Mv) (t : Int) (hg : givenP d m = 0) (ht : IsTop d m.spd m.rise m.fall t) (w : World) :
    Calls Try.prog 28 #[.int .i64 d, .agg #[.string m.name, .int .i64 m.to, .int .i64 m.spd, .int .i64 m.rise, .int .i64 m.fall]] w fun e w' => Hid (∃ v, e = .returned v ∧ w'.ownsRow w.heap.size 39 2 v (knotsL d m.rise m.fall t).length (frflat (knotsL d m.rise m.fall t))) ∧ Below w.heap.size w w' := by
  have HC := Lib.hid (rcurve_any d m t hg ht)
  unfold knotsL
  obtain ⟨L, hL⟩ : ∃ L, curveL d m.rise m.fall t = L := ⟨_, rfl⟩
  have hl := curveL_len d m.rise m.fall t
  rw [hL] at hl HC ⊢
  clear hg ht hL
  have hW0 := below_new w (.cells #[.string m.name, .int .i64 m.to, .int .i64 m.spd, .int .i64 m.rise, .int .i64 m.fall] 23)
  obtain ⟨k0, k1, k2, k3, k4⟩ := MvAt.new w m 23
  go_enter Try.func28, Try.ntmps28
  go_upto_region 1 with (fail)
  generalize w.alloc (.cells #[.string m.name, .int .i64 m.to, .int .i64 m.spd, .int .i64 m.rise, .int .i64 m.fall] 23) = WA at *
  go_wp2_with (go_at_call 18; (with_reducible refine (HC.out _).mono ?_); rintro e w1 ⟨hv, hb1⟩; obtain ⟨v, rfl, hr1⟩ := hv.out; obtain ⟨pa, pcap, rfl, hpc1, hpc2, _, hP⟩ := pc_of_row hr1; have HP := Lib.hid hP; have hB1 := hW0.trans (hb1.mono hW0.size); clear hv hr1 hP k0 k1 k2 k3 k4)
  go_loopw [6, 7] (fun v i wr => ∃ k : Nat, k ≤ L.length ∧ i = .int .i64 k ∧ Below w1.heap.size w1 wr ∧ Hid (wr.ownsRow w1.heap.size 39 2 v (knTo L k).length (frflat (knTo L k)))) (fun _ i _ => L.length - (intOf i).toNat)
  case atStart => exact ⟨0, Nat.zero_le _, rfl, Below.refl _ _, Lib.hid (World.ownsRow_nil _ _ _ _)⟩
  case round =>
    obtain ⟨k, hk, rfl, hC, HR⟩ := hrel
    have hcs := hC.size
    by_cases hlt : k < L.length
    · obtain ⟨b, off, rfl, hb, hc⟩ := HP.out (by omega)
      obtain ⟨c0, c1, _, _, _, _, _, _⟩ := hc k hlt
      have d0 := (hC.cell (p := ⟨b, off + k * 8, none⟩) hb).trans c0
      have d1 := (hC.cell (p := ⟨b, off + k * 8 + 1, none⟩) hb).trans c1
      have hkl : (knTo L k).length ≤ 1000000 := by rw [knTo_len]; omega
      clear hc c0 c1
      go_wp2_with (at_builtin; refine fr_append rfl _ _ rfl w1.heap.size _ (knTo L k) rfl (HR.out.alloc (.cells #[.int .i64 (pcg L k).f0, .int .i64 (pcg L k).f1] 39)) _ ((pcg L k).f0, (pcg L k).f1) rfl (by simp) hkl (by first | omega | (simp; omega)) ?_; intro v5 w5 hown5 hg5; have hBn : Below w1.heap.size w1 w5 := grown_own (HR.out.alloc (.cells #[.int .i64 (pcg L k).f0, .int .i64 (pcg L k).f1] 39)) hg5 (hC.alloc hcs (.cells #[.int .i64 (pcg L k).f0, .int .i64 (pcg L k).f1] 39)) (by first | omega | (simp; omega)) (Nat.le_refl _))
      go_roundw
      case rel => exact ⟨k + 1, by omega, by go_num, hBn, Lib.hid hown5⟩
      case measure => simp [intOf]; omega
    · obtain rfl : k = L.length := by omega
      go_wp2_with fail
      go_ret
      exact ⟨Lib.hid ⟨_, rfl, own_base HR.out hB1.size⟩, hB1.trans (hC.mono hB1.size)⟩
end Go.Proofs.Ytlgpolfbilkmbaa
