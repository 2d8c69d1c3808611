/-
  THE WALK of loftblockref08.Same at two curves that are the same; the reference's Curve whole.
-/
import Derived.Test.YtlgpolfbilkmbaaRCurve
namespace Go.Proofs.Ytlgpolfbilkmbaa
open Go.RowKit Go.Shelf

set_option maxRecDepth 100000 in
set_option maxHeartbeats 8000000 in
theorem same_any (a1 a2 : Option Addr) (L : List Pc) (cap1 cap2 : Nat) (w : World) (hl : L.length ≤ 1100) (h1 : Pcs w.heap.size w a1 L) (h2 : Pcs w.heap.size w a2 L) :
    Calls Try.prog 17 #[.slice a1 L.length cap1, .slice a2 L.length cap2] w fun e w' => e = .returned (.bool true) ∧ Below w.heap.size w w' := by
  have H1 := Lib.hid h1
  have H2 := Lib.hid h2
  clear h1 h2
  go_enter Try.func17, Try.ntmps17
  go_wp2
  go_loopw [5] (fun i wr => ∃ k : Nat, k ≤ L.length ∧ i = .int .i64 k ∧ Below w.heap.size w wr) (fun i _ => L.length - (intOf i).toNat)
  case atStart => exact ⟨0, Nat.zero_le _, rfl, Below.refl _ _⟩
  case round =>
    obtain ⟨k, hk, rfl, hB⟩ := hrel
    by_cases hlt : k < L.length
    · obtain ⟨b, off, rfl, hb, hcx⟩ := H1.out (by omega)
      obtain ⟨b', off', rfl, hb', hcx'⟩ := H2.out (by omega)
      obtain ⟨c0, c1, c2, c3, c4, c5, c6, c7⟩ := hcx k hlt
      obtain ⟨e0, e1, e2, e3, e4, e5, e6, e7⟩ := hcx' k hlt
      clear hcx hcx' H1 H2
      obtain ⟨x, hx⟩ : ∃ x, pcg L k = x := ⟨_, rfl⟩
      rw [hx] at c0 c1 c2 c3 c4 c5 c6 c7 e0 e1 e2 e3 e4 e5 e6 e7
      clear hx
      have d0 := (hB.cell (p := ⟨b, off + k * 8, none⟩) hb).trans c0
      have f0 := (hB.cell (p := ⟨b', off' + k * 8, none⟩) hb').trans e0
      have d1 := (hB.cell (p := ⟨b, off + k * 8 + 1, none⟩) hb).trans c1
      have f1 := (hB.cell (p := ⟨b', off' + k * 8 + 1, none⟩) hb').trans e1
      have d2 := (hB.cell (p := ⟨b, off + k * 8 + 2, none⟩) hb).trans c2
      have f2 := (hB.cell (p := ⟨b', off' + k * 8 + 2, none⟩) hb').trans e2
      have d3 := (hB.cell (p := ⟨b, off + k * 8 + 3, none⟩) hb).trans c3
      have f3 := (hB.cell (p := ⟨b', off' + k * 8 + 3, none⟩) hb').trans e3
      have d4 := (hB.cell (p := ⟨b, off + k * 8 + 4, none⟩) hb).trans c4
      have f4 := (hB.cell (p := ⟨b', off' + k * 8 + 4, none⟩) hb').trans e4
      have d5 := (hB.cell (p := ⟨b, off + k * 8 + 5, none⟩) hb).trans c5
      have f5 := (hB.cell (p := ⟨b', off' + k * 8 + 5, none⟩) hb').trans e5
      have d6 := (hB.cell (p := ⟨b, off + k * 8 + 6, none⟩) hb).trans c6
      have f6 := (hB.cell (p := ⟨b', off' + k * 8 + 6, none⟩) hb').trans e6
      have d7 := (hB.cell (p := ⟨b, off + k * 8 + 7, none⟩) hb).trans c7
      have f7 := (hB.cell (p := ⟨b', off' + k * 8 + 7, none⟩) hb').trans e7
      clear c0 c1 c2 c3 c4 c5 c6 c7 e0 e1 e2 e3 e4 e5 e6 e7
      go_wp2_with fail
      go_quiet (fail)
      go_wp2
      go_roundw
      case rel => exact ⟨k + 1, by omega, by go_num, below_drewN hB _⟩
      case measure => simp [intOf]; omega
    · obtain rfl : k = L.length := by omega
      go_wp2_with fail
      go_ret
      exact ⟨rfl, hB⟩

set_option maxRecDepth 100000 in
set_option maxHeartbeats 8000000 in
theorem rcurve_any (d : Int) (m : Mv) (t : Int) (hg : givenP d m = 0) (ht : IsTop d m.spd m.rise m.fall t) (w : World) :
    Calls Try.prog 18 #[.int .i64 d, .agg #[.string m.name, .int .i64 m.to, .int .i64 m.spd, .int .i64 m.rise, .int .i64 m.fall]] w fun e w' => Hid (∃ v, e = .returned v ∧ w'.ownsRow w.heap.size 70 8 v (curveL d m.rise m.fall t).length (pcflat (curveL d m.rise m.fall t))) ∧ Below w.heap.size w w' := by
  by_cases hd : d = 0
  · have HL : Hid (curveL d m.rise m.fall t = [⟨0, 1, 0, 1, 0, 1, 0, 1⟩]) := Lib.hid (by unfold curveL; rw [if_pos hd])
    have hd' : (d == 0) = true := by simpa using hd
    rw [HL.out]
    clear hd hg ht HL
    have hW0 := below_new w (.cells #[.string m.name, .int .i64 m.to, .int .i64 m.spd, .int .i64 m.rise, .int .i64 m.fall] 23)
    go_enter Try.func18, Try.ntmps18
    go_upto_region 1 with (fail)
    generalize w.alloc (.cells #[.string m.name, .int .i64 m.to, .int .i64 m.spd, .int .i64 m.rise, .int .i64 m.fall] 23) = WA at *
    go_wp2_with (go_at_call 30; (with_reducible refine (of_any 0 _).mono ?_); rintro e w1 ⟨rfl, hb1⟩)
    go_ret
    have hB := hW0.trans (hb1.mono hW0.size)
    refine ⟨Lib.hid ⟨_, rfl, ?_⟩, below_a _ (below_a _ hB)⟩
    have h := World.ownsRow_lit (base := w.heap.size) (e := 70) (size := 8) (w1.alloc (.cells #[.int .i64 0, .int .i64 1] 39)) #[.int .i64 0, .int .i64 1, .int .i64 0, .int .i64 1, .int .i64 0, .int .i64 1, .int .i64 0, .int .i64 1] 1 (by have := hB.size; simp <;> omega) (by unfold maxLen; omega) rfl
    rw [World.size_alloc] at h
    exact h
  · exact rcurve_pos d m t hg hd ht w
end Go.Proofs.Ytlgpolfbilkmbaa
