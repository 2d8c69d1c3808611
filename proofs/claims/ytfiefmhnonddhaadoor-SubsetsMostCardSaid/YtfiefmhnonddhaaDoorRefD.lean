/-
  THE WALKS of the reference's Nearest and Same.
-/
import Derived.Test.YtfiefmhnonddhaaDoorRefC
namespace Go.Proofs.YtfiefmhnonddhaaDoor
open Go.RowKit Go.Shelf

theorem rsums_mem {L : List Int} (hG : givenE L = 0) (i : Nat) (x : Int) (h : x ∈ rsumsTo L i) : -18014398509481984 ≤ x ∧ x ≤ 18014398509481984 := by
  obtain ⟨s, _, e⟩ := ((rsums_ok L i).2 x).1 h
  have := sumN_bound L s (small_mem hG)
  have hl := (given_small hG).1
  rw [← e]
  omega
theorem rsums_pos (L : List Int) : 0 < (rsumsTo L (2 ^ L.length)).length := List.length_pos_of_mem (((rsums_ok L _).2 (sumN L 0)).2 ⟨0, Nat.two_pow_pos _, rfl⟩)
theorem rsums_len (L : List Int) : ∀ i, (rsumsTo L i).length ≤ i
  | 0 => by simp [rsumsTo]
  | i + 1 => by
    have := ins_len (n := sumN L i) (rsumsTo L i)
    have := rsums_len L i
    rw [rsumsTo]
    omega
theorem rnear_mem {S : List Int} (sum : Int) (h0 : 0 < S.length) : ∀ i, i < S.length → rnearTo S sum i ∈ S
  | 0, h => by
    show (S[0]?).getD 0 ∈ S
    rw [List.getElem?_eq_getElem h]
    exact List.getElem_mem h
  | i + 1, h => by
    rw [rnearTo]
    split
    · rw [List.getElem?_eq_getElem h]; exact List.getElem_mem h
    · exact rnear_mem sum h0 i (by omega)

set_option maxHeartbeats 4000000 in
theorem refnearest_any (a : Option Addr) (L : List Int) (cap : Nat) (sum : Int) (w : World) (hG : givenE L = 0) (hs : -1152921504606846976 ≤ sum ∧ sum ≤ 1152921504606846976) (hI : Nums w.heap.size w a L) :
    Calls Tryd.prog 25 #[.slice a L.length cap, .int .i64 sum] w fun e w' => e = .returned (.int .i64 (rnearTo (rsumsTo L (2 ^ L.length)) sum ((rsumsTo L (2 ^ L.length)).length - 1))) ∧ Below w.heap.size w w' := by
  have HC := Lib.hid (refsums_any a L cap w hG hI)
  have HM := Lib.hid (rsums_mem hG (2 ^ L.length))
  have hp := rsums_pos L
  have hl := rsums_len L (2 ^ L.length)
  have h16 : 2 ^ L.length ≤ 65536 := Nat.pow_le_pow_right (by decide) (given_small hG).1
  have hl2 : (rsumsTo L (2 ^ L.length)).length ≤ 65536 := by omega
  clear hl h16 hI
  generalize rsumsTo L (2 ^ L.length) = S at *
  clear hG
  go_enter Tryd.func25, Tryd.ntmps25
  go_wp2_with (go_at_call 24; (with_reducible refine HC.out.mono ?_); rintro e w1 ⟨hx, hb1⟩; obtain ⟨v, c, rfl, hn⟩ := hx.out; have HN := Lib.hid hn; obtain ⟨b, off, rfl, hbl, hc⟩ := HN.out hp; have c0 := (show w1.cell? ⟨b, off, none⟩ = some (.int .i64 (ig S 0)) from hc 0 hp); clear hx hn hc)
  go_loopw [6, 7] (fun bv iv wr => ∃ (i : Nat) (x : Int), bv = .int .i64 x ∧ iv = .int .i64 ((i : Int) + 1) ∧ i < S.length ∧ Hid (x = rnearTo S sum i) ∧ Below w1.heap.size w1 wr) (fun _ iv _ => S.length - (intOf iv).toNat)
  case atStart => exact ⟨0, ig S 0, rfl, rfl, hp, Lib.hid rfl, Below.refl _ _⟩
  case round =>
    obtain ⟨i, x, rfl, rfl, hi, HX, hB⟩ := hrel
    by_cases hlt : i + 1 < S.length
    · have g0 : decide ((i : Int) + 1 < S.length) = true := decide_eq_true (by omega)
      have c1 : wr.cell? ⟨b, off + (i + 1), none⟩ = some (.int .i64 (ig S (i + 1))) := by
        obtain ⟨b', o', e, hbl', hc⟩ := HN.out hp
        cases e
        exact (hB.cell (p := ⟨b, off + (i + 1), none⟩) hbl).trans (hc (i + 1) hlt)
      obtain ⟨y, hy⟩ : ∃ y, ig S (i + 1) = y := ⟨_, rfl⟩
      rw [hy] at c1
      have hyb := HM.out y (by rw [← hy, ig_eq _ _ hlt]; exact List.getElem_mem hlt)
      have hxb := HM.out x (by rw [HX.out]; exact rnear_mem sum hp i hi)
      have HF1 := Lib.hid (reffar_any y sum wr (by omega) (by omega))
      have HF2 := Lib.hid (reffar_any x sum wr (by omega) (by omega))
      obtain ⟨fy, hfy⟩ : ∃ f, farI y sum = f := ⟨_, rfl⟩
      obtain ⟨fx, hfx⟩ : ∃ f, farI x sum = f := ⟨_, rfl⟩
      have HST : Hid (rnearTo S sum (i + 1) = if fy < fx then y else x) := Lib.hid (by
        rw [rnearTo, ← HX.out, ← hfy, ← hfx, ← hy]; rfl)
      rw [hfy] at HF1
      rw [hfx] at HF2
      clear hyb hxb hfx hfy hy HX
      by_cases q : fy < fx
      · have g1 : decide (fy < fx) = true := decide_eq_true q
        have HR : Hid (y = rnearTo S sum (i + 1)) := Lib.hid (by rw [HST.out, if_pos q])
        clear q
        go_wp2_with (go_at_call 49; (with_reducible first | refine HF1.out.mono ?_ | refine HF2.out.mono ?_); rintro e w3 ⟨rfl, rfl⟩)
        go_roundw
        case rel => exact ⟨i + 1, y, rfl, by go_num, hlt, HR, hB⟩
        case measure => simp [intOf]; omega
      · have g1 : decide (fy < fx) = false := decide_eq_false q
        have HR : Hid (x = rnearTo S sum (i + 1)) := Lib.hid (by rw [HST.out, if_neg q])
        clear q
        go_wp2_with (go_at_call 49; (with_reducible first | refine HF1.out.mono ?_ | refine HF2.out.mono ?_); rintro e w3 ⟨rfl, rfl⟩)
        go_roundw
        case rel => exact ⟨i + 1, x, rfl, by go_num, hlt, HR, hB⟩
        case measure => simp [intOf]; omega
    · have g0 : decide ((i : Int) + 1 < S.length) = false := decide_eq_false (by omega)
      have HE : Hid (x = rnearTo S sum (S.length - 1)) := Lib.hid (by rw [HX.out, show S.length - 1 = i by omega])
      go_wp2_with fail
      go_ret
      exact ⟨ret_int HE.out, hb1.trans (hB.mono hb1.size)⟩
end Go.Proofs.YtfiefmhnonddhaaDoor
