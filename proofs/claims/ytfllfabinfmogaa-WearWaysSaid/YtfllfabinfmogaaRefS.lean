/-
  THE WALK of the reference's Spots (layer 46), at right spans.
-/
import Derived.Test.YtfllfabinfmogaaRefN
namespace Go.Proofs.Ytfllfabinfmogaa
open Go.RowKit Go.Shelf
theorem cov_bd (L : List (Int × Int)) (x : Int) : 0 ≤ cov L x ∧ cov L x ≤ L.length := by
  have := cov_take_bd L x L.length (Nat.le_refl _)
  rwa [List.take_length] at this
theorem spotK_pos (L : List (Int × Int)) (K : List Int) (k : Nat) (h1 : 1 ≤ k) (hk : k ≤ K.length) : 0 < (spotK L (K.take k)).length := by
  have e : K.take k = K.take (k - 1) ++ [ig K (k - 1)] := by
    conv => lhs; rw [show k = k - 1 + 1 by omega]
    rw [ig_eq K (k - 1) (by omega)]
    exact List.take_succ_eq_append_getElem (by omega)
  rw [e, spotK_snoc]
  unfold spotS
  split
  · simp
  · rename_i p hp
    split
    · exact (last_og hp).1
    · simp
def leftN (len x : Int) : Nat := if x < 0 then 0 else (len + 1 - x).toNat
theorem leftN_lt {len : Int} {K : List Int} (hK : K.Pairwise (· < ·)) (h0 : ∀ k, k < K.length → 0 ≤ ig K k ∧ ig K k < len) {k : Nat} (hk : k < K.length) : leftN len (keyAt K (k + 1)) < leftN len (ig K k) := by
  have a := h0 k hk
  unfold keyAt leftN
  rw [if_neg (show ¬ ig K k < 0 by omega)]
  split
  · rename_i q
    have b := h0 (k + 1) q
    have := ig_lt hK (show k < k + 1 by omega) q
    rw [if_neg (by omega)]
    omega
  · rw [if_pos (by omega)]
    omega
set_option maxHeartbeats 16000000 in
theorem refspots_any (len : Int) (a : Option Addr) (L : List (Int × Int)) (cap : Nat) (w : World) (he : spotsE len L = 0) (h : Spans w.heap.size w a L) :
    Calls Try.prog 22 #[.int .i64 len, .slice a L.length cap] w fun e w' => Hid (∃ v, e = .returned v ∧ w'.ownsRow w.heap.size 48 2 v (spotsP len L).length (oflat (spotsP len L))) ∧ Below w.heap.size w w' := by
  obtain ⟨l1, l2, hl, hOK, _⟩ := spots_ok he
  have HU := Lib.hid h
  have hokn : ∀ s ∈ L, 0 ≤ s.1 ∧ 0 ≤ s.2 := fun s hs => by have := hOK s hs; omega
  obtain ⟨K', hK'⟩ := keys_head (len := len) (L := L) (by omega) hokn
  have hkl : (keysP len L).length ≤ 2001 := Nat.le_trans (keysP_len len L) (by omega)
  have hk1 : 1 ≤ (keysP len L).length := by rw [hK']; simp
  have hig0 : ig (keysP len L) 0 = 0 := by rw [hK']; rfl
  have HNN : Hid (∀ k, k < (keysP len L).length → 0 ≤ ig (keysP len L) k) := Lib.hid fun k hk => by
    rcases (keysP_mem.1 (ig_mem hk)).1 with h | ⟨s, hs, h | h⟩
    · omega
    · have := hOK s hs; omega
    · have := hOK s hs; omega
  have HN0 : Hid (nextP len 0 L = keyAt (keysP len L) 1) := Lib.hid (by have := next_key hOK 0 (by omega) (by omega); rwa [hig0] at this)
  have HNX : Hid (∀ k, k < (keysP len L).length → nextP len (ig (keysP len L) k) L = keyAt (keysP len L) (k + 1)) := Lib.hid fun k hk => next_key hOK k hk (HNN.out k hk)
  have HLT : Hid (∀ k, k < (keysP len L).length → leftN len (keyAt (keysP len L) (k + 1)) < leftN len (ig (keysP len L) k)) := Lib.hid fun k hk => leftN_lt (keysP_incr len L) (fun j hj => ⟨HNN.out j hj, (keysP_mem.1 (ig_mem hj)).2⟩) hk
  have HS1 : Hid (spotK L ((keysP len L).take 1) = [(0, cov L 0)]) := Lib.hid (by rw [hK']; rfl)
  have HEND : Hid (spotK L ((keysP len L).take (keysP len L).length) = spotsP len L) := Lib.hid (by rw [List.take_length]; rfl)
  clear h he hOK hokn hK' hig0
  generalize keysP len L = K at *
  go_enter Try.func22, Try.ntmps22
  go_wp2_with (first
    | (go_at_call 34; (with_reducible refine (refat_any a L cap _ w.heap.size _ (by omega) HU.out).mono ?_); rintro e w2 ⟨rfl, rfl⟩)
    | (go_at_call 35; (with_reducible refine (refnext_any len a L cap _ w.heap.size _ (by omega) (HU.out.below (below_new _ _))).mono ?_); rintro e w2 ⟨rfl, rfl⟩; rw [HN0.out]))
  have hown0 : (w.alloc (.cells #[.int .i64 0, .int .i64 (cov L 0)] 48)).ownsRow w.heap.size 48 2 (.slice (some ⟨w.heap.size, 0, none⟩) 1 1) 1 (oflat [(0, cov L 0)]) := World.ownsRow_lit (base := w.heap.size) (e := 48) (size := 2) w (oflat [(0, cov L 0)]).toArray 1 (Nat.le_refl _) (by unfold maxLen; omega) rfl
  go_loopw [5, 6] (fun v x wr => ∃ k : Nat, 1 ≤ k ∧ k ≤ K.length ∧ x = .int .i64 (keyAt K k) ∧ wr.ownsRow w.heap.size 48 2 v (spotK L (K.take k)).length (oflat (spotK L (K.take k))) ∧ Below w.heap.size w wr) (fun _ x _ => leftN len (intOf x))
  case atStart => exact ⟨1, Nat.le_refl _, hk1, rfl, by rw [HS1.out]; exact hown0, below_new _ _⟩
  case round =>
    obtain ⟨k, hk0, hk, rfl, hrow, hB⟩ := hrel
    clear hown0
    by_cases hlt : k < K.length
    · have hx0 := HNN.out k hlt
      have hke : keyAt K k = ig K k := if_pos hlt
      have HTK : Hid (K.take (k + 1) = K.take k ++ [ig K k]) := Lib.hid (by rw [ig_eq _ k hlt]; exact List.take_succ_eq_append_getElem hlt)
      have HSP : Hid (spotK L (K.take (k + 1)) = spotS L (spotK L (K.take k)) (ig K k)) := Lib.hid (by rw [HTK.out, spotK_snoc])
      have hSl : (spotK L (K.take k)).length ≤ 3000 := Nat.le_trans (spotK_len _ _) (by rw [List.length_take]; omega)
      have hS1 := spotK_pos L K k hk0 hk
      have HX := Lib.hid (HNX.out k hlt)
      have HM := Lib.hid (HLT.out k hlt)
      have hcb := cov_bd L (ig K k)
      rw [hke]
      obtain ⟨t, ht⟩ : ∃ t, ig K k = t := ⟨_, rfl⟩
      obtain ⟨S, hS⟩ : ∃ S, spotK L (K.take k) = S := ⟨_, rfl⟩
      rw [ht] at HSP HX HM hx0 hcb
      rw [hS] at HSP hrow hSl hS1
      simp only [ht]
      obtain ⟨c, hc⟩ : ∃ c, cov L t = c := ⟨_, rfl⟩
      have HC := Lib.hid hc
      rw [hc] at hcb
      clear ht hS hc hke
      obtain ⟨oa, ocap, rfl, _, _, _, hO⟩ := load_of_row hrow
      obtain ⟨ob, ooff, rfl, hob, hoc⟩ := hO (by omega)
      obtain ⟨_, o1⟩ := hoc (S.length - 1) (by omega)
      have hS2 : (1 : Int) ≤ S.length := by omega
      have s1 : IntKind.i64.wrap ((S.length : Int) - 1) = (S.length : Int) - 1 := IntWalk.i64_in _ (by omega)
      have s2 : ((S.length : Int) - 1).toNat = S.length - 1 := by omega
      obtain ⟨W, hWq⟩ : ∃ x, (og S (S.length - 1)).2 = x := ⟨_, rfl⟩
      rw [hWq] at o1
      obtain ⟨wo, rfl⟩ : ∃ W : World, W = wr := ⟨_, rfl⟩
      by_cases hw : W = c
      · have q3 : (c != W) = false := by simpa using hw.symm
        have HST : Hid (spotS L S t = S) := Lib.hid (spotS_same (by omega) (by rw [hWq, hw, HC.out]))
        clear hw hoc hWq
        go_wp2_with (first
          | (go_at_call 34; (with_reducible refine (refat_any a L cap _ w.heap.size _ (by omega) (HU.out.below hB)).mono ?_); rintro e w2 ⟨rfl, rfl⟩; rw [HC.out])
          | (go_at_call 35; (with_reducible refine (refnext_any len a L cap _ w.heap.size _ (by omega) (HU.out.below hB)).mono ?_); rintro e w2 ⟨rfl, rfl⟩; rw [HX.out]))
        go_roundw
        case rel => exact ⟨k + 1, by omega, by omega, rfl, by rw [HSP.out, HST.out]; exact hrow, hB⟩
        case measure => simpa [intOf] using HM.out
      · have q3 : (c != W) = true := by simpa using fun e => hw e.symm
        have HST : Hid (spotS L S t = S ++ [(t, c)]) := Lib.hid (by rw [← HC.out]; exact spotS_new (by omega) (by rw [hWq, HC.out]; exact hw))
        clear hw hoc hWq
        go_wp2_with (first
          | (go_at_call 34; (with_reducible refine (refat_any a L cap _ w.heap.size _ (by omega) (HU.out.below hB)).mono ?_); rintro e w2 ⟨rfl, rfl⟩; rw [HC.out])
          | (at_builtin; refine load_append rfl _ _ rfl w.heap.size _ S rfl (hrow.alloc _) _ (t, c) rfl (by simp) (by omega) (by have := hB.size; first | omega | (simp <;> omega)) ?_; intro v5 w5 hown5 hg5; have hD5 := (hB.alloc hB.size _).grown hg5 (by have := hB.size; simp; omega) (fun j hj => (hrow.lt _ hj).1))
          | (go_at_call 35; (with_reducible refine (refnext_any len a L cap _ w.heap.size _ (by omega) (HU.out.below hD5)).mono ?_); rintro e w2 ⟨rfl, rfl⟩; rw [HX.out]))
        go_roundw
        case rel => exact ⟨k + 1, by omega, by omega, rfl, by rw [HSP.out, HST.out]; exact hown5, hD5⟩
        case measure => simpa [intOf] using HM.out
    · obtain rfl : k = K.length := by omega
      have hke : keyAt K K.length = -1 := if_neg (by omega)
      rw [HEND.out] at hrow
      rw [hke]
      go_wp2_with fail
      go_ret
      exact ⟨Lib.hid ⟨_, rfl, hrow⟩, hB⟩
end Go.Proofs.Ytfllfabinfmogaa
