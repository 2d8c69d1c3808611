/-
  THE WALK of Chain (package links).
-/
import Derived.Test.YtapjhjpibefooaaOrder
import Derived.Test.YtapjhjpibefooaaClashP
namespace Go.Proofs.Ytapjhjpibefooaa
open Go.RowKit Go.Shelf

def chainNP (L : List CueR) (A : List (ByteArray × ByteArray)) (name : ByteArray) : List ByteArray × Int :=
  if linkedB L A then (if findI L name < 0 then ([], 9) else if (chainP (hangs L) (findI L name)).2 then (namesOf L (chainP (hangs L) (findI L name)).1, 0) else ([], 23)) else ([], 1)
theorem chain_in (hs : List Int) (hk : HangOK hs) (i0 : Int) (h0 : -1 ≤ i0) (h1 : i0 < hs.length) : ∀ x ∈ (chainP hs i0).1, 0 ≤ x ∧ x < (hs.length : Int) := by
  have main : ∀ f out i, ChainAt hs i0 out i → hs.length + 1 - out.length = f → ∀ x ∈ (chainP hs i0).1, 0 ≤ x ∧ x < (hs.length : Int) := by
    intro f
    induction f with
    | zero => intro out i h hf; have := h.len; omega
    | succ f ih =>
      intro out i h hf
      by_cases hi : i < 0
      · rw [h.ends hi]; exact h.inn
      · by_cases hm : i ∈ out
        · rw [h.back hi hm]; exact h.inn
        · exact ih _ _ (h.next hk hi hm) (by rw [List.length_append, List.length_singleton]; have := h.len; omega)
  exact main _ [] i0 (ChainAt.start h0 h1) rfl
theorem chain_len (hs : List Int) (hk : HangOK hs) (i0 : Int) (h0 : -1 ≤ i0) (h1 : i0 < hs.length) : (chainP hs i0).1.length ≤ hs.length := by
  have main : ∀ f out i, ChainAt hs i0 out i → hs.length + 1 - out.length = f → (chainP hs i0).1.length ≤ hs.length := by
    intro f
    induction f with
    | zero => intro out i h hf; have := h.len; omega
    | succ f ih =>
      intro out i h hf
      by_cases hi : i < 0
      · rw [h.ends hi]; exact h.len
      · by_cases hm : i ∈ out
        · rw [h.back hi hm]; exact h.len
        · exact ih _ _ (h.next hk hi hm) (by rw [List.length_append, List.length_singleton]; have := h.len; omega)
  exact main _ [] i0 (ChainAt.start h0 h1) rfl

set_option maxRecDepth 100000 in
set_option maxHeartbeats 8000000 in
theorem chainN_any (ca pa : Option Addr) (L : List CueR) (A : List (ByteArray × ByteArray)) (cc pc : Nat) (name : ByteArray) (w : World) (hlen : L.length ≤ 1000) (hI : Cues w.heap.size w ca L) (hP : Pairs w.heap.size w pa A) :
    Calls Try.prog 13 #[.agg #[.slice ca L.length cc, .slice pa A.length pc], .string name] w fun e w' => Hid (∃ v, e = .returned (.tuple #[v, .int .i64 (chainNP L A name).2]) ∧ w'.ownsRow w.heap.size 9 1 v (chainNP L A name).1.length (sflat (chainNP L A name).1) ∧ Below w.heap.size w w') := by
  have hb0 : Below w.heap.size w (w.alloc (.cells #[.slice ca L.length cc, .slice pa A.length pc] 25)) := below_new w _
  have HI := Lib.hid (hI.grow hb0)
  have HP := Lib.hid (hP.grow hb0)
  have HX : Hid (∀ wr, Below (w.alloc (.cells #[.slice ca L.length cc, .slice pa A.length pc] 25)).heap.size (w.alloc (.cells #[.slice ca L.length cc, .slice pa A.length pc] 25)) wr → Below w.heap.size w wr ∧ wr.cell? ⟨w.heap.size, 0, none⟩ = some (.slice ca L.length cc) ∧ wr.cell? ⟨w.heap.size, 1, none⟩ = some (.slice pa A.length pc)) := Lib.hid fun wr h => ⟨mono_in _ h, box2 h⟩
  have hz0 : w.heap.size ≤ (w.alloc (.cells #[.slice ca L.length cc, .slice pa A.length pc] 25)).heap.size := hb0.size
  clear hb0 hI hP
  cases hlk : linkedB L A
  · have HLK := Lib.hid hlk
    have HP0 : Hid (chainNP L A name = ([], 1)) := Lib.hid (by unfold chainNP; rw [hlk]; rfl)
    clear hlk
    go_enter Try.func13, Try.ntmps13
    go_wp2_with (go_at_call 48; (with_reducible refine (linked_any _ _ L A _ _ _ (by omega) HI.out HP.out).mono ?_); rintro e w1 ⟨rfl, hb1⟩; rw [HLK.out]; obtain ⟨hB1, z0, z1⟩ := HX.out _ hb1)
    go_ret2
    rw [HP0.out]
    exact Lib.hid ⟨_, rfl, World.ownsRow_nil _ _ _ _, hB1⟩
  · have HLK := Lib.hid hlk
    have HC1 : Hid (chainNP L A name = if findI L name < 0 then ([], 9) else if (chainP (hangs L) (findI L name)).2 then (namesOf L (chainP (hangs L) (findI L name)).1, 0) else ([], 23)) := Lib.hid (by unfold chainNP; rw [hlk]; rfl)
    clear hlk
    obtain ⟨i, hi⟩ : ∃ i, findI L name = i := ⟨_, rfl⟩
    have HF := Lib.hid hi
    rw [hi] at HC1
    by_cases h0 : i < 0
    · have HP0 : Hid (chainNP L A name = ([], 9)) := Lib.hid (by rw [HC1.out, if_pos h0])
      clear hi
      go_enter Try.func13, Try.ntmps13
      go_wp2_with (first
        | (go_at_call 48; (with_reducible refine (linked_any _ _ L A _ _ _ (by omega) HI.out HP.out).mono ?_); rintro e w1 ⟨rfl, hb1⟩; rw [HLK.out]; obtain ⟨hB1, z0, z1⟩ := HX.out _ hb1)
        | (go_at_call 53; (with_reducible refine (find_any _ L _ _ name _ (by omega) (HI.out.grow hb1)).mono ?_); rintro e w2 ⟨rfl, hb2⟩; rw [HF.out]; have hB2 := hb1.trans (hb2.mono hb1.size); obtain ⟨hB2', y0, y1⟩ := HX.out _ hB2))
      go_ret2
      rw [HP0.out]
      exact Lib.hid ⟨_, rfl, World.ownsRow_nil _ _ _ _, hB2'⟩
    · have hil : i < L.length := by
        have := (findI_name L name (by omega)).1
        rw [hi] at this
        omega
      have HK := Lib.hid (hang_ok L)
      have hhl := hangs_len L
      have HIN : Hid (∀ x ∈ (chainP (hangs L) i).1, 0 ≤ x ∧ x < (L.length : Int)) := Lib.hid (by have := chain_in _ HK.out i (by omega) (by rw [hhl]; exact hil); rwa [hhl] at this)
      have hcl : (chainP (hangs L) i).1.length ≤ L.length := by have := chain_len _ HK.out i (by omega) (by rw [hhl]; exact hil); rwa [hhl] at this
      have HC2 : Hid (chainNP L A name = if (chainP (hangs L) i).2 then (namesOf L (chainP (hangs L) i).1, 0) else ([], 23)) := Lib.hid (by rw [HC1.out, if_neg h0])
      obtain ⟨hs, HH⟩ : ∃ hs, Hid (hangs L = hs) := ⟨_, Lib.hid rfl⟩
      rw [HH.out] at HC2 HIN hcl HK
      have hhl2 : hs.length ≤ 1000 := by rw [← HH.out, hhl]; exact hlen
      have hih : i < hs.length := by rw [← HH.out, hhl]; exact hil
      clear hi hhl
      obtain ⟨I, ok, hcp⟩ : ∃ I ok, chainP hs i = (I, ok) := ⟨_, _, rfl⟩
      have HCP := Lib.hid hcp
      rw [hcp] at HC2 HIN hcl
      clear hcp
      have hI2 : I.length ≤ 1000 := by have : I.length ≤ L.length := hcl; omega
      cases ok
      · have HP0 : Hid (chainNP L A name = ([], 23)) := Lib.hid (by rw [HC2.out]; rfl)
        go_enter Try.func13, Try.ntmps13
        go_wp2_with (first
          | (go_at_call 48; (with_reducible refine (linked_any _ _ L A _ _ _ (by omega) HI.out HP.out).mono ?_); rintro e w1 ⟨rfl, hb1⟩; rw [HLK.out]; obtain ⟨hB1, z0, z1⟩ := HX.out _ hb1)
          | (go_at_call 53; (with_reducible refine (find_any _ L _ _ name _ (by omega) (HI.out.grow hb1)).mono ?_); rintro e w2 ⟨rfl, hb2⟩; rw [HF.out]; have hB2 := hb1.trans (hb2.mono hb1.size); obtain ⟨hB2', y0, y1⟩ := HX.out _ hB2)
          | (go_at_call 55; (with_reducible refine (before_any _ _ L A _ _ _ (by omega) (HI.out.grow hB2)).mono ?_); rintro e w3 hx; obtain ⟨v3, rfl, hr3, hb3⟩ := hx.out; rw [HH.out] at hr3; have hB3 := hB2.trans (hb3.mono hB2.size); obtain ⟨hB3', x0, x1⟩ := HX.out _ hB3; obtain ⟨a3, c3, rfl, _, _, _, hn3⟩ := num_of_row hr3; have HN3 := Lib.hid hn3; clear hx hr3 hn3)
          | (go_at_call 54; (with_reducible refine (chain_any _ hs _ i _ hhl2 HN3.out HK.out (by omega) hih).mono ?_); rintro e w4 hx; obtain ⟨v4, rfl, hr4, hb4⟩ := hx.out; rw [HCP.out] at hr4; rw [HCP.out]; have hB4 := hB3.trans (hb4.mono hB3.size); obtain ⟨hB4', t0, t1⟩ := HX.out _ hB4; obtain ⟨a4, c4, rfl, _, _, _, hn4⟩ := num_of_row hr4; have HN4 := Lib.hid hn4; clear hx hr4 hn4))
        go_ret2
        rw [HP0.out]
        exact Lib.hid ⟨_, rfl, World.ownsRow_nil _ _ _ _, hB4'⟩
      · have HP0 : Hid (chainNP L A name = (namesOf L I, 0)) := Lib.hid (by rw [HC2.out]; rfl)
        go_enter Try.func13, Try.ntmps13
        go_wp2_with (first
          | (go_at_call 48; (with_reducible refine (linked_any _ _ L A _ _ _ (by omega) HI.out HP.out).mono ?_); rintro e w1 ⟨rfl, hb1⟩; rw [HLK.out]; obtain ⟨hB1, z0, z1⟩ := HX.out _ hb1)
          | (go_at_call 53; (with_reducible refine (find_any _ L _ _ name _ (by omega) (HI.out.grow hb1)).mono ?_); rintro e w2 ⟨rfl, hb2⟩; rw [HF.out]; have hB2 := hb1.trans (hb2.mono hb1.size); obtain ⟨hB2', y0, y1⟩ := HX.out _ hB2)
          | (go_at_call 55; (with_reducible refine (before_any _ _ L A _ _ _ (by omega) (HI.out.grow hB2)).mono ?_); rintro e w3 hx; obtain ⟨v3, rfl, hr3, hb3⟩ := hx.out; rw [HH.out] at hr3; have hB3 := hB2.trans (hb3.mono hB2.size); obtain ⟨hB3', x0, x1⟩ := HX.out _ hB3; obtain ⟨a3, c3, rfl, _, _, _, hn3⟩ := num_of_row hr3; have HN3 := Lib.hid hn3; clear hx hr3 hn3)
          | (go_at_call 54; (with_reducible refine (chain_any _ hs _ i _ hhl2 HN3.out HK.out (by omega) hih).mono ?_); rintro e w4 hx; obtain ⟨v4, rfl, hr4, hb4⟩ := hx.out; rw [HCP.out] at hr4; rw [HCP.out]; have hB4 := hB3.trans (hb4.mono hB3.size); obtain ⟨hB4', t0, t1⟩ := HX.out _ hB4; obtain ⟨a4, c4, rfl, _, _, _, hn4⟩ := num_of_row hr4; have HN4 := Lib.hid hn4; clear hx hr4 hn4)
          | (go_at_call 56; (with_reducible refine (names_any _ _ _ L A _ _ _ I _ hlen hI2 (HI.out.grow hB4) HN4.out HIN.out).mono ?_); rintro e w5 hx; obtain ⟨v5, rfl, hr5, hb5⟩ := hx.out; clear hx))
        go_ret2
        rw [HP0.out]
        exact Lib.hid ⟨_, rfl, ownsRow_base hr5 (by have := hB4'.size; omega), hB4'.trans (hb5.mono hB4'.size)⟩
end Go.Proofs.Ytapjhjpibefooaa
