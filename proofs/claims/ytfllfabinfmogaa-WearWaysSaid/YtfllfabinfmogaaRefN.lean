/-
  THE WALK of the reference's next (layer 46), and what it finds: the next key.
-/
import Derived.Test.YtfllfabinfmogaaRefG
import Derived.Test.YtfllfabinfmogaaRefA
import Derived.BigQuiet
namespace Go.Proofs.Ytfllfabinfmogaa
open Go.RowKit Go.Shelf
def nextOne (x best v : Int) : Int := if x < v ∧ (best < 0 ∨ v < best) then v else best
def nextStep (len x best : Int) (s : Int × Int) : Int := if s.2 < len then nextOne x (nextOne x best s.1) s.2 else nextOne x best s.1
def nextTo (len x : Int) (L : List (Int × Int)) : Nat → Int
  | 0 => -1
  | k + 1 => nextStep len x (nextTo len x L k) (sg L k)
def nextP (len x : Int) (L : List (Int × Int)) : Int := nextTo len x L L.length
/-- What best is after some ends: the least one of those behind x. -/
def NextInv (x best : Int) (M : List Int) : Prop := (best = -1 ∧ ∀ z ∈ M, ¬ x < z) ∨ (x < best ∧ best ∈ M ∧ ∀ z ∈ M, x < z → best ≤ z)
theorem nextOne_inv {x best v : Int} {M : List Int} (hx : 0 ≤ x) (h : NextInv x best M) : NextInv x (nextOne x best v) (M ++ [v]) := by
  unfold nextOne
  rcases h with ⟨rfl, h⟩ | ⟨h1, h2, h3⟩
  · by_cases q : x < v
    · rw [if_pos ⟨q, Or.inl (by omega)⟩]
      refine Or.inr ⟨q, by simp, fun z hz hxz => ?_⟩
      rcases List.mem_append.1 hz with e | e
      · exact absurd hxz (h z e)
      · obtain rfl : z = v := by simpa using e
        omega
    · rw [if_neg (fun e => q e.1)]
      refine Or.inl ⟨rfl, fun z hz => ?_⟩
      rcases List.mem_append.1 hz with e | e
      · exact h z e
      · obtain rfl : z = v := by simpa using e
        exact q
  · by_cases q : x < v ∧ (best < 0 ∨ v < best)
    · rw [if_pos q]
      refine Or.inr ⟨q.1, by simp, fun z hz hxz => ?_⟩
      rcases List.mem_append.1 hz with e | e
      · have := h3 z e hxz; omega
      · obtain rfl : z = v := by simpa using e
        omega
    · rw [if_neg q]
      refine Or.inr ⟨h1, List.mem_append_left _ h2, fun z hz hxz => ?_⟩
      rcases List.mem_append.1 hz with e | e
      · exact h3 z e hxz
      · obtain rfl : z = v := by simpa using e
        omega
def endsL (len : Int) (L : List (Int × Int)) : List Int := L.flatMap fun s => if s.2 < len then [s.1, s.2] else [s.1]
theorem endsL_snoc (len : Int) (L : List (Int × Int)) (s : Int × Int) : endsL len (L ++ [s]) = endsL len L ++ (if s.2 < len then [s.1, s.2] else [s.1]) := by simp [endsL]
theorem next_inv (len x : Int) (L : List (Int × Int)) (hx : 0 ≤ x) : ∀ k, k ≤ L.length → NextInv x (nextTo len x L k) (endsL len (L.take k)) := by
  intro k
  induction k with
  | zero => exact fun _ => Or.inl ⟨rfl, fun z hz => by cases hz⟩
  | succ k ih =>
    intro hk
    have h := ih (by omega)
    have e : L.take (k + 1) = L.take k ++ [sg L k] := by rw [sg_at (by omega)]; exact List.take_succ_eq_append_getElem (by omega)
    rw [e, endsL_snoc]
    show NextInv x (nextStep len x (nextTo len x L k) (sg L k)) _
    unfold nextStep
    split
    · have := nextOne_inv (v := (sg L k).2) hx (nextOne_inv (v := (sg L k).1) hx h)
      rwa [List.append_assoc] at this
    · exact nextOne_inv hx h
theorem ends_keys {len : Int} {L : List (Int × Int)} (ok : SpansOK len L) (x z : Int) (hx : 0 ≤ x) (hz : x < z) : z ∈ endsL len L ↔ z ∈ keysP len L := by
  rw [keysP_mem]
  unfold endsL
  rw [List.mem_flatMap]
  constructor
  · rintro ⟨s, hs, hm⟩
    obtain ⟨o1, o2, o3⟩ := ok s hs
    split at hm
    · simp at hm
      rcases hm with rfl | rfl
      · exact ⟨Or.inr ⟨s, hs, Or.inl rfl⟩, by omega⟩
      · exact ⟨Or.inr ⟨s, hs, Or.inr rfl⟩, by omega⟩
    · obtain rfl : z = s.1 := by simpa using hm
      exact ⟨Or.inr ⟨s, hs, Or.inl rfl⟩, by omega⟩
  · rintro ⟨h | ⟨s, hs, h⟩, hl⟩
    · omega
    · refine ⟨s, hs, ?_⟩
      rcases h with rfl | rfl
      · split <;> simp
      · rw [if_pos hl]; simp
/-- The key at an index; -1 behind the last one. -/
def keyAt (K : List Int) (k : Nat) : Int := if k < K.length then ig K k else -1
theorem ig_mem {K : List Int} {k : Nat} (h : k < K.length) : ig K k ∈ K := by rw [ig_eq K k h]; exact List.getElem_mem h
theorem next_key {len : Int} {L : List (Int × Int)} (ok : SpansOK len L) (k : Nat) (hk : k < (keysP len L).length) (h0 : 0 ≤ ig (keysP len L) k) : nextP len (ig (keysP len L) k) L = keyAt (keysP len L) (k + 1) := by
  have hK := keysP_incr len L
  have h := next_inv len (ig (keysP len L) k) L h0 L.length (Nat.le_refl _)
  rw [List.take_length] at h
  have hE := fun z hz => ends_keys ok (ig (keysP len L) k) z h0 hz
  show nextTo len _ L L.length = _
  generalize nextTo len (ig (keysP len L) k) L L.length = b at *
  generalize keysP len L = K at *
  unfold keyAt
  by_cases q : k + 1 < K.length
  · rw [if_pos q]
    have hlt := ig_lt hK (show k < k + 1 by omega) q
    have hm := (hE _ hlt).2 (ig_mem q)
    rcases h with ⟨_, h⟩ | ⟨h1, h2, h3⟩
    · exact absurd hlt (h _ hm)
    · have h4 := h3 _ hm hlt
      have h5 := (hE _ h1).1 h2
      obtain ⟨j, hj, rfl⟩ := List.mem_iff_getElem.1 h5
      rw [← ig_eq K j hj] at h1 h4 ⊢
      have hkj : k < j := by
        rcases Nat.lt_or_ge k j with l | l
        · exact l
        · rcases Nat.lt_or_ge j k with l2 | l2
          · have := ig_lt hK l2 hk; omega
          · obtain rfl : j = k := by omega
            omega
      rcases Nat.lt_or_ge (k + 1) j with l | l
      · have := ig_lt hK l hj; omega
      · obtain rfl : j = k + 1 := by omega
        rfl
  · rw [if_neg q]
    rcases h with ⟨h, _⟩ | ⟨h1, h2, _⟩
    · exact h
    · have h5 := (hE _ h1).1 h2
      obtain ⟨j, hj, rfl⟩ := List.mem_iff_getElem.1 h5
      rw [← ig_eq K j hj] at h1
      rcases Nat.lt_or_ge j k with l2 | l2
      · have := ig_lt hK l2 hk; omega
      · obtain rfl : j = k := by omega
        omega
theorem nextOne_hit {x best v : Int} (h1 : x < v) (h2 : best < 0 ∨ v < best) : nextOne x best v = v := if_pos ⟨h1, h2⟩
theorem nextOne_no {x best v : Int} (h1 : ¬ x < v) : nextOne x best v = best := if_neg fun e => h1 e.1
theorem nextOne_no2 {x best v : Int} (h1 : ¬ best < 0) (h2 : ¬ v < best) : nextOne x best v = best := if_neg fun e => e.2.elim h1 h2
set_option maxHeartbeats 16000000 in
theorem refnext_any (len : Int) (a : Option Addr) (L : List (Int × Int)) (cap : Nat) (x : Int) (n₀ : Nat) (w : World) (hl : L.length ≤ 1000000) (h : Spans n₀ w a L) :
    Calls Try.prog 35 #[.int .i64 len, .slice a L.length cap, .int .i64 x] w fun e w' => e = .returned (.int .i64 (nextP len x L)) ∧ w = w' := by
  have HU := Lib.hid h
  clear h
  have HF : Hid (nextTo len x L L.length = nextP len x L) := Lib.hid rfl
  go_enter Try.func35, Try.ntmps35
  go_wp2
  go_loop [7, 8] (fun s i => ∃ k : Nat, k ≤ L.length ∧ i = .int .i64 k ∧ s = .int .i64 (nextTo len x L k)) (fun _ i => L.length - (intOf i).toNat)
  case atStart => exact ⟨0, Nat.zero_le _, rfl, rfl⟩
  case round =>
    obtain ⟨k, hk, rfl, rfl⟩ := hrel
    by_cases hlt : k < L.length
    · obtain ⟨b, off, rfl, hb, hc⟩ := HU.out (by omega)
      obtain ⟨c0, c1⟩ := hc k hlt
      have HT : Hid (nextTo len x L (k + 1) = nextStep len x (nextTo len x L k) (sg L k)) := Lib.hid rfl
      clear hc
      generalize nextTo len x L k = best at *
      generalize sg L k = s at *
      obtain ⟨lo, hi⟩ := s
      simp only at c0 c1
      have HU2 := HU
      clear hb
      go_wp2
      all_goals go_round
      all_goals first
        | (refine ⟨k + 1, by omega, by go_num, ?_⟩; rw [HT.out]; refine congrArg (Value.int .i64) ?_; clear HT; unfold nextStep nextOne; simp only []; (repeat' split) <;> omega)
        | (simp [intOf]; omega)
    · obtain rfl : k = L.length := by omega
      go_wp2
      go_ret
      exact ⟨ret_int HF.out, rfl⟩
end Go.Proofs.Ytfllfabinfmogaa
