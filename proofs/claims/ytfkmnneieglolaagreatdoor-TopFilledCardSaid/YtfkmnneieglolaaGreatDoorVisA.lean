/-
  The closure visit at whatever choice (bricks: first): by induction on the kinds that are left.
-/
import Derived.Test.YtfkmnneieglolaaGreatDoorVisN
namespace Go.Proofs.YtfkmnneieglolaaGreatDoor
open Go.RowKit Go.Shelf
theorem visit_any {B Bs : Nat} {low high : Int} (a : Option Addr) (L : List BrickR) (cap : Nat) (hl : L.length ≤ 8) (hok : BrickOK L) :
    ∀ (d k : Nat) (pre : List Int) (s n : Int) (st : St) (w : World), k + d = L.length → pre.length = k → 0 ≤ s → s + restC (L.drop k) ≤ 503316480 → 0 ≤ n → n + 60 * d ≤ 480 →
      VisS B w Bs low high L.length pre st → SearchAt B w Bs a L cap → Bricks B w a L →
      Calls Tryz.prog 100 #[.slice (some ⟨B + 7, 0, none⟩) k L.length, .int .i64 s, .int .i64 n, .pointer (some ⟨B + 5, 0, none⟩), .pointer (some ⟨B + 4, 0, none⟩), .pointer (some ⟨B + 2, 0, none⟩), .pointer (some ⟨B, 0, none⟩), .pointer (some ⟨B + 1, 0, none⟩), .pointer (some ⟨B + 3, 0, none⟩), .pointer (some ⟨B + 6, 0, none⟩)] w fun e w' => e = .returned (.tuple #[]) ∧ VisS B w' Bs low high L.length pre (visitF low high (L.drop k) pre s n st) ∧ Below B w w' := by
  intro d
  induction d with
  | zero =>
    intro k pre s n st w hk hp hs0 hs1 hn0 hn1 hV hS hB
    obtain rfl : k = L.length := by omega
    have e0 : L.drop L.length = [] := List.drop_length
    have hz : restC (L.drop L.length) = 0 := by rw [e0]; rfl
    by_cases c : (∃ b m, st = some (b, m) ∧ m ≤ n) ∨ high < s ∨ s + restC (L.drop L.length) < low
    · have hF : visitF low high (L.drop L.length) pre s n st = st := by
        rcases c with ⟨b, m, rfl, h⟩ | h | h
        · exact visit_many _ _ _ _ _ _ _ _ h
        · exact visit_high _ _ _ _ _ _ _ (fun x hx => hok x (List.mem_of_mem_drop hx)) h
        · exact visit_low _ _ _ _ _ _ _ (fun x hx => hok x (List.mem_of_mem_drop hx)) h
      rw [hF]
      refine (visit_skip a L cap L.length pre s n st w (Nat.le_refl _) ⟨hs0, hs1⟩ (by omega) hV hS c).mono ?_
      rintro e w' ⟨rfl, m, rfl⟩
      exact ⟨rfl, hV.drewN m, below_drewN (Below.refl _ _) m⟩
    · have h1 : ∀ b m, st = some (b, m) → n < m := fun b m e => by
        rcases Int.lt_or_le n m with h | h
        · exact h
        · exact absurd (Or.inl ⟨b, m, e, h⟩) c
      have h2 : s ≤ high := by
        rcases Int.lt_or_le high s with h | h
        · exact absurd (Or.inr (Or.inl h)) c
        · exact h
      have h3 : low ≤ s := by
        rcases Int.lt_or_le (s + restC (L.drop L.length)) low with h | h
        · exact absurd (Or.inr (Or.inr h)) c
        · omega
      have hF : visitF low high (L.drop L.length) pre s n st = some (pre, n) := by
        rw [e0]
        unfold visitF stepF
        rw [if_pos (by unfold winB; simp; omega)]
        cases st with
        | none => rfl
        | some p =>
          obtain ⟨b, m⟩ := p
          simp only []
          rw [if_pos (h1 b m rfl)]
      rw [hF]
      exact visit_leaf a L cap pre s n st w hl hp ⟨hs0, by omega⟩ hV hS h1 h2 h3
  | succ d ih =>
    intro k pre s n st w hk hp hs0 hs1 hn0 hn1 hV hS hB
    have hr : 0 ≤ restC (L.drop k) := (rest_bd (fun x hx => hok x (List.mem_of_mem_drop hx) : BrickOK (L.drop k))).1
    by_cases c : (∃ b m, st = some (b, m) ∧ m ≤ n) ∨ high < s ∨ s + restC (L.drop k) < low
    · have hF : visitF low high (L.drop k) pre s n st = st := by
        rcases c with ⟨b, m, rfl, h⟩ | h | h
        · exact visit_many _ _ _ _ _ _ _ _ h
        · exact visit_high _ _ _ _ _ _ _ (fun x hx => hok x (List.mem_of_mem_drop hx)) h
        · exact visit_low _ _ _ _ _ _ _ (fun x hx => hok x (List.mem_of_mem_drop hx)) h
      rw [hF]
      refine (visit_skip a L cap k pre s n st w (by omega) ⟨hs0, hs1⟩ hr hV hS c).mono ?_
      rintro e w' ⟨rfl, m, rfl⟩
      exact ⟨rfl, hV.drewN m, below_drewN (Below.refl _ _) m⟩
    · have h1 : ∀ b m, st = some (b, m) → n < m := fun b m e => by
        rcases Int.lt_or_le n m with h | h
        · exact h
        · exact absurd (Or.inl ⟨b, m, e, h⟩) c
      have h2 : s ≤ high := by
        rcases Int.lt_or_le high s with h | h
        · exact absurd (Or.inr (Or.inl h)) c
        · exact h
      have h3 : low ≤ s + restC (L.drop k) := by
        rcases Int.lt_or_le (s + restC (L.drop k)) low with h | h
        · exact absurd (Or.inr (Or.inr h)) c
        · exact h
      have hlt : k < L.length := by omega
      obtain ⟨w1, w2, c1, c2⟩ := ok_bg hok hlt
      have hd := restC_drop hlt
      refine visit_node a L cap k pre s n st w hl hlt hp hok ⟨hs0, hs1⟩ ⟨hn0, by omega⟩ hr hV hS hB h1 h2 h3 fun x st' w' hx hV' hS' hB' => ?_
      have m1 : (x : Int) * (bg L k).weight ≤ (bg L k).count * (bg L k).weight := Int.mul_le_mul_of_nonneg_right hx (by omega)
      have m2 : 0 ≤ (x : Int) * (bg L k).weight := Int.mul_nonneg (by omega) (by omega)
      have m3 : (bg L k).weight * (bg L k).count = (bg L k).count * (bg L k).weight := Int.mul_comm _ _
      exact ih (k + 1) (pre ++ [(x : Int)]) (s + x * (bg L k).weight) (n + x) st' w' (by omega) (by simp [hp]) (by omega) (by omega) (by omega) (by omega) hV' hS' hB'
end Go.Proofs.YtfkmnneieglolaaGreatDoor
