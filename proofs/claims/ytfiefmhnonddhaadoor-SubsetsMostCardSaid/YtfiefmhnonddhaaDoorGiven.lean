/-
  THE WALK of subsets.given.
-/
import Derived.Test.YtfiefmhnonddhaaDoorApp
namespace Go.Proofs.YtfiefmhnonddhaaDoor
open Go.RowKit Go.Shelf

def bigB (n : Int) : Bool := decide (n < -1125899906842624) || decide (1125899906842624 < n)
set_option maxHeartbeats 1000000 in
theorem asks_bigB (n₀ : Nat) (w : World) : AsksN 56 #[] n₀ w bigB := by
  intro W r hB
  show Calls _ _ #[numV r] _ _
  unfold numV
  have key : ∀ b1 b2 : Bool, decide (r < -1125899906842624) = b1 → decide (1125899906842624 < r) = b2 → Hid (bigB r = (b1 || b2)) := fun b1 b2 h1 h2 => Lib.hid (by unfold bigB; rw [h1, h2])
  by_cases a1 : r < -1125899906842624
  · have H := key _ _ (decide_eq_true a1) rfl
    clear key
    go_enter Tryd.func56, Tryd.ntmps56
    go_wp2
    go_ret
    exact ⟨ret_bool (by rw [H.out]; simp), Below.refl _ _⟩
  · have H := key _ _ (decide_eq_false a1) rfl
    clear key
    go_enter Tryd.func56, Tryd.ntmps56
    go_wp2
    go_ret
    exact ⟨ret_bool (by rw [H.out]; simp), Below.refl _ _⟩
theorem ent_bigB (args : Array Value) (w : World) : (callFunc 56 args).run Tryd.prog w = .ok (.enter 56 args) w := enters_of Tryd.func56 (by kernel_rfl) rfl args w

/-- What is wrong with places. -/
def givenE (L : List Int) : Int := if 16 < L.length then 6 else if L.any bigB then 1 else 0
theorem given_small {L : List Int} (h : givenE L = 0) : L.length ≤ 16 ∧ ∀ k, k < L.length → -1125899906842624 ≤ ig L k ∧ ig L k ≤ 1125899906842624 := by
  unfold givenE at h
  split at h
  · cases h
  · split at h
    · cases h
    · rename_i h1 h2
      refine ⟨by omega, fun k hk => ?_⟩
      have := List.any_eq_false.1 (Bool.eq_false_iff.2 h2) (ig L k) (by rw [ig_eq L k hk]; exact List.getElem_mem hk)
      unfold bigB at this
      simp at this
      omega
set_option maxHeartbeats 4000000 in
theorem given_any (a : Option Addr) (L : List Int) (cap : Nat) (w : World) (hl : L.length ≤ 1000000) (h : Nums w.heap.size w a L) :
    Calls Tryd.prog 42 #[.slice a L.length cap] w fun e w' => e = .returned (.int .i64 (givenE L)) ∧ Below w.heap.size w w' := by
  have HS := Lib.hid h
  clear h
  by_cases hn : 16 < L.length
  · have HR : Hid (givenE L = 6) := Lib.hid (by unfold givenE; rw [if_pos hn])
    rw [HR.out]
    have hn' : (16 : Int) < L.length := by omega
    go_enter Tryd.func42, Tryd.ntmps42
    go_wp2_with fail
    go_ret
    exact ⟨rfl, Below.refl _ _⟩
  · cases hs : L.any bigB
    · have HR : Hid (givenE L = 0) := Lib.hid (by unfold givenE; rw [if_neg hn, hs]; rfl)
      have HAN : Hid (num_any L bigB = false) := Lib.hid (by rw [num_any_eq]; exact hs)
      rw [HR.out]
      clear hs
      go_enter Tryd.func42, Tryd.ntmps42
      go_wp2_with (go_at_call 36; (with_reducible refine (num_containsFunc _ L _ _ _ _ bigB _ ent_bigB (by omega) (Nat.le_refl _) HS.out (asks_bigB _ _)).mono ?_); rintro e w2 ⟨rfl, hb2⟩; rw [HAN.out])
      go_ret
      exact ⟨rfl, hb2⟩
    · have HR : Hid (givenE L = 1) := Lib.hid (by unfold givenE; rw [if_neg hn, hs]; rfl)
      have HAN : Hid (num_any L bigB = true) := Lib.hid (by rw [num_any_eq]; exact hs)
      rw [HR.out]
      clear hs
      go_enter Tryd.func42, Tryd.ntmps42
      go_wp2_with (go_at_call 36; (with_reducible refine (num_containsFunc _ L _ _ _ _ bigB _ ent_bigB (by omega) (Nat.le_refl _) HS.out (asks_bigB _ _)).mono ?_); rintro e w2 ⟨rfl, hb2⟩; rw [HAN.out])
      go_ret
      exact ⟨rfl, hb2⟩
end Go.Proofs.YtfiefmhnonddhaaDoor
