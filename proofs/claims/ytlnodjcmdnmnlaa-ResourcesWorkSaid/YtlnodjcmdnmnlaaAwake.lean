/-
  THE WALK of awake: the chapter's example holds.
-/
import Derived.Test.YtlnodjcmdnmnlaaProfile
import Derived.Test.YtlnodjcmdnmnlaaPeak
import Derived.Outline
namespace Go.Proofs.Ytlnodjcmdnmnlaa
open Go.RowKit Go.Shelf

def T42 : List TaskR := [⟨⟨#[]⟩, 4, 2, 0, none, 0, 0⟩, ⟨⟨#[]⟩, 3, 1, 0, none, 0, 0⟩]
def O42 : List (Int × Int) := [(0, 2), (2, 3), (4, 1), (5, 0)]
theorem profE42 : profE T42 [0, 2] = 0 := by decide +kernel
theorem lt_ext : ∀ l1 l2 : List Int, l1.Pairwise (· < ·) → l2.Pairwise (· < ·) → (∀ x, x ∈ l1 ↔ x ∈ l2) → l1 = l2
  | [], [], _, _, _ => rfl
  | [], y :: s, _, _, h => absurd ((h y).2 List.mem_cons_self) (by simp)
  | x :: r, [], _, _, h => absurd ((h x).1 List.mem_cons_self) (by simp)
  | x :: r, y :: s, h1, h2, h => by
    rw [List.pairwise_cons] at h1 h2
    have e : x = y := by
      rcases List.mem_cons.1 ((h x).1 List.mem_cons_self) with e | e
      · exact e
      · rcases List.mem_cons.1 ((h y).2 List.mem_cons_self) with e2 | e2
        · exact e2.symm
        · have a := h2.1 x e
          have b := h1.1 y e2
          omega
    subst e
    rw [lt_ext r s h1.2 h2.2 fun z => ?_]
    constructor
    · intro hz
      rcases List.mem_cons.1 ((h z).1 (List.mem_cons_of_mem _ hz)) with e | e
      · have := h1.1 z hz; omega
      · exact e
    · intro hz
      rcases List.mem_cons.1 ((h z).2 (List.mem_cons_of_mem _ hz)) with e | e
      · have := h2.1 z hz; omega
      · exact e
theorem times_eq {U : UseL} {T : List Int} (hs : T.Pairwise (· < ·)) (hm : ∀ x, x ∈ T ↔ x ∈ endsTo U U.length) : timesP U = T :=
  lt_ext _ _ (times_lt U) hs fun x => ((compact_sort _).2 x).trans (hm x).symm
theorem prof42 : profL TaskR.crew T42 [0, 2] = O42 ∧ profL TaskR.power T42 [0, 2] = [(0, 0)] := by
  have e1 : timesP (usesTo TaskR.crew T42 [0, 2] 2) = [0, 2, 4, 5] := times_eq (by decide) fun x => by
    rw [show endsTo (usesTo TaskR.crew T42 [0, 2] 2) (usesTo TaskR.crew T42 [0, 2] 2).length = [0, 0, 4, 2, 5] by decide]
    simp; omega
  have e2 : timesP (usesTo TaskR.power T42 [0, 2] 2) = [0, 2, 4, 5] := times_eq (by decide) fun x => by
    rw [show endsTo (usesTo TaskR.power T42 [0, 2] 2) (usesTo TaskR.power T42 [0, 2] 2).length = [0, 0, 4, 2, 5] by decide]
    simp; omega
  unfold profL
  rw [profE42, if_pos rfl, if_pos rfl]
  show stepsP (usesTo TaskR.crew T42 [0, 2] 2) = _ ∧ stepsP (usesTo TaskR.power T42 [0, 2] 2) = _
  unfold stepsP
  rw [e1, e2]
  decide
theorem peak42 : peakP O42 = (3, 2, 0) := by decide +kernel
theorem work42 : tasksB T42 = true ∧ workTo TaskR.crew T42 2 = 11 ∧ workTo TaskR.power T42 2 = 0 := by decide +kernel
theorem tasks_new (w : World) (n : Nat) (L : List TaskR) (h : n = L.length) (hl : n ≤ 1000) : Tasks (w.alloc (.cells (tflat L).toArray 45)).heap.size (w.alloc (.cells (tflat L).toArray 45)) (some ⟨w.heap.size, 0, none⟩) L := by
  subst h
  obtain ⟨a, cap, e, _, _, _, hc⟩ := task_of_row (World.ownsRow_lit (base := 0) (e := 45) (size := 5) w (tflat L).toArray L.length (Nat.zero_le _) (by unfold maxLen; omega) (by simp [task_len]))
  cases e
  exact hc
theorem nums_new (w : World) (n : Nat) (L : List Int) (h : n = L.length) (hl : n ≤ 1000) : Nums (w.alloc (.cells (nflat L).toArray 3)).heap.size (w.alloc (.cells (nflat L).toArray 3)) (some ⟨w.heap.size, 0, none⟩) L := by
  subst h
  obtain ⟨a, cap, e, _, _, _, hc⟩ := num_of_row (World.ownsRow_lit (base := 0) (e := 3) (size := 1) w (nflat L).toArray L.length (Nat.zero_le _) (by unfold maxLen; omega) (by simp [num_len]))
  cases e
  exact hc
theorem loads_new (w : World) (n : Nat) (L : List (Int × Int)) (h : n = L.length) (hl : n ≤ 1000) : Loads (w.alloc (.cells (oflat L).toArray 39)).heap.size (w.alloc (.cells (oflat L).toArray 39)) (some ⟨w.heap.size, 0, none⟩) L := by
  subst h
  obtain ⟨a, cap, e, _, _, _, hc⟩ := load_of_row (World.ownsRow_lit (base := 0) (e := 39) (size := 2) w (oflat L).toArray L.length (Nat.zero_le _) (by unfold maxLen; omega) (by simp [load_len]))
  cases e
  exact hc
theorem profile_ex (a sa : Option Addr) (w : World) (hL : Tasks w.heap.size w a T42) (hS : Nums w.heap.size w sa [0, 2]) :
    Calls Try.prog 9 #[.slice a 2 2, .slice sa 2 2] w fun e w' => Hid (∃ a1 c1 a2 c2, e = .returned (.tuple #[.slice a1 4 c1, .slice a2 1 c2, .int .i64 0]) ∧ Loads w'.heap.size w' a1 O42 ∧ Loads w'.heap.size w' a2 [(0, 0)]) ∧ Below w.heap.size w w' :=
  (profile_any a sa T42 [0, 2] 2 2 w (by decide) (by decide) hL hS).mono fun e w' h => by
    obtain ⟨v, u, he, h1, h2, hb⟩ := h.out
    rw [profE42] at he
    rw [prof42.1] at h1
    rw [prof42.2] at h2
    obtain ⟨a1, c1, rfl, _, _, _, f1⟩ := load_of_row h1
    obtain ⟨a2, c2, rfl, _, _, _, f2⟩ := load_of_row h2
    exact ⟨Lib.hid ⟨a1, c1, a2, c2, he, f1, f2⟩, hb⟩
theorem peak_ex (a : Option Addr) (w : World) (hL : Loads w.heap.size w a O42) :
    Calls Try.prog 20 #[.slice a 4 4] w fun e w' => e = .returned (.tuple #[.int .i64 3, .int .i64 2, .int .i64 0]) ∧ Below w.heap.size w w' :=
  (peak_any a O42 4 w (by decide) hL).mono fun e w' h => by rw [peak42] at h; exact h
theorem energy_ex (a : Option Addr) (w : World) (hL : Tasks w.heap.size w a T42) :
    Calls Try.prog 10 #[.slice a 2 2] w fun e w' => e = .returned (.tuple #[.int .i64 11, .int .i64 0, .int .i64 0]) ∧ Below w.heap.size w w' :=
  (energy_any a T42 2 w (by decide) hL).mono fun e w' h => by
    obtain ⟨h1, h2⟩ := h.out
    rw [work42.1, if_pos rfl, show T42.length = 2 from rfl, work42.2.1, work42.2.2] at h1
    exact ⟨h1, h2⟩
theorem equal_ex (a1 a2 : Option Addr) (F : List (Int × Int)) (n c1 c2 : Nat) (w : World) (hn : n = F.length) (hl : F.length ≤ 1100) (h1 : Loads w.heap.size w a1 F) (h2 : Loads w.heap.size w a2 F) :
    Calls Try.prog 15 #[.slice a1 n c1, .slice a2 n c2] w fun e w' => e = .returned (.bool true) ∧ Below w.heap.size w w' := by
  subst hn
  exact (load_equal a1 a2 F F c1 c2 w hl h1 h2 hl).mono fun e w' h => by rw [decide_eq_true rfl] at h; exact h
set_option maxRecDepth 100000 in
set_option maxHeartbeats 8000000 in
theorem awake_any (w : World) : Calls Try.prog 8 #[] w fun e w' => e = .returned (.bool true) ∧ Below w.heap.size w w' := by
  have HT : Hid (∀ w : World, Tasks (w.alloc (.cells #[.string ⟨#[]⟩, .int .i64 4, .int .i64 2, .int .i64 0, .slice none 0 0, .string ⟨#[]⟩, .int .i64 3, .int .i64 1, .int .i64 0, .slice none 0 0] 45)).heap.size (w.alloc (.cells #[.string ⟨#[]⟩, .int .i64 4, .int .i64 2, .int .i64 0, .slice none 0 0, .string ⟨#[]⟩, .int .i64 3, .int .i64 1, .int .i64 0, .slice none 0 0] 45)) (some ⟨w.heap.size, 0, none⟩) T42) := Lib.hid fun w => tasks_new w 2 T42 rfl (by decide)
  have HN : Hid (∀ w : World, Nums (w.alloc (.cells #[.int .i64 0, .int .i64 2] 3)).heap.size (w.alloc (.cells #[.int .i64 0, .int .i64 2] 3)) (some ⟨w.heap.size, 0, none⟩) [0, 2]) := Lib.hid fun w => nums_new w 2 [0, 2] rfl (by decide)
  have HO : Hid (∀ w : World, Loads (w.alloc (.cells #[.int .i64 0, .int .i64 2, .int .i64 2, .int .i64 3, .int .i64 4, .int .i64 1, .int .i64 5, .int .i64 0] 39)).heap.size (w.alloc (.cells #[.int .i64 0, .int .i64 2, .int .i64 2, .int .i64 3, .int .i64 4, .int .i64 1, .int .i64 5, .int .i64 0] 39)) (some ⟨w.heap.size, 0, none⟩) O42) := Lib.hid fun w => loads_new w 4 O42 rfl (by decide)
  have HO1 : Hid (∀ w : World, Loads (w.alloc (.cells #[.int .i64 0, .int .i64 0] 39)).heap.size (w.alloc (.cells #[.int .i64 0, .int .i64 0] 39)) (some ⟨w.heap.size, 0, none⟩) [(0, 0)]) := Lib.hid fun w => loads_new w 1 [(0, 0)] rfl (by decide)
  go_enter Try.func8, Try.ntmps8
  go_wp2_with fail
  have HA := Lib.hid (HT.out w)
  have hb0 : Below w.heap.size w (w.alloc (.cells #[.string ⟨#[]⟩, .int .i64 4, .int .i64 2, .int .i64 0, .slice none 0 0, .string ⟨#[]⟩, .int .i64 3, .int .i64 1, .int .i64 0, .slice none 0 0] 45)) := below_new w _
  have hz : (w.alloc (.cells #[.string ⟨#[]⟩, .int .i64 4, .int .i64 2, .int .i64 0, .slice none 0 0, .string ⟨#[]⟩, .int .i64 3, .int .i64 1, .int .i64 0, .slice none 0 0] 45)).heap.size = w.heap.size + 1 := by simp
  generalize hw : w.alloc (.cells #[.string ⟨#[]⟩, .int .i64 4, .int .i64 2, .int .i64 0, .slice none 0 0, .string ⟨#[]⟩, .int .i64 3, .int .i64 1, .int .i64 0, .slice none 0 0] 45) = w0 at *
  clear hw HT
  have hn := HN.out w0
  rw [hz] at hn
  have HN1 := Lib.hid hn
  clear hn hz
  go_wp2_with (first
    | (go_at_call 9; (with_reducible refine (profile_ex _ _ _ (HA.out.grow (below_new _ _)) HN1.out).mono ?_); rintro e w1 ⟨hx, hb1⟩; obtain ⟨a1, c1, a2, c2, rfl, f1, f2⟩ := hx.out; have HF1 := Lib.hid f1; have HF2 := Lib.hid f2; have hB1 : Below w.heap.size w w1 := hb0.trans ((mono_in _ hb1).mono hb0.size); have HA1 := Lib.hid (HA.out.grow (mono_in _ hb1)); clear hx f1 f2)
    | (go_at_call 20; (with_reducible refine (peak_ex _ _ (HO.out _)).mono ?_); rintro e w2 ⟨rfl, hb2⟩; have hC2 := mono_in _ hb2; have hB2 : Below w.heap.size w w2 := hB1.trans (hC2.mono hB1.size))
    | (go_at_call 10; (with_reducible refine (energy_ex _ _ (HA1.out.grow hC2)).mono ?_); rintro e w3 ⟨rfl, hb3⟩; have hB3 : Below w.heap.size w w3 := hB2.trans (hb3.mono hB2.size); have HF13 := Lib.hid ((HF1.out.grow hC2).grow hb3); have HF23 := Lib.hid ((HF2.out.grow hC2).grow hb3))
    | (go_at_call 15; (with_reducible refine (equal_ex _ _ O42 4 _ _ _ rfl (by decide) (HF13.out.grow (below_new _ _)) (HO.out _)).mono ?_); rintro e w4 ⟨rfl, hb4⟩; have hC4 := mono_in _ hb4; have hB4 : Below w.heap.size w w4 := hB3.trans (hC4.mono hB3.size); have HF24 := Lib.hid (HF23.out.grow hC4))
    | (go_at_call 15; (with_reducible refine (equal_ex _ _ [(0, 0)] 1 _ _ _ rfl (by decide) (HF24.out.grow (below_new _ _)) (HO1.out _)).mono ?_); rintro e w5 ⟨rfl, hb5⟩; have hB5 : Below w.heap.size w w5 := hB4.trans ((mono_in _ hb5).mono hB4.size)))
  go_ret
  exact ⟨rfl, hB5⟩

end Go.Proofs.Ytlnodjcmdnmnlaa
