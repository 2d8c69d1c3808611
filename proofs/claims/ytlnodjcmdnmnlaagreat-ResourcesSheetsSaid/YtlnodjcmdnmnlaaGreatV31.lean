/-
  THE WALK of awake: the chapter's example holds.
-/
import Derived.Test.YtlnodjcmdnmnlaaGreatV30
namespace Go.Proofs.YtlnodjcmdnmnlaaGreat
set_option maxRecDepth 100000
set_option maxHeartbeats 80000000
section
open Go.RowKit Go.Shelf
def T42 : List TaskR := [⟨⟨#[]⟩, 4, 2, 0, none, 0, 0⟩, ⟨⟨#[]⟩, 3, 1, 0, none, 0, 0⟩]
def O42 : List (Int × Int) := [(0, 2), (2, 3), (4, 1), (5, 0)]
theorem profE42 : profE T42 [0, 2] = 0 := by decide +kernel
theorem lt_ext : ∀ l1 l2 : List Int, l1.Pairwise (· < ·) → l2.Pairwise (· < ·) → (∀ x, x ∈ l1 ↔ x ∈ l2) → l1 = l2
 | [], [], _, _, _ => rfl
 | [], y :: s, _, _, h => absurd ((h y).2 List.mem_cons_self) (by simp)
 | x :: r, [], _, _, h => absurd ((h x).1 List.mem_cons_self) (by simp)
 | x :: r, y :: s, h1, h2, h => by
  rw [List.pairwise_cons] at h1 h2
  have e : x = y := by
   rcases List.mem_cons.1 ((h x).1 List.mem_cons_self) with e | e
   ·exact e
   ·rcases List.mem_cons.1 ((h y).2 List.mem_cons_self) with e2 | e2
    ·exact e2.symm
    ·have a := h2.1 x e
     have b := h1.1 y e2;omega
  subst e;rw [lt_ext r s h1.2 h2.2 fun z => ?_]
  constructor
  ·intro hz
   rcases List.mem_cons.1 ((h z).1 (List.mem_cons_of_mem _ hz)) with e | e
   ·have := h1.1 z hz; omega
   ·exact e
  ·intro hz
   rcases List.mem_cons.1 ((h z).2 (List.mem_cons_of_mem _ hz)) with e | e
   ·have := h2.1 z hz; omega
   ·exact e
theorem times_eq {U : UseL} {T : List Int} (hs : T.Pairwise (· < ·)) (hm : ∀ x, x ∈ T ↔ x ∈ endsTo U U.length) : timesP U = T :=
 lt_ext _ _ (times_lt U) hs fun x => ((compact_sort _).2 x).trans (hm x).symm
theorem prof42 : profL TaskR.crew T42 [0, 2] = O42 ∧ profL TaskR.power T42 [0, 2] = [(0, 0)] := by
 have e1 : timesP (usesTo TaskR.crew T42 [0, 2] 2) = [0, 2, 4, 5] := times_eq (by decide) fun x => by
  rw [show endsTo (usesTo TaskR.crew T42 [0, 2] 2) (usesTo TaskR.crew T42 [0, 2] 2).length = [0, 0, 4, 2, 5] by decide]
  simp; omega
 have e2 : timesP (usesTo TaskR.power T42 [0, 2] 2) = [0, 2, 4, 5] := times_eq (by decide) fun x => by
  rw [show endsTo (usesTo TaskR.power T42 [0, 2] 2) (usesTo TaskR.power T42 [0, 2] 2).length = [0, 0, 4, 2, 5] by decide]
  simp; omega
 unfold profL;rw [profE42, if_pos rfl, if_pos rfl];show stepsP (usesTo TaskR.crew T42 [0, 2] 2) = _ ∧ stepsP (usesTo TaskR.power T42 [0, 2] 2) = _;unfold stepsP;rw [e1, e2]
 decide
theorem peak42 : peakP O42 = (3, 2, 0) := by decide +kernel
theorem work42 : tasksB T42 = true ∧ workTo TaskR.crew T42 2 = 11 ∧ workTo TaskR.power T42 2 = 0 := by decide +kernel
theorem tasks_new (w : World) (n : Nat) (L : List TaskR) (h : n = L.length) (hl : n ≤ 1000) : Tasks (w.alloc (.cells (tkflat L).toArray 54)).heap.size (w.alloc (.cells (tkflat L).toArray 54)) (some ⟨w.heap.size, 0, none⟩) L := by
 subst h;obtain ⟨a, cap, e, _, _, _, hc⟩ := task_of_row (World.ownsRow_lit (base := 0) (e := 54) (size := 5) w (tkflat L).toArray L.length (Nat.zero_le _) (by unfold maxLen; omega) (by simp [task_len]))
 cases e
 exact hc
theorem nums_new (w : World) (n : Nat) (L : List Int) (h : n = L.length) (hl : n ≤ 1000) : Nums (w.alloc (.cells (nflat L).toArray 3)).heap.size (w.alloc (.cells (nflat L).toArray 3)) (some ⟨w.heap.size, 0, none⟩) L := by
 subst h;obtain ⟨a, cap, e, _, _, _, hc⟩ := num_of_row (World.ownsRow_lit (base := 0) (e := 3) (size := 1) w (nflat L).toArray L.length (Nat.zero_le _) (by unfold maxLen; omega) (by simp [num_len]))
 cases e
 exact hc
theorem loads_new (w : World) (n : Nat) (L : List (Int × Int)) (h : n = L.length) (hl : n ≤ 1000) : Loads (w.alloc (.cells (oflat L).toArray 41)).heap.size (w.alloc (.cells (oflat L).toArray 41)) (some ⟨w.heap.size, 0, none⟩) L := by
 subst h;obtain ⟨a, cap, e, _, _, _, hc⟩ := load_of_row (World.ownsRow_lit (base := 0) (e := 41) (size := 2) w (oflat L).toArray L.length (Nat.zero_le _) (by unfold maxLen; omega) (by simp [load_len]))
 cases e
 exact hc
theorem profile_ex (a sa : Option Addr) (w : World) (hL : Tasks w.heap.size w a T42) (hS : Nums w.heap.size w sa [0, 2]) :
  Calls Tryz.prog 15 #[.slice a 2 2, .slice sa 2 2] w fun e w' => Hid (∃ a1 c1 a2 c2, e = .returned (.tuple #[.slice a1 4 c1, .slice a2 1 c2, .int .i64 0]) ∧ Loads w'.heap.size w' a1 O42 ∧ Loads w'.heap.size w' a2 [(0, 0)]) ∧ Below w.heap.size w w' :=
 (profile_any a sa T42 [0, 2] 2 2 w (by decide) (by decide) hL hS).mono fun e w' h => by
  obtain ⟨v, u, he, h1, h2, hb⟩ := h.out;rw [profE42] at he;rw [prof42.1] at h1;rw [prof42.2] at h2;obtain ⟨a1, c1, rfl, _, _, _, f1⟩ := load_of_row h1;obtain ⟨a2, c2, rfl, _, _, _, f2⟩ := load_of_row h2;exact ⟨lh ⟨a1, c1, a2, c2, he, f1, f2⟩, hb⟩
theorem peak_ex (a : Option Addr) (w : World) (hL : Loads w.heap.size w a O42) :
  Calls Tryz.prog 16 #[.slice a 4 4] w fun e w' => e = .returned (.tuple #[.int .i64 3, .int .i64 2, .int .i64 0]) ∧ Below w.heap.size w w' :=
 (peak_any a O42 4 w (by decide) hL).mono fun e w' h => by rw [peak42] at h; exact h
theorem energy_ex (a : Option Addr) (w : World) (hL : Tasks w.heap.size w a T42) :
  Calls Tryz.prog 17 #[.slice a 2 2] w fun e w' => e = .returned (.tuple #[.int .i64 11, .int .i64 0, .int .i64 0]) ∧ Below w.heap.size w w' :=
 (energy_any a T42 2 w (by decide) hL).mono fun e w' h => by
  obtain ⟨h1, h2⟩ := h.out;rw [work42.1, if_pos rfl, show T42.length = 2 from rfl, work42.2.1, work42.2.2] at h1;exact ⟨h1, h2⟩
theorem equal_ex (a1 a2 : Option Addr) (F : List (Int × Int)) (n c1 c2 : Nat) (w : World) (hn : n = F.length) (hl : F.length ≤ 1100) (h1 : Loads w.heap.size w a1 F) (h2 : Loads w.heap.size w a2 F) :
  Calls Tryz.prog 10 #[.slice a1 n c1, .slice a2 n c2] w fun e w' => e = .returned (.bool true) ∧ Below w.heap.size w w' := by
 subst hn;exact (load_equal a1 a2 F F c1 c2 w hl h1 h2 hl).mono fun e w' h => by rw [decide_eq_true rfl] at h; exact h
theorem awake_any (w : World) : Calls Tryz.prog 5 #[] w fun e w' => e = .returned (.bool true) ∧ Below w.heap.size w w' := by
 have HT : Hid (∀ w : World, Tasks (w.alloc (.cells #[.string ⟨#[]⟩, .int .i64 4, .int .i64 2, .int .i64 0, .slice none 0 0, .string ⟨#[]⟩, .int .i64 3, .int .i64 1, .int .i64 0, .slice none 0 0] 54)).heap.size (w.alloc (.cells #[.string ⟨#[]⟩, .int .i64 4, .int .i64 2, .int .i64 0, .slice none 0 0, .string ⟨#[]⟩, .int .i64 3, .int .i64 1, .int .i64 0, .slice none 0 0] 54)) (some ⟨w.heap.size, 0, none⟩) T42) := lh fun w => tasks_new w 2 T42 rfl (by decide);have HN : Hid (∀ w : World, Nums (w.alloc (.cells #[.int .i64 0, .int .i64 2] 3)).heap.size (w.alloc (.cells #[.int .i64 0, .int .i64 2] 3)) (some ⟨w.heap.size, 0, none⟩) [0, 2]) := lh fun w => nums_new w 2 [0, 2] rfl (by decide);have HO : Hid (∀ w : World, Loads (w.alloc (.cells #[.int .i64 0, .int .i64 2, .int .i64 2, .int .i64 3, .int .i64 4, .int .i64 1, .int .i64 5, .int .i64 0] 41)).heap.size (w.alloc (.cells #[.int .i64 0, .int .i64 2, .int .i64 2, .int .i64 3, .int .i64 4, .int .i64 1, .int .i64 5, .int .i64 0] 41)) (some ⟨w.heap.size, 0, none⟩) O42) := lh fun w => loads_new w 4 O42 rfl (by decide);have HO1 : Hid (∀ w : World, Loads (w.alloc (.cells #[.int .i64 0, .int .i64 0] 41)).heap.size (w.alloc (.cells #[.int .i64 0, .int .i64 0] 41)) (some ⟨w.heap.size, 0, none⟩) [(0, 0)]) := lh fun w => loads_new w 1 [(0, 0)] rfl (by decide)
 go_enter Tryz.func5, Tryz.ntmps5
 go_wp2_with fail
 have HA := lh (HT.out w);have hb0 : Below w.heap.size w (w.alloc (.cells #[.string ⟨#[]⟩, .int .i64 4, .int .i64 2, .int .i64 0, .slice none 0 0, .string ⟨#[]⟩, .int .i64 3, .int .i64 1, .int .i64 0, .slice none 0 0] 54)) := below_new w _;have hz : (w.alloc (.cells #[.string ⟨#[]⟩, .int .i64 4, .int .i64 2, .int .i64 0, .slice none 0 0, .string ⟨#[]⟩, .int .i64 3, .int .i64 1, .int .i64 0, .slice none 0 0] 54)).heap.size = w.heap.size + 1 := by simp
 generalize hw : w.alloc (.cells #[.string ⟨#[]⟩, .int .i64 4, .int .i64 2, .int .i64 0, .slice none 0 0, .string ⟨#[]⟩, .int .i64 3, .int .i64 1, .int .i64 0, .slice none 0 0] 54) = w0 at *;clear hw HT;have hn := HN.out w0;rw [hz] at hn;have HN1 := lh hn;clear hn hz
 go_wp2_with (first
  | (go_at_call 15; (with_reducible refine (profile_ex _ _ _ (HA.out.grow (below_new _ _)) HN1.out).mono ?_); rintro e w1 ⟨hx, hb1⟩; obtain ⟨a1, c1, a2, c2, rfl, f1, f2⟩ := hx.out; have HF1 := lh f1; have HF2 := lh f2; have hB1 : Below w.heap.size w w1 := hb0.trans ((mono_in _ hb1).mono hb0.size); have HA1 := lh (HA.out.grow (mono_in _ hb1)); clear hx f1 f2)
  | (go_at_call 16; (with_reducible refine (peak_ex _ _ (HO.out _)).mono ?_); rintro e w2 ⟨rfl, hb2⟩; have hC2 := mono_in _ hb2; have hB2 : Below w.heap.size w w2 := hB1.trans (hC2.mono hB1.size))
  | (go_at_call 17; (with_reducible refine (energy_ex _ _ (HA1.out.grow hC2)).mono ?_); rintro e w3 ⟨rfl, hb3⟩; have hB3 : Below w.heap.size w w3 := hB2.trans (hb3.mono hB2.size); have HF13 := lh ((HF1.out.grow hC2).grow hb3); have HF23 := lh ((HF2.out.grow hC2).grow hb3))
  | (go_at_call 10; (with_reducible refine (equal_ex _ _ O42 4 _ _ _ rfl (by decide) (HF13.out.grow (below_new _ _)) (HO.out _)).mono ?_); rintro e w4 ⟨rfl, hb4⟩; have hC4 := mono_in _ hb4; have hB4 : Below w.heap.size w w4 := hB3.trans (hC4.mono hB3.size); have HF24 := lh (HF23.out.grow hC4))
  | (go_at_call 10; (with_reducible refine (equal_ex _ _ [(0, 0)] 1 _ _ _ rfl (by decide) (HF24.out.grow (below_new _ _)) (HO1.out _)).mono ?_); rintro e w5 ⟨rfl, hb5⟩; have hB5 : Below w.heap.size w w5 := hB4.trans ((mono_in _ hb5).mono hB4.size)))
 go_ret;exact ⟨rfl, hB5⟩
def toldTo (L : List (Int × Int)) (t : Int) : Nat → Int
 | 0 => 0
 | k + 1 => if (og L k).1 ≤ t then (og L k).2 else toldTo L t k
def toldP (L : List (Int × Int)) (t : Int) : Int := toldTo L t L.length
theorem toldTo_old (L : List (Int × Int)) (x : Int × Int) (t : Int) : ∀ k, k ≤ L.length → toldTo (L ++ [x]) t k = toldTo L t k := by
 intro k
 induction k with
 | zero => intro _; rfl
 | succ k ih =>
  intro hk;simp only [toldTo];rw [og_old L x k (by omega), ih (by omega)]
theorem told_snoc (L : List (Int × Int)) (x : Int × Int) (t : Int) : toldP (L ++ [x]) t = if x.1 ≤ t then x.2 else toldP L t := by
 unfold toldP;rw [List.length_append];show (if (og (L ++ [x]) L.length).1 ≤ t then (og (L ++ [x]) L.length).2 else toldTo (L ++ [x]) t L.length) = _;rw [og_new, toldTo_old L x t _ (Nat.le_refl _)]
structure StepsAt (U : UseL) (k : Nat) (O : List (Int × Int)) : Prop where
 pos : 0 < O.length
 first : (og O 0).1 = ig (timesP U) 0
 last : (og O (O.length - 1)).2 = sumAt U (ig (timesP U) (k - 1))
 time : ∀ i, i < O.length → ∃ j, j < k ∧ (og O i).1 = ig (timesP U) j
 sum : ∀ i, i < O.length → (og O i).2 = sumAt U (og O i).1
 up : ∀ i, 0 < i → i < O.length → (og O (i - 1)).1 < (og O i).1 ∧ (og O i).2 ≠ (og O (i - 1)).2
 tell : ∀ j t, j < k → ig (timesP U) j ≤ t → (j + 1 < k → t < ig (timesP U) (j + 1)) → toldP O t = sumAt U (ig (timesP U) j)
 all : ∀ j, j < k → ∃ i, i < O.length ∧ (og O i).2 = sumAt U (ig (timesP U) j)
theorem steps_inv (U : UseL) : ∀ k, 0 < k → k ≤ (timesP U).length → StepsAt U k (stepsK U k) := by
 intro k
 induction k with
 | zero => intro h; omega
 | succ k ih =>
  intro _ hk;rw [stepsK_succ U k hk];rcases Nat.eq_zero_or_pos k with e | hp
  ·subst e
   have e1 : addS U (stepsK U 0) (ig (timesP U) 0) = [] ++ [(ig (timesP U) 0, sumAt U (ig (timesP U) 0))] := by
    have e0 : stepsK U 0 = [] := rfl;rw [e0]; unfold addS; rw [if_pos (.inl rfl)]
   rw [e1];have g0 : og ([] ++ [(ig (timesP U) 0, sumAt U (ig (timesP U) 0))]) 0 = (ig (timesP U) 0, sumAt U (ig (timesP U) 0)) := og_new [] _;refine ⟨Nat.zero_lt_one, by rw [g0], by show (og _ 0).2 = _; rw [g0], ?_, ?_, ?_, ?_, ?_⟩
   ·intro i hi
    obtain rfl : i = 0 := by simp at hi; omega
    exact ⟨0, Nat.zero_lt_one, by rw [g0]⟩
   ·intro i hi
    obtain rfl : i = 0 := by simp at hi; omega
    rw [g0]
   ·intro i h0 hi
    simp at hi; omega
   ·intro j t hj h1 _
    obtain rfl : j = 0 := by omega
    rw [told_snoc, if_pos h1]
   ·intro j hj
    obtain rfl : j = 0 := by omega
    exact ⟨0, Nat.zero_lt_one, by rw [g0]⟩
  ·have I := ih hp (by omega)
   generalize stepsK U k = O at I;have hlt : ∀ j, j < k → ig (timesP U) j < ig (timesP U) k := fun j hj => ig_lt (times_lt U) hj hk
   by_cases hc : (og O (O.length - 1)).2 ≠ sumAt U (ig (timesP U) k)
   ·have e1 : addS U O (ig (timesP U) k) = O ++ [(ig (timesP U) k, sumAt U (ig (timesP U) k))] := by unfold addS; rw [if_pos (.inr hc)]
    rw [e1];generalize hx : (ig (timesP U) k, sumAt U (ig (timesP U) k)) = x;have x1 : x.1 = ig (timesP U) k := by rw [← hx]
    have x2 : x.2 = sumAt U (ig (timesP U) k) := by rw [← hx]
    have hlen : (O ++ [x]).length = O.length + 1 := by simp
    have cs : ∀ i, i < (O ++ [x]).length → (i < O.length ∧ og (O ++ [x]) i = og O i) ∨ (i = O.length ∧ og (O ++ [x]) i = x) := by
     intro i hi;rw [hlen] at hi;rcases Nat.lt_or_ge i O.length with l | l
     ·exact .inl ⟨l, og_old O x i l⟩
     ·obtain rfl : i = O.length := by omega
      exact .inr ⟨rfl, og_new O x⟩
    have hpos := I.pos;refine ⟨by omega, ?_, ?_, ?_, ?_, ?_, ?_, ?_⟩
    ·rw [og_old O x 0 hpos]; exact I.first
    ·rw [hlen]; show (og (O ++ [x]) O.length).2 = _; rw [og_new]; exact x2
    ·intro i hi
     rcases cs i hi with ⟨l, e⟩ | ⟨_, e⟩
     ·obtain ⟨j, hj, ej⟩ := I.time i l
      exact ⟨j, by omega, by rw [e]; exact ej⟩
     ·exact ⟨k, by omega, by rw [e]; exact x1⟩
    ·intro i hi
     rcases cs i hi with ⟨l, e⟩ | ⟨_, e⟩
     ·rw [e]; exact I.sum i l
     ·rw [e, x1]; exact x2
    ·intro i h0 hi
     rcases cs i hi with ⟨l, e⟩ | ⟨l, e⟩
     ·rw [e, og_old O x (i - 1) (by omega)]; exact I.up i h0 l
     ·rw [e, og_old O x (i - 1) (by omega), x1, x2, l]
      obtain ⟨j, hj, ej⟩ := I.time (O.length - 1) (by omega);exact ⟨by rw [ej]; exact hlt j hj, fun h => hc h.symm⟩
    ·intro j t hj h1 h2
     rw [told_snoc, x1, x2];rcases Nat.lt_or_ge j k with l | l
     ·have h3 := h2 (by omega)
      have h4 : ig (timesP U) (j + 1) ≤ ig (timesP U) k := by
       rcases Nat.lt_or_ge (j + 1) k with m | m
       ·exact Int.le_of_lt (hlt _ m)
       ·obtain rfl : j + 1 = k := by omega
        exact Int.le_refl _
      rw [if_neg (by omega)];exact I.tell j t l h1 fun _ => h3
     ·obtain rfl : j = k := by omega
      rw [if_pos h1]
    ·intro j hj
     rcases Nat.lt_or_ge j k with l | l
     ·obtain ⟨i, hi, ei⟩ := I.all j l
      exact ⟨i, by omega, by rw [og_old O x i hi]; exact ei⟩
     ·obtain rfl : j = k := by omega
      exact ⟨O.length, by omega, by rw [og_new]; exact x2⟩
   ·have hpos := I.pos
    have hc' : (og O (O.length - 1)).2 = sumAt U (ig (timesP U) k) := Classical.byContradiction hc
    have e1 : addS U O (ig (timesP U) k) = O := by
     unfold addS;rw [if_neg];rintro (h | h)
     ·omega
     ·exact h hc'
    rw [e1];refine ⟨hpos, I.first, hc', fun i hi => ?_, I.sum, I.up, ?_, ?_⟩
    ·obtain ⟨j, hj, ej⟩ := I.time i hi
     exact ⟨j, by omega, ej⟩
    ·intro j t hj h1 h2
     rcases Nat.lt_or_ge j k with l | l
     ·exact I.tell j t l h1 fun h => h2 (by omega)
     ·obtain rfl : j = k := by omega
      have := I.tell (j - 1) t (by omega) (by have := hlt (j - 1) (by omega); omega) (fun h => by omega);rw [this, ← I.last]; exact hc'
    ·intro j hj
     rcases Nat.lt_or_ge j k with l | l
     ·exact I.all j l
     ·obtain rfl : j = k := by omega
      exact ⟨O.length - 1, by omega, hc'⟩
theorem steps_all (U : UseL) : StepsAt U (timesP U).length (stepsP U) := by
 have h := steps_inv U (timesP U).length (times_pos U) (Nat.le_refl _);rw [stepsK_all] at h;exact h
theorem time_before {U : UseL} (h : UseOK U) (t : Int) (ht : 0 ≤ t) : ∃ j, j < (timesP U).length ∧ ig (timesP U) j ≤ t ∧ (j + 1 < (timesP U).length → t < ig (timesP U) (j + 1)) := by
 have main : ∀ m, 0 < m → m ≤ (timesP U).length → ∃ j, j < m ∧ ig (timesP U) j ≤ t ∧ (j + 1 < m → t < ig (timesP U) (j + 1)) := by
  intro m
  induction m with
  | zero => intro h; omega
  | succ m ih =>
   intro _ hm;rcases Nat.eq_zero_or_pos m with e | hp
   ·subst e
    exact ⟨0, by omega, by rw [times_zero h]; exact ht, fun h => by omega⟩
   ·obtain ⟨j, hj, h1, h2⟩ := ih hp (by omega)
    by_cases q : ig (timesP U) m ≤ t
    ·exact ⟨m, by omega, q, fun h => by omega⟩
    ·refine ⟨j, by omega, h1, fun h => ?_⟩
     rcases Nat.lt_or_ge (j + 1) m with l | l
     ·exact h2 l
     ·obtain rfl : j + 1 = m := by omega
      omega
 exact main _ (times_pos U) (Nat.le_refl _)
theorem sumTo_same {U : UseL} (s t : Int) (h : ∀ j, j < U.length → ((ug U j).1 ≤ s ∧ s < (ug U j).2.1 ↔ (ug U j).1 ≤ t ∧ t < (ug U j).2.1)) : ∀ k, k ≤ U.length → sumTo U s k = sumTo U t k := by
 intro k
 induction k with
 | zero => intro _; rfl
 | succ k ih =>
  intro hk;simp only [sumTo];rw [ih (by omega)];have := h k (by omega)
  split
  ·next p => rw [if_pos (this.1 p)]
  ·next p => rw [if_neg fun q => p (this.2 q)]
theorem sum_at_time {U : UseL} (h : UseOK U) (j : Nat) (t : Int) (hj : j < (timesP U).length) (h1 : ig (timesP U) j ≤ t) (h2 : j + 1 < (timesP U).length → t < ig (timesP U) (j + 1)) : sumAt U (ig (timesP U) j) = sumAt U t := by
 have key : ∀ x, x ∈ timesP U → (x ≤ ig (timesP U) j ↔ x ≤ t) := by
  intro x hx;obtain ⟨m, hm, rfl⟩ := mem_ig.1 hx;rcases Nat.lt_trichotomy m j with l | l | l
  ·have := ig_lt (times_lt U) l hj
   constructor <;> intro _ <;> omega
  ·subst l; constructor <;> intro _ <;> omega
  ·have a := ig_lt (times_lt U) l hm
   have b := h2 (by omega)
   have c : ig (timesP U) (j + 1) ≤ ig (timesP U) m := by
    rcases Nat.lt_or_ge (j + 1) m with p | p
    ·exact Int.le_of_lt (ig_lt (times_lt U) p hm)
    ·obtain rfl : j + 1 = m := by omega
     exact Int.le_refl _
   constructor <;> intro _ <;> omega
 refine sumTo_same _ _ (fun i hi => ?_) _ (Nat.le_refl _);have a := key _ ((times_mem U _).2 (.inr ⟨i, hi, (h i hi).2, .inl rfl⟩));have b := key _ ((times_mem U _).2 (.inr ⟨i, hi, (h i hi).2, .inr rfl⟩))
 constructor
 ·rintro ⟨p, q⟩; exact ⟨a.1 p, by have := mt b.2; omega⟩
 ·rintro ⟨p, q⟩; exact ⟨a.2 p, by have := mt b.1; omega⟩
theorem told_steps {U : UseL} (h : UseOK U) (t : Int) (ht : 0 ≤ t) : toldP (stepsP U) t = sumAt U t := by
 obtain ⟨j, hj, h1, h2⟩ := time_before h t ht;rw [(steps_all U).tell j t hj h1 h2];exact sum_at_time h j t hj h1 h2
theorem sumTo_none {U : UseL} (t : Int) (h : ∀ j, j < U.length → ¬ ((ug U j).1 ≤ t ∧ t < (ug U j).2.1)) : ∀ k, k ≤ U.length → sumTo U t k = 0 := by
 intro k
 induction k with
 | zero => intro _; rfl
 | succ k ih =>
  intro hk;simp only [sumTo];rw [ih (by omega), if_neg (h k (by omega))]
  rfl
theorem sumTo_w {U : UseL} (t : Int) (h : ∀ j, j < U.length → 0 ≤ (ug U j).2.2 ∧ (ug U j).2.2 ≤ 100) : ∀ k, k ≤ U.length → 0 ≤ sumTo U t k ∧ sumTo U t k ≤ 100 * (k : Int) := by
 intro k
 induction k with
 | zero => intro _; exact ⟨Int.le_refl _, Int.le_refl _⟩
 | succ k ih =>
  intro hk;simp only [sumTo];have := ih (by omega);have := h k (by omega)
  split <;> omega
theorem steps_valid {U : UseL} (h : UseOK U) (hl : U.length ≤ 1000) (hb : ∀ j, j < U.length → (ug U j).2.1 ≤ 1099511627776 ∧ 0 ≤ (ug U j).2.2 ∧ (ug U j).2.2 ≤ 100) : validB (stepsP U) = true := by
 have I := steps_all U;have hn := stepsK_len U (timesP U).length (Nat.le_refl _);rw [stepsK_all] at hn;have ht := times_len U;refine valid_of I.pos (by omega) (I.first.trans (times_zero h)) fun k hk => ⟨?_, fun h0 => (I.up k h0 hk).1, ?_⟩
 ·obtain ⟨j, hj, e⟩ := I.time k hk
  rw [e];rcases (times_mem U _).1 (mem_ig.2 ⟨j, hj, rfl⟩) with e | ⟨i, hi, _, e⟩
  ·omega
  ·have := h i hi; have := hb i hi; omega
 ·rw [I.sum k hk]
  have := sumTo_w (og (stepsP U) k).1 (fun j hj => (hb j hj).2) U.length (Nat.le_refl _);unfold sumAt;omega
theorem steps_last {U : UseL} (h : UseOK U) : (og (stepsP U) ((stepsP U).length - 1)).2 = 0 := by
 have I := steps_all U;rw [I.last];refine sumTo_none _ (fun j hj => ?_) _ (Nat.le_refl _);rintro ⟨_, q⟩;obtain ⟨m, hm, e⟩ := mem_ig.1 ((times_mem U _).2 (.inr ⟨j, hj, (h j hj).2, .inr rfl⟩));rw [← e] at q;rcases Nat.lt_or_ge m ((timesP U).length - 1) with l | l
 ·have := ig_lt (times_lt U) l (by omega); omega
 ·obtain rfl : m = (timesP U).length - 1 := by omega
  omega
end
section
open Go.RowKit
def needAt (t : Int) (u : Int × Int × Int) : Int := if u.1 ≤ t ∧ t < u.2.1 then u.2.2 else 0
theorem sumTo_take (U : UseL) (t : Int) : ∀ k, k ≤ U.length → sumTo U t k = ((U.take k).map (needAt t)).sum
 | 0, _ => rfl
 | k + 1, h => by
  rw [List.take_succ_eq_append_getElem (by omega), List.map_append, List.sum_append, ← sumTo_take U t k (by omega), ← ug_eq U k (by omega)];show sumTo U t k + (if (ug U k).1 ≤ t ∧ t < (ug U k).2.1 then (ug U k).2.2 else 0) = _
  simp [needAt]
theorem sumAt_map (U : UseL) (t : Int) : sumAt U t = (U.map (needAt t)).sum := by
 unfold sumAt;rw [sumTo_take U t U.length (Nat.le_refl _), List.take_length]
def lastsU (U : UseL) : UseL := U.filter fun u => decide (u.1 < u.2.1)
theorem sum_lasts (t : Int) : ∀ U : UseL, ((lastsU U).map (needAt t)).sum = (U.map (needAt t)).sum
 | [] => rfl
 | u :: U => by
  have ih := sum_lasts t U;unfold lastsU at *;rw [List.filter_cons]
  by_cases h : u.1 < u.2.1
  ·rw [if_pos (decide_eq_true h), List.map_cons, List.sum_cons, List.map_cons, List.sum_cons, ih]
  ·rw [if_neg (by simpa using h), List.map_cons, List.sum_cons, ih]
   have : needAt t u = 0 := by unfold needAt; rw [if_neg (by omega)]
   omega
theorem mem_ug {U : UseL} {u : Int × Int × Int} : u ∈ U ↔ ∃ j, j < U.length ∧ ug U j = u := by
 constructor
 ·intro h
  obtain ⟨j, hj, e⟩ := List.getElem_of_mem h;exact ⟨j, hj, by rw [ug_eq U j hj, e]⟩
 ·rintro ⟨j, hj, rfl⟩
  rw [ug_eq U j hj];exact List.getElem_mem hj
theorem times_memU (U : UseL) (x : Int) : x ∈ timesP U ↔ x = 0 ∨ ∃ u ∈ U, u.1 < u.2.1 ∧ (x = u.1 ∨ x = u.2.1) := by
 rw [times_mem]
 constructor
 ·rintro (h | ⟨j, hj, a, b⟩)
  ·exact .inl h
  ·exact .inr ⟨ug U j, mem_ug.2 ⟨j, hj, rfl⟩, a, b⟩
 ·rintro (h | ⟨u, hu, a, b⟩)
  ·exact .inl h
  ·obtain ⟨j, hj, rfl⟩ := mem_ug.1 hu
   exact .inr ⟨j, hj, a, b⟩
theorem steps_lasts (U : UseL) : stepsP (lastsU U) = stepsP U := by
 have e1 : timesP (lastsU U) = timesP U := lt_ext _ _ (times_lt _) (times_lt _) fun x => by
  rw [times_memU, times_memU]
  constructor
  ·rintro (h | ⟨u, hu, a, b⟩)
   ·exact .inl h
   ·exact .inr ⟨u, (List.mem_filter.1 hu).1, a, b⟩
  ·rintro (h | ⟨u, hu, a, b⟩)
   ·exact .inl h
   ·exact .inr ⟨u, List.mem_filter.2 ⟨hu, decide_eq_true a⟩, a, b⟩
 have e2 : addS (lastsU U) = addS U := by
  funext out t
  unfold addS;rw [sumAt_map, sumAt_map, sum_lasts]
 unfold stepsP;rw [e1, e2]
theorem lasts_ok {U : UseL} (h : ∀ u ∈ U, 0 ≤ u.1) : UseOK (lastsU U) := by
 intro j hj;have hm : ug (lastsU U) j ∈ lastsU U := mem_ug.2 ⟨j, hj, rfl⟩;obtain ⟨a, b⟩ := List.mem_filter.1 hm;exact ⟨h _ a, of_decide_eq_true b⟩
theorem lasts_len (U : UseL) : (lastsU U).length ≤ U.length := List.length_filter_le _ _
end
end Go.Proofs.YtlnodjcmdnmnlaaGreat
