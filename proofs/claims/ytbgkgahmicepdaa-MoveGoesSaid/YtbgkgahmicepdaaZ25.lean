/-
  THE WALKS of profile.Curve (whole), Knots and Time.
  PLAIN: curves of quadratic pieces as package quadratic reckons them: what its sums keep; validity; the piece at a time.
  PLAIN: fractions as rational numbers; curves of quadratic pieces over the rational numbers: where they rise, and where they are smooth.
  THE WALK of ratio.Sub in general.
  THE WALKS of the sums of package quadratic: zero, keep, add, sub, mul.
-/
import Derived.Test.YtbgkgahmicepdaaZ24
import Derived.Test.YtbgkgahmicepdaaZ1
import Derived.Test.YtbgkgahmicepdaaZ14
import Derived.Test.YtbgkgahmicepdaaZ20
namespace Go.Proofs.Ytbgkgahmicepdaa
open Go.RowKit Go.Shelf
def CurveV (w w' : World) (d : Int) (m : Mv) (t : Int) (v : Value) : Prop := (givenP d m = 0 → w'.ownsRow w.heap.size 69 8 v (curveL d m.rise m.fall t).length (pcflat (curveL d m.rise m.fall t))) ∧ (¬ givenP d m = 0 → v = .slice none 0 0)

set_option maxRecDepth 100000 in
set_option maxHeartbeats 8000000 in
theorem Curve_any (d : Int) (m : Mv) (t : Int) (ht : givenP d m = 0 → IsTop d m.spd m.rise m.fall t) (w : World) :
  Calls Try.prog 34 #[.int .i64 d, .agg #[.string m.name, .int .i64 m.to, .int .i64 m.spd, .int .i64 m.rise, .int .i64 m.fall]] w fun e w' => Hid (∃ v, e = .returned (.tuple #[v, .int .i64 (givenP d m)]) ∧ CurveV w w' d m t v) ∧ Below w.heap.size w w' := by
 by_cases hg : givenP d m = 0
 ·by_cases hd : d = 0
  ·have HG := Lib.hid hg
   have HL : Hid (curveL d m.rise m.fall t = [⟨0, 1, 0, 1, 0, 1, 0, 1⟩]) := Lib.hid (by unfold curveL; rw [if_pos hd])
   have hd' : (d == 0) = true := by simpa using hd
   clear hg ht hd
   go_enter Try.func34, Try.ntmps34
   go_wp2_with (go_at_call 56; (with_reducible refine (given_any d m _).mono ?_); rintro e w1 ⟨rfl, hb1⟩; rw [HG.out]; have hB1 := (below_new w (.cells #[.string m.name, .int .i64 m.to, .int .i64 m.spd, .int .i64 m.rise, .int .i64 m.fall] 27)).trans (hb1.mono (by simp)))
   go_ret2
   refine ⟨Lib.hid ⟨_, congrArg (fun x => Ending.returned (.tuple #[_, .int .i64 x])) HG.out.symm, fun _ => ?_, fun h => absurd HG.out h⟩, ?_⟩
   ·rw [HL.out]
    have h := World.ownsRow_lit (base := w.heap.size) (e := 69) (size := 8) (w1.alloc (.cells #[.int .i64 0, .int .i64 1] 29)) #[.int .i64 0, .int .i64 1, .int .i64 0, .int .i64 1, .int .i64 0, .int .i64 1, .int .i64 0, .int .i64 1] 1 (by have := hB1.size; simp <;> omega) (by unfold maxLen; omega) rfl
    rw [World.size_alloc] at h
    exact h
   ·exact (hB1.alloc hB1.size _).alloc (by have := hB1.size; simp <;> omega) _
  ·refine (curve_any d m t hg hd (ht hg) w).mono fun e w' h => ⟨Lib.hid ?_, h.2⟩
   obtain ⟨v, he, hr⟩ := h.1.out
   exact ⟨v, by rw [he, hg], fun _ => hr, fun h => absurd hg h⟩
 ·obtain ⟨g, hgg⟩ : ∃ g, givenP d m = g := ⟨_, rfl⟩
  have HG := Lib.hid hgg
  have hg' : (g == 0) = false := by rw [← hgg]; simpa using hg
  have hg'' : (g != 0) = true := by rw [← hgg]; simpa using hg
  have HN := Lib.hid hg
  clear hgg ht hg
  go_enter Try.func34, Try.ntmps34
  go_wp2_with (go_at_call 56; (with_reducible refine (given_any d m _).mono ?_); rintro e w1 ⟨rfl, hb1⟩; rw [HG.out]; have hB1 := (below_new w (.cells #[.string m.name, .int .i64 m.to, .int .i64 m.spd, .int .i64 m.rise, .int .i64 m.fall] 27)).trans (hb1.mono (by simp)))
  go_ret2
  exact ⟨Lib.hid ⟨_, congrArg (fun x => Ending.returned (.tuple #[_, .int .i64 x])) HG.out.symm, fun h => absurd h HN.out, fun _ => rfl⟩, hB1⟩

def knTo (L : List Pc) : Nat → List (Int × Int)
 | 0 => []
 | k + 1 => knTo L k ++ [((pcg L k).f0, (pcg L k).f1)]
theorem knTo_len (L : List Pc) (k : Nat) : (knTo L k).length = k := by
 induction k with
 | zero => rfl
 | succ k ih => simp [knTo, ih]
def knotsL (d R F t : Int) : List (Int × Int) := knTo (curveL d R F t) (curveL d R F t).length
theorem curveL_len (d R F t : Int) : 1 ≤ (curveL d R F t).length ∧ (curveL d R F t).length ≤ 4 := by
 unfold curveL
 split
 ·simp
 ·split <;> simp
def KnotsV (w w' : World) (d : Int) (m : Mv) (t : Int) (v : Value) : Prop := (givenP d m = 0 → w'.ownsRow w.heap.size 29 2 v (knotsL d m.rise m.fall t).length (frflat (knotsL d m.rise m.fall t))) ∧ (¬ givenP d m = 0 → v = .slice none 0 0)

set_option maxRecDepth 100000 in
set_option maxHeartbeats 8000000 in
theorem Knots_any (d : Int) (m : Mv) (t : Int) (ht : givenP d m = 0 → IsTop d m.spd m.rise m.fall t) (w : World) :
  Calls Try.prog 47 #[.int .i64 d, .agg #[.string m.name, .int .i64 m.to, .int .i64 m.spd, .int .i64 m.rise, .int .i64 m.fall]] w fun e w' => Hid (∃ v, e = .returned (.tuple #[v, .int .i64 (givenP d m)]) ∧ KnotsV w w' d m t v) ∧ Below w.heap.size w w' := by
 have HC := Lib.hid (Curve_any d m t ht)
 obtain ⟨g, hgg⟩ : ∃ g, givenP d m = g := ⟨_, rfl⟩
 have HGG := Lib.hid hgg
 by_cases hg : g = 0
 ·have HG0 : Hid (givenP d m = 0) := Lib.hid (hgg.trans hg)
  subst hg
  obtain ⟨L, hL⟩ : ∃ L, curveL d m.rise m.fall t = L := ⟨_, rfl⟩
  have hl := curveL_len d m.rise m.fall t
  rw [hL] at hl
  have HL := Lib.hid hL
  clear hgg ht hL
  go_enter Try.func47, Try.ntmps47
  go_wp2_with (go_at_call 34; (with_reducible refine (HC.out _).mono ?_); rintro e w1 ⟨hv, hb1⟩; obtain ⟨v, rfl, hrow⟩ := hv.out; rw [HG0.out]; have hr1 := hrow.1 HG0.out; rw [HL.out] at hr1; obtain ⟨pa, pcap, rfl, hpc1, hpc2, _, hP⟩ := pc_of_row hr1; have HP := Lib.hid hP; have hB1 := (below_new w (.cells #[.string m.name, .int .i64 m.to, .int .i64 m.spd, .int .i64 m.rise, .int .i64 m.fall] 27)).trans (hb1.mono (by simp)); clear hrow hr1 hP hv)
  go_loopw [8, 22] (fun v i wr => ∃ k : Nat, k ≤ L.length ∧ i = .int .i64 k ∧ Below w1.heap.size w1 wr ∧ Hid (wr.ownsRow w1.heap.size 29 2 v (knTo L k).length (frflat (knTo L k)))) (fun _ i _ => L.length - (intOf i).toNat)
  case atStart => exact ⟨0, Nat.zero_le _, rfl, Below.refl _ _, Lib.hid (World.ownsRow_nil _ _ _ _)⟩
  case round =>
   obtain ⟨k, hk, rfl, hC, HR⟩ := hrel
   have hcs := hC.size
   by_cases hlt : k < L.length
   ·obtain ⟨b, off, rfl, hb, hc⟩ := HP.out (by omega)
    obtain ⟨c0, c1, c2, c3, c4, c5, c6, c7⟩ := hc k hlt
    have d0 := (hC.cell (p := ⟨b, off + k * 8, none⟩) hb).trans c0
    have d1 := (hC.cell (p := ⟨b, off + k * 8 + 1, none⟩) hb).trans c1
    have d2 := (hC.cell (p := ⟨b, off + k * 8 + 2, none⟩) hb).trans c2
    have d3 := (hC.cell (p := ⟨b, off + k * 8 + 3, none⟩) hb).trans c3
    have d4 := (hC.cell (p := ⟨b, off + k * 8 + 4, none⟩) hb).trans c4
    have d5 := (hC.cell (p := ⟨b, off + k * 8 + 5, none⟩) hb).trans c5
    have d6 := (hC.cell (p := ⟨b, off + k * 8 + 6, none⟩) hb).trans c6
    have d7 := (hC.cell (p := ⟨b, off + k * 8 + 7, none⟩) hb).trans c7
    have hkl : (knTo L k).length ≤ 1000000 := by rw [knTo_len]; omega
    clear hc c0 c1 c2 c3 c4 c5 c6 c7
    go_wp2_with (at_builtin; refine fr_append rfl _ _ rfl w1.heap.size _ (knTo L k) rfl ((HR.out.alloc (.cells #[.int .i64 (pcg L k).f0, .int .i64 (pcg L k).f1, .int .i64 (pcg L k).a0, .int .i64 (pcg L k).a1, .int .i64 (pcg L k).b0, .int .i64 (pcg L k).b1, .int .i64 (pcg L k).c0, .int .i64 (pcg L k).c1] 69)).alloc (.cells #[.int .i64 (pcg L k).f0, .int .i64 (pcg L k).f1] 29)) _ ((pcg L k).f0, (pcg L k).f1) rfl (by simp) hkl (by first | omega | (simp; omega)) ?_; intro v5 w5 hown5 hg5; have hBn : Below w1.heap.size w1 w5 := grown_own ((HR.out.alloc (.cells #[.int .i64 (pcg L k).f0, .int .i64 (pcg L k).f1, .int .i64 (pcg L k).a0, .int .i64 (pcg L k).a1, .int .i64 (pcg L k).b0, .int .i64 (pcg L k).b1, .int .i64 (pcg L k).c0, .int .i64 (pcg L k).c1] 69)).alloc (.cells #[.int .i64 (pcg L k).f0, .int .i64 (pcg L k).f1] 29)) hg5 ((hC.alloc hcs (.cells #[.int .i64 (pcg L k).f0, .int .i64 (pcg L k).f1, .int .i64 (pcg L k).a0, .int .i64 (pcg L k).a1, .int .i64 (pcg L k).b0, .int .i64 (pcg L k).b1, .int .i64 (pcg L k).c0, .int .i64 (pcg L k).c1] 69)).alloc (by first | omega | (simp; omega)) (.cells #[.int .i64 (pcg L k).f0, .int .i64 (pcg L k).f1] 29)) (by first | omega | (simp; omega)) (Nat.le_refl _))
    go_roundw
    case rel => exact ⟨k + 1, by omega, by go_num, hBn, Lib.hid hown5⟩
    case measure => simp [intOf]; omega
   ·obtain rfl : k = L.length := by omega
    go_wp2_with fail
    go_ret2
    refine ⟨Lib.hid ⟨_, congrArg (fun x => Ending.returned (.tuple #[_, .int .i64 x])) HG0.out.symm, fun _ => ?_, fun h => absurd HG0.out h⟩, hB1.trans (hC.mono hB1.size)⟩
    have hr := HR.out
    unfold knotsL
    rw [HL.out]
    exact own_base hr hB1.size
 ·have HN : Hid (¬ givenP d m = 0) := Lib.hid (by rw [hgg]; exact hg)
  have hg' : (g == 0) = false := by simpa using hg
  have hg'' : (g != 0) = true := by simpa using hg
  clear hgg ht hg
  go_enter Try.func47, Try.ntmps47
  go_wp2_with (go_at_call 34; (with_reducible refine (HC.out _).mono ?_); rintro e w1 ⟨hv, hb1⟩; obtain ⟨v, rfl, hrow⟩ := hv.out; rw [HGG.out]; have hB1 := (below_new w (.cells #[.string m.name, .int .i64 m.to, .int .i64 m.spd, .int .i64 m.rise, .int .i64 m.fall] 27)).trans (hb1.mono (by simp)))
  go_ret2
  exact ⟨Lib.hid ⟨_, congrArg (fun x => Ending.returned (.tuple #[_, .int .i64 x])) HGG.out.symm, fun h => absurd h HN.out, fun _ => rfl⟩, hB1⟩

theorem knTo_at (L : List Pc) (n k : Nat) (h : k < n) : frg (knTo L n) k = ((pcg L k).f0, (pcg L k).f1) := by
 induction n with
 | zero => omega
 | succ n ih =>
  unfold knTo
  rcases Nat.lt_or_ge k n with l | l
  ·rw [frg_old _ _ _ (by rw [knTo_len]; exact l)]; exact ih l
  ·obtain rfl : k = n := by omega
   have := frg_new (knTo L k) ((pcg L k).f0, (pcg L k).f1)
   rwa [knTo_len] at this
def timeP (d : Int) (m : Mv) (t : Int) : Int × Int := if givenP d m = 0 then frg (knotsL d m.rise m.fall t) ((knotsL d m.rise m.fall t).length - 1) else (0, 0)

set_option maxRecDepth 100000 in
set_option maxHeartbeats 8000000 in
theorem Time_any (d : Int) (m : Mv) (t : Int) (ht : givenP d m = 0 → IsTop d m.spd m.rise m.fall t) (w : World) :
  Calls Try.prog 22 #[.int .i64 d, .agg #[.string m.name, .int .i64 m.to, .int .i64 m.spd, .int .i64 m.rise, .int .i64 m.fall]] w fun e w' => e = .returned (.tuple #[.agg #[.int .i64 (timeP d m t).1, .int .i64 (timeP d m t).2], .int .i64 (givenP d m)]) ∧ Below w.heap.size w w' := by
 have HC := Lib.hid (Knots_any d m t ht)
 obtain ⟨g, hgg⟩ : ∃ g, givenP d m = g := ⟨_, rfl⟩
 have HGG := Lib.hid hgg
 obtain ⟨P, hP⟩ : ∃ P, timeP d m t = P := ⟨_, rfl⟩
 by_cases hg : g = 0
 ·have HG0 : Hid (givenP d m = 0) := Lib.hid (hgg.trans hg)
  subst hg
  rw [HG0.out, hP]
  obtain ⟨L, hL⟩ : ∃ L, knotsL d m.rise m.fall t = L := ⟨_, rfl⟩
  have hl := curveL_len d m.rise m.fall t
  have hl2 : L.length = (curveL d m.rise m.fall t).length := by rw [← hL]; exact knTo_len _ _
  have HPP : Hid (frg L (L.length - 1) = P) := Lib.hid (by rw [← hP, ← hL]; unfold timeP; rw [if_pos HG0.out])
  rw [← hl2] at hl
  have HL := Lib.hid hL
  have s1 : IntKind.i64.wrap ((L.length : Int) - 1) = (L.length : Int) - 1 := IntWalk.i64_in _ (by omega)
  clear hgg ht hL hP hl2
  go_enter Try.func22, Try.ntmps22
  go_wp2_with (go_at_call 47; (with_reducible refine (HC.out _).mono ?_); rintro e w1 ⟨hv, hb1⟩; obtain ⟨v, rfl, hrow⟩ := hv.out; rw [HG0.out]; have hr1 := hrow.1 HG0.out; rw [HL.out] at hr1; obtain ⟨pa, pcap, rfl, hpc1, hpc2, _, hP⟩ := fr_of_row hr1; obtain ⟨b, off, rfl, hb, hc⟩ := hP (by omega); obtain ⟨c0, c1⟩ := hc (L.length - 1) (by omega); rw [HPP.out] at c0 c1; have hB1 := ((below_new w (.cells #[.string m.name, .int .i64 m.to, .int .i64 m.spd, .int .i64 m.rise, .int .i64 m.fall] 27)).alloc (by simp) (.cells #[.int .i64 0, .int .i64 0] 29)).trans (hb1.mono (by simp <;> omega)); clear hrow hr1 hc hv; have l4 : w1.cell? ⟨w.heap.size + 1, 0, none⟩ = some (.int .i64 0) := (hb1.cell (p := ⟨w.heap.size + 1, 0, none⟩) (by simp)).trans (by simp); have l5 : w1.cell? ⟨w.heap.size + 1, 1, none⟩ = some (.int .i64 0) := (hb1.cell (p := ⟨w.heap.size + 1, 1, none⟩) (by simp)).trans (by simp); have l6 : w1.frozen? ⟨w.heap.size + 1, 0, none⟩ = false := (hb1.frozen (p := ⟨w.heap.size + 1, 0, none⟩) (by simp)).trans (by simp); have l7 : w1.frozen? ⟨w.heap.size + 1, 1, none⟩ = false := (hb1.frozen (p := ⟨w.heap.size + 1, 1, none⟩) (by simp)).trans (by simp))
  have s2 := (two_cells (v0 := .int .i64 P.1) (v1 := .int .i64 P.2) l4 l5).1
  have s3 := (two_cells (v0 := .int .i64 P.1) (v1 := .int .i64 P.2) l4 l5).2
  refine bodyPost_ret (v := .tuple #[.agg #[.int .i64 P.1, .int .i64 P.2], .int .i64 0]) (by simp [results, Try.results22, go_sem, s2, s3]) rfl ⟨rfl, ?_⟩
  exact (hB1.setCell (p := ⟨w.heap.size + 1, 0, none⟩) (by simp) _).setCell (p := ⟨w.heap.size + 1, 1, none⟩) (by simp) _
 ·have HN : Hid (¬ givenP d m = 0) := Lib.hid (by rw [hgg]; exact hg)
  have e : P = (0, 0) := by rw [← hP]; unfold timeP; rw [if_neg HN.out]
  rw [hgg, hP, e]
  have hg' : (g == 0) = false := by simpa using hg
  have hg'' : (g != 0) = true := by simpa using hg
  clear hgg ht hg hP e
  go_enter Try.func22, Try.ntmps22
  go_wp2_with (go_at_call 47; (with_reducible refine (HC.out _).mono ?_); rintro e w1 ⟨hv, hb1⟩; obtain ⟨v, rfl, hrow⟩ := hv.out; rw [HGG.out]; have hB1 := ((below_new w (.cells #[.string m.name, .int .i64 m.to, .int .i64 m.spd, .int .i64 m.rise, .int .i64 m.fall] 27)).alloc (by simp) (.cells #[.int .i64 0, .int .i64 0] 29)).trans (hb1.mono (by simp <;> omega)); have l4 : w1.cell? ⟨w.heap.size + 1, 0, none⟩ = some (.int .i64 0) := (hb1.cell (p := ⟨w.heap.size + 1, 0, none⟩) (by simp)).trans (by simp); have l5 : w1.cell? ⟨w.heap.size + 1, 1, none⟩ = some (.int .i64 0) := (hb1.cell (p := ⟨w.heap.size + 1, 1, none⟩) (by simp)).trans (by simp); have l6 : w1.frozen? ⟨w.heap.size + 1, 0, none⟩ = false := (hb1.frozen (p := ⟨w.heap.size + 1, 0, none⟩) (by simp)).trans (by simp); have l7 : w1.frozen? ⟨w.heap.size + 1, 1, none⟩ = false := (hb1.frozen (p := ⟨w.heap.size + 1, 1, none⟩) (by simp)).trans (by simp))
  have s2 := (two_cells (v0 := .int .i64 0) (v1 := .int .i64 0) l4 l5).1
  have s3 := (two_cells (v0 := .int .i64 0) (v1 := .int .i64 0) l4 l5).2
  refine bodyPost_ret (v := .tuple #[.agg #[.int .i64 0, .int .i64 0], .int .i64 g]) (by simp [results, Try.results22, go_sem, s2, s3]) rfl ⟨rfl, ?_⟩
  exact (hB1.setCell (p := ⟨w.heap.size + 1, 0, none⟩) (by simp) _).setCell (p := ⟨w.heap.size + 1, 1, none⟩) (by simp) _
end Go.Proofs.Ytbgkgahmicepdaa
namespace Go.Proofs.Ytbgkgahmicepdaa
open Go.RowKit Go.Shelf
def kp (e : Int) (r : Int × Int × Int) : (Int × Int) × Int := if r.2.2 = 0 then ((r.1, r.2.1), e) else ((0, 1), if e = 0 then r.2.2 else e)
def kAdd (e : Int) (a b : Int × Int) : (Int × Int) × Int := kp e (addP a.1 a.2 b.1 b.2)
def kSub (e : Int) (a b : Int × Int) : (Int × Int) × Int := kp e (addP a.1 a.2 (-b.1) b.2)
def kMul (e : Int) (a b : Int × Int) : (Int × Int) × Int := kp e (mulP a.1 a.2 b.1 b.2)
def kVal (e : Int) (A B C u : Int × Int) : (Int × Int) × Int := kAdd (kMul (kAdd (kMul e C u).2 B (kMul e C u).1).2 (kAdd (kMul e C u).2 B (kMul e C u).1).1 u).2 A (kMul (kAdd (kMul e C u).2 B (kMul e C u).1).2 (kAdd (kMul e C u).2 B (kMul e C u).1).1 u).1
def kSlope (e : Int) (B C u : Int × Int) : (Int × Int) × Int := kAdd (kMul (kMul e C u).2 (2, 1) (kMul e C u).1).2 B (kMul (kMul e C u).2 (2, 1) (kMul e C u).1).1
def vF (a : Int × Int) : Bool := validF a.1 a.2
theorem fit_valid {p q : Int} : (fitP p q).2.2 = 0 ∨ (fitP p q).2.2 = 5 := by
 unfold fitP; split
 ·exact .inr rfl
 ·exact .inl rfl
theorem fit_ok {p q : Int} (hq : 0 < q) (c : Int.gcd p q = 1) (h : (fitP p q).2.2 = 0) : fitP p q = (p, q, 0) ∧ validF p q = true := by
 unfold fitP at *
 split at h
 ·cases h
 next hn =>
  rw [if_neg hn]
  exact ⟨rfl, (validF_iff _ _).2 ⟨by omega, by omega, by omega, by omega, c⟩⟩
theorem vF_zero : vF (0, 1) = true := (validF_iff _ _).2 ⟨by decide, by decide, by decide, by decide, by decide⟩
theorem kp_valid {e p q : Int} (hq : 0 < q) (c : Int.gcd p q = 1) : vF (kp e (fitP p q)).1 = true := by
 unfold kp
 by_cases h : (fitP p q).2.2 = 0
 ·rw [if_pos h, (fit_ok hq c h).1]
  exact (fit_ok hq c h).2
 ·rw [if_neg h]; exact vF_zero
theorem den_pos {a : Int × Int} (h : vF a = true) : 0 < a.2 := by have := (validF_iff _ _).1 h; omega
theorem kAdd_valid {e : Int} {a b : Int × Int} (ha : vF a = true) (hb : vF b = true) : vF (kAdd e a b).1 = true := kp_valid (lowD_pos (Int.mul_pos (den_pos ha) (den_pos hb))) (low_cop (Int.mul_pos (den_pos ha) (den_pos hb)))
theorem kSub_valid {e : Int} {a b : Int × Int} (ha : vF a = true) (hb : vF b = true) : vF (kSub e a b).1 = true := kp_valid (lowD_pos (Int.mul_pos (den_pos ha) (den_pos hb))) (low_cop (Int.mul_pos (den_pos ha) (den_pos hb)))
theorem kMul_valid {e : Int} {a b : Int × Int} (ha : vF a = true) (hb : vF b = true) : vF (kMul e a b).1 = true := kp_valid (lowD_pos (Int.mul_pos (den_pos ha) (den_pos hb))) (low_cop (Int.mul_pos (den_pos ha) (den_pos hb)))
theorem vF_two : vF (2, 1) = true := (validF_iff _ _).2 ⟨by decide, by decide, by decide, by decide, by decide⟩
theorem kVal_valid {e : Int} {A B C u : Int × Int} (hA : vF A = true) (hB : vF B = true) (hC : vF C = true) (hu : vF u = true) : vF (kVal e A B C u).1 = true := kAdd_valid hA (kMul_valid (kAdd_valid hB (kMul_valid hC hu)) hu)
theorem kSlope_valid {e : Int} {B C u : Int × Int} (hB : vF B = true) (hC : vF C = true) (hu : vF u = true) : vF (kSlope e B C u).1 = true := kAdd_valid hB (kMul_valid vF_two (kMul_valid hC hu))
end Go.Proofs.Ytbgkgahmicepdaa
namespace Go.Proofs.Ytbgkgahmicepdaa
def fr (a : Int × Int) : Rat := (a.1 : Rat) / (a.2 : Rat)
theorem cast_pos {d : Int} (h : 0 < d) : (0 : Rat) < (d : Rat) := Rat.intCast_pos.2 h
theorem cast_ne {d : Int} (h : 0 < d) : (d : Rat) ≠ 0 := fun e => by have := cast_pos h; rw [e] at this; exact Rat.lt_irrefl this
theorem frq_mul (a : Int × Int) (h : 0 < a.2) : fr a * (a.2 : Rat) = (a.1 : Rat) := Rat.div_mul_cancel (cast_ne h)
theorem frq_one (n : Int) : fr (n, 1) = (n : Rat) := by
 show (n : Rat) / (1 : Rat) = (n : Rat)
 grind
theorem frq_zero : fr (0, 1) = 0 := frq_one 0
theorem frq_le {a b : Int × Int} (ha : 0 < a.2) (hb : 0 < b.2) : fr a ≤ fr b ↔ a.1 * b.2 ≤ b.1 * a.2 := by
 have h := frq_mul a ha
 have k := frq_mul b hb
 have pa := cast_pos ha
 have pb := cast_pos hb
 rw [← Rat.intCast_le_intCast, Rat.intCast_mul, Rat.intCast_mul, ← h, ← k]
 have pp := Rat.mul_pos pa pb
 rw [show fr a * (a.2 : Rat) * (b.2 : Rat) = fr a * ((a.2 : Rat) * (b.2 : Rat)) by grind, show fr b * (b.2 : Rat) * (a.2 : Rat) = fr b * ((a.2 : Rat) * (b.2 : Rat)) by grind]
 exact ⟨fun x => Rat.mul_le_mul_of_nonneg_right x (Rat.le_of_lt pp), fun x => Rat.le_of_mul_le_mul_right x pp⟩
theorem frq_lt {a b : Int × Int} (ha : 0 < a.2) (hb : 0 < b.2) : fr a < fr b ↔ a.1 * b.2 < b.1 * a.2 := by
 rw [← Rat.not_le, frq_le hb ha]; omega
theorem frq_eq {a b : Int × Int} (ha : 0 < a.2) (hb : 0 < b.2) : fr a = fr b ↔ a.1 * b.2 = b.1 * a.2 := by
 constructor
 ·intro h
  have x := (frq_le ha hb).1 (by rw [h]; exact Rat.le_refl)
  have y := (frq_le hb ha).1 (by rw [h]; exact Rat.le_refl)
  omega
 ·intro h
  exact Rat.le_antisymm ((frq_le ha hb).2 (by omega)) ((frq_le hb ha).2 (by omega))
theorem frq_low (n d : Int) (hd : 0 < d) : fr (lowN n d, lowD n d) = (n : Rat) / (d : Rat) :=
 (frq_eq (a := (lowN n d, lowD n d)) (b := (n, d)) (lowD_pos hd) hd).2 (low_cross n d)
theorem frq_inj {a b : Int × Int} (va : vF a = true) (vb : vF b = true) (h : fr a = fr b) : a = b := by
 obtain ⟨a1, _, _, _, a5⟩ := (validF_iff _ _).1 va
 obtain ⟨b1, _, _, _, b5⟩ := (validF_iff _ _).1 vb
 have := low_unique (by omega) (by omega) a5 b5 ((frq_eq (a := a) (b := b) (by omega) (by omega)).1 h)
 exact Prod.ext this.1 this.2
theorem div_add (a b c d : Rat) (hb : b ≠ 0) (hd : d ≠ 0) : a / b + c / d = (a * d + c * b) / (b * d) := by grind
theorem frq_add {a b : Int × Int} (ha : 0 < a.2) (hb : 0 < b.2) : fr (lowN (a.1 * b.2 + b.1 * a.2) (a.2 * b.2), lowD (a.1 * b.2 + b.1 * a.2) (a.2 * b.2)) = fr a + fr b := by
 rw [frq_low _ _ (Int.mul_pos ha hb)]
 unfold fr
 rw [div_add _ _ _ _ (cast_ne ha) (cast_ne hb)]
 simp
theorem frq_neg (a : Int × Int) : fr (-a.1, a.2) = -fr a := by unfold fr; simp [Rat.div_def, Rat.neg_mul]
theorem frq_times {a b : Int × Int} (ha : 0 < a.2) (hb : 0 < b.2) : fr (lowN (a.1 * b.1) (a.2 * b.2), lowD (a.1 * b.1) (a.2 * b.2)) = fr a * fr b := by
 rw [frq_low _ _ (Int.mul_pos ha hb)]
 unfold fr
 have := cast_ne ha
 have := cast_ne hb
 simp
 grind
theorem kp_ok {e p q : Int} (h : (kp e (fitP p q)).2 = 0) : e = 0 ∧ (kp e (fitP p q)).1 = (p, q) := by
 unfold kp at *
 by_cases z : (fitP p q).2.2 = 0
 ·rw [if_pos z] at h ⊢
  refine ⟨h, ?_⟩
  unfold fitP at *
  split at z
  ·cases z
  next hn => rw [if_neg hn]
 ·rw [if_neg z] at h
  simp only at h
  split at h
  ·exact absurd h z
  next hn => exact absurd h hn
theorem kAdd_ok {e : Int} {a b : Int × Int} (ha : 0 < a.2) (hb : 0 < b.2) (h : (kAdd e a b).2 = 0) : e = 0 ∧ fr (kAdd e a b).1 = fr a + fr b := by
 obtain ⟨h1, h2⟩ := kp_ok (h : (kp e (fitP _ _)).2 = 0)
 exact ⟨h1, by rw [← frq_add ha hb]; exact congrArg fr h2⟩
theorem kSub_ok {e : Int} {a b : Int × Int} (ha : 0 < a.2) (hb : 0 < b.2) (h : (kSub e a b).2 = 0) : e = 0 ∧ fr (kSub e a b).1 = fr a - fr b := by
 obtain ⟨h1, h2⟩ := kAdd_ok (e := e) (a := a) (b := (-b.1, b.2)) ha hb h
 exact ⟨h1, by rw [frq_neg] at h2; rw [Rat.sub_eq_add_neg, ← h2]; rfl⟩
theorem kMul_ok {e : Int} {a b : Int × Int} (ha : 0 < a.2) (hb : 0 < b.2) (h : (kMul e a b).2 = 0) : e = 0 ∧ fr (kMul e a b).1 = fr a * fr b := by
 obtain ⟨h1, h2⟩ := kp_ok (h : (kp e (fitP _ _)).2 = 0)
 exact ⟨h1, by rw [← frq_times ha hb]; exact congrArg fr h2⟩
theorem kVal_ok {e : Int} {A B C u : Int × Int} (vA : vF A = true) (vB : vF B = true) (vC : vF C = true) (vu : vF u = true) (h : (kVal e A B C u).2 = 0) : e = 0 ∧ fr (kVal e A B C u).1 = fr A + (fr B + fr C * fr u) * fr u := by
 unfold kVal at h ⊢
 have v1 : vF (kMul e C u).1 = true := kMul_valid vC vu
 have v2 : vF (kAdd (kMul e C u).2 B (kMul e C u).1).1 = true := kAdd_valid vB v1
 obtain ⟨h3, e4⟩ := kAdd_ok (den_pos vA) (den_pos (kMul_valid v2 vu)) h
 obtain ⟨h2, e3⟩ := kMul_ok (den_pos v2) (den_pos vu) h3
 obtain ⟨h1, e2⟩ := kAdd_ok (den_pos vB) (den_pos v1) h2
 obtain ⟨h0, e1⟩ := kMul_ok (den_pos vC) (den_pos vu) h1
 exact ⟨h0, by rw [e4, e3, e2, e1]⟩
theorem kSlope_ok {e : Int} {B C u : Int × Int} (vB : vF B = true) (vC : vF C = true) (vu : vF u = true) (h : (kSlope e B C u).2 = 0) : e = 0 ∧ fr (kSlope e B C u).1 = fr B + 2 * (fr C * fr u) := by
 unfold kSlope at h ⊢
 have v1 : vF (kMul e C u).1 = true := kMul_valid vC vu
 obtain ⟨h2, e3⟩ := kAdd_ok (den_pos vB) (den_pos (kMul_valid vF_two v1)) h
 obtain ⟨h1, e2⟩ := kMul_ok (den_pos vF_two) (den_pos v1) h2
 obtain ⟨h0, e1⟩ := kMul_ok (den_pos vC) (den_pos vu) h1
 exact ⟨h0, by
  rw [e3, e2, e1]
  have : fr (2, 1) = 2 := frq_one 2
  rw [this]⟩

structure QP where
 f : Rat
 a : Rat
 b : Rat
 c : Rat
def qv (p : QP) (t : Rat) : Rat := p.a + (p.b + p.c * (t - p.f)) * (t - p.f)
def qs (p : QP) (t : Rat) : Rat := p.b + 2 * (p.c * (t - p.f))
theorem qv_diff (p : QP) (x y : Rat) : qv p y - qv p x = (y - x) * (p.b + p.c * ((x - p.f) + (y - p.f))) := by
 unfold qv; grind
theorem rat_total (a b : Rat) : a ≤ b ∨ b ≤ a := Rat.le_total
theorem slope_mid {b c l u v : Rat} (hb : 0 ≤ b) (hl : 0 ≤ b + 2 * (c * l)) (u0 : 0 ≤ u) (v0 : u ≤ v) (vl : v ≤ l) : 0 ≤ b + c * (u + v) := by
 rcases rat_total 0 c with h | h
 ·have := Rat.mul_nonneg h (show 0 ≤ u + v by grind)
  grind
 ·have := Rat.mul_nonneg (show 0 ≤ -c by grind) (show 0 ≤ 2 * l - (u + v) by grind)
  grind
theorem qv_mono {p : QP} {x y z : Rat} (hb : 0 ≤ p.b) (hs : 0 ≤ qs p z) (hx : p.f ≤ x) (xy : x ≤ y) (yz : y ≤ z) : qv p x ≤ qv p y := by
 have h := slope_mid (b := p.b) (c := p.c) (l := z - p.f) (u := x - p.f) (v := y - p.f) hb hs (by grind) (by grind) (by grind)
 have := Rat.mul_nonneg (show 0 ≤ y - x by grind) h
 have := qv_diff p x y
 grind
theorem qs_between {p : QP} {y z m n : Rat} (h1 : m ≤ p.b) (h2 : p.b ≤ n) (h3 : m ≤ qs p z) (h4 : qs p z ≤ n) (hy : p.f ≤ y) (yz : y ≤ z) : m ≤ qs p y ∧ qs p y ≤ n := by
 unfold qs at *
 have h := slope_mid (b := p.b - m) (c := p.c) (l := z - p.f) (u := y - p.f) (v := y - p.f) (by grind) (by grind) (by grind) (by grind) (by grind)
 have k := slope_mid (b := n - p.b) (c := -p.c) (l := z - p.f) (u := y - p.f) (v := y - p.f) (by grind) (by grind) (by grind) (by grind) (by grind)
 grind
def atL : List QP → Rat → Rat
 | [], _ => 0
 | [p], t => if p.f ≤ t then qv p t else p.a
 | p :: q :: r, t => if q.f ≤ t then atL (q :: r) t else if p.f ≤ t then qv p t else p.a
def slL : List QP → Rat → Rat
 | [], _ => 0
 | [p], t => if p.f ≤ t then qs p t else 0
 | p :: q :: r, t => if q.f ≤ t then slL (q :: r) t else if p.f ≤ t then qs p t else 0
def lastA : List QP → Rat
 | [] => 0
 | [p] => p.a
 | _ :: q :: r => lastA (q :: r)
def headF : List QP → Rat
 | [] => 0
 | p :: _ => p.f
def headA : List QP → Rat
 | [] => 0
 | p :: _ => p.a
def lastF : List QP → Rat
 | [] => 0
 | [p] => p.f
 | _ :: q :: r => lastF (q :: r)
inductive Up (m : Rat) : List QP → Prop
 | rest (p : QP) : p.b = 0 → p.c = 0 → 0 ≤ m → Up m [p]
 | go (p q : QP) (r : List QP) : p.f < q.f → 0 ≤ p.b → p.b ≤ m → 0 ≤ qs p q.f → qs p q.f ≤ m → qv p q.f = q.a → qs p q.f = q.b → Up m (q :: r) → Up m (p :: q :: r)
theorem qv_self (p : QP) : qv p p.f = p.a := by unfold qv; grind
theorem Up.range {m : Rat} {L : List QP} (h : Up m L) (t : Rat) : headA L ≤ atL L t ∧ atL L t ≤ lastA L ∧ headA L ≤ lastA L := by
 induction h with
 | rest p hb hc hm =>
  have : qv p t = p.a := by unfold qv; rw [hb, hc]; grind
  simp only [headA, lastA, atL]
  split <;> grind
 | go p q r hf h0 h1 h2 h3 h4 h5 h ih =>
  obtain ⟨i1, i2, i3⟩ := ih
  have hm := qv_mono (p := p) (x := p.f) (y := q.f) (z := q.f) h0 h2 Rat.le_refl (Rat.le_of_lt hf) Rat.le_refl
  rw [qv_self, h4] at hm
  simp only [headA] at *
  have e1 : lastA (p :: q :: r) = lastA (q :: r) := rfl
  rw [e1]
  by_cases c : q.f ≤ t
  ·have : atL (p :: q :: r) t = atL (q :: r) t := by rw [atL, if_pos c]
   grind
  ·by_cases d : p.f ≤ t
   ·have e : atL (p :: q :: r) t = qv p t := by rw [atL, if_neg c, if_pos d]
    have a1 := qv_mono (p := p) (x := p.f) (y := t) (z := q.f) h0 h2 Rat.le_refl d (by grind)
    have a2 := qv_mono (p := p) (x := t) (y := q.f) (z := q.f) h0 h2 d (by grind) Rat.le_refl
    rw [qv_self] at a1
    grind
   ·have : atL (p :: q :: r) t = p.a := by rw [atL, if_neg c, if_neg d]
    grind
theorem Up.mono {m : Rat} {L : List QP} (h : Up m L) {x y : Rat} (xy : x ≤ y) : atL L x ≤ atL L y := by
 induction h with
 | rest p hb hc hm =>
  have : ∀ t, qv p t = p.a := fun t => by unfold qv; rw [hb, hc]; grind
  simp only [atL]
  split <;> split <;> grind
 | go p q r hf h0 h1 h2 h3 h4 h5 h ih =>
  by_cases cx : q.f ≤ x
  ·rw [atL, if_pos cx, atL, if_pos (Rat.le_trans cx xy)]; exact ih
  ·by_cases cy : q.f ≤ y
   ·have e : atL (p :: q :: r) y = atL (q :: r) y := by rw [atL, if_pos cy]
    have r1 := (h.range y).1
    simp only [headA] at r1
    by_cases d : p.f ≤ x
    ·have e2 : atL (p :: q :: r) x = qv p x := by rw [atL, if_neg cx, if_pos d]
     have a2 := qv_mono (p := p) (x := x) (y := q.f) (z := q.f) h0 h2 d (by grind) Rat.le_refl
     grind
    ·have e2 : atL (p :: q :: r) x = p.a := by rw [atL, if_neg cx, if_neg d]
     have hm := qv_mono (p := p) (x := p.f) (y := q.f) (z := q.f) h0 h2 Rat.le_refl (Rat.le_of_lt hf) Rat.le_refl
     rw [qv_self, h4] at hm
     grind
   ·by_cases d : p.f ≤ x
    ·have e2 : atL (p :: q :: r) x = qv p x := by rw [atL, if_neg cx, if_pos d]
     have e3 : atL (p :: q :: r) y = qv p y := by rw [atL, if_neg cy, if_pos (Rat.le_trans d xy)]
     rw [e2, e3]
     exact qv_mono (p := p) (z := q.f) h0 h2 d xy (by grind)
    ·have e2 : atL (p :: q :: r) x = p.a := by rw [atL, if_neg cx, if_neg d]
     by_cases d' : p.f ≤ y
     ·have e3 : atL (p :: q :: r) y = qv p y := by rw [atL, if_neg cy, if_pos d']
      have a1 := qv_mono (p := p) (x := p.f) (y := y) (z := q.f) h0 h2 Rat.le_refl d' (by grind)
      rw [qv_self] at a1
      grind
     ·have e3 : atL (p :: q :: r) y = p.a := by rw [atL, if_neg cy, if_neg d']
      grind
theorem Up.slope {m : Rat} {L : List QP} (h : Up m L) (t : Rat) : 0 ≤ slL L t ∧ slL L t ≤ m := by
 induction h with
 | rest p hb hc hm =>
  have : qs p t = 0 := by unfold qs; rw [hb, hc]; grind
  simp only [slL]
  split <;> grind
 | go p q r hf h0 h1 h2 h3 h4 h5 h ih =>
  by_cases c : q.f ≤ t
  ·rw [slL, if_pos c]; exact ih
  ·by_cases d : p.f ≤ t
   ·rw [slL, if_neg c, if_pos d]
    exact qs_between h0 h1 h2 h3 d (by grind)
   ·rw [slL, if_neg c, if_neg d]
    grind
theorem Up.after {m : Rat} {L : List QP} (h : Up m L) {t : Rat} (ht : lastF L ≤ t) : atL L t = lastA L := by
 induction h with
 | rest p hb hc hm =>
  have : qv p t = p.a := by unfold qv; rw [hb, hc]; grind
  simp only [lastA, atL]
  split <;> grind
 | go p q r hf h0 h1 h2 h3 h4 h5 h ih =>
  have e : lastF (p :: q :: r) = lastF (q :: r) := rfl
  have e1 : lastA (p :: q :: r) = lastA (q :: r) := rfl
  have up : ∀ {L : List QP}, Up m L → headF L ≤ lastF L := fun {L} h => by
   induction h with
   | rest p _ _ _ => exact Rat.le_refl
   | go p q r hf _ _ _ _ _ _ _ ih =>
    have e : lastF (p :: q :: r) = lastF (q :: r) := rfl
    rw [e]
    simp only [headF] at *
    grind
  have := up h
  simp only [headF] at this
  rw [e] at ht
  rw [e1, atL, if_pos (Rat.le_trans this ht)]
  exact ih ht
end Go.Proofs.Ytbgkgahmicepdaa
namespace Go.Proofs.Ytbgkgahmicepdaa
open Go.RowKit Go.Shelf
set_option maxRecDepth 100000 in
set_option maxHeartbeats 8000000 in
theorem sub_all (an ad bn bd : Int) (va : validF an ad = true) (vb : validF bn bd = true) (w : World) :
  Calls Try.prog 33 #[.agg #[.int .i64 an, .int .i64 ad], .agg #[.int .i64 bn, .int .i64 bd]] w fun e w' => e = .returned (.tuple #[.agg #[.int .i64 (addP an ad (-bn) bd).1, .int .i64 (addP an ad (-bn) bd).2.1], .int .i64 (addP an ad (-bn) bd).2.2]) ∧ Below w.heap.size w w' := by
 obtain ⟨P, hP⟩ : ∃ P, addP an ad (-bn) bd = P := ⟨_, rfl⟩
 have HPP := Lib.hid hP
 rw [hP]
 clear hP
 obtain ⟨b1, b2, b3, b4, b5⟩ := (validF_iff _ _).1 vb
 have wn : IntKind.i64.wrap (-bn) = -bn := IntWalk.i64_in _ (by omega)
 have HVA := Lib.hid va
 have HVB := Lib.hid vb
 have HC := Lib.hid (add_all an ad (-bn) bd va (valid_neg vb))
 clear va vb b5
 go_enter Try.func33, Try.ntmps33
 go_wp2_with (first
  | (go_at_call 25; (with_reducible refine (valid_any an ad _).mono ?_); rintro e w1 ⟨rfl, hb1⟩; rw [HVA.out]; have z0 : w1.cell? ⟨w.heap.size, 0, none⟩ = some (.int .i64 an) := (hb1.cell (p := ⟨w.heap.size, 0, none⟩) (by simp <;> omega)).trans (by simp [go_sem, World.cell?_alloc_past]); have z1 : w1.cell? ⟨w.heap.size, 1, none⟩ = some (.int .i64 ad) := (hb1.cell (p := ⟨w.heap.size, 1, none⟩) (by simp <;> omega)).trans (by simp [go_sem, World.cell?_alloc_past]); have z2 : w1.cell? ⟨w.heap.size + 1, 0, none⟩ = some (.int .i64 bn) := (hb1.cell (p := ⟨w.heap.size + 1, 0, none⟩) (by simp <;> omega)).trans (by simp [go_sem, World.cell?_alloc_past]); have z3 : w1.cell? ⟨w.heap.size + 1, 1, none⟩ = some (.int .i64 bd) := (hb1.cell (p := ⟨w.heap.size + 1, 1, none⟩) (by simp <;> omega)).trans (by simp [go_sem, World.cell?_alloc_past]))
  | (go_at_call 25; (with_reducible refine (valid_any bn bd _).mono ?_); rintro e w2 ⟨rfl, hb2⟩; rw [HVB.out]; have z4 : w2.cell? ⟨w.heap.size, 0, none⟩ = some (.int .i64 an) := (hb2.cell (p := ⟨w.heap.size, 0, none⟩) (World.block_lt_of_cell? _ _ z0)).trans z0; have z5 : w2.cell? ⟨w.heap.size, 1, none⟩ = some (.int .i64 ad) := (hb2.cell (p := ⟨w.heap.size, 1, none⟩) (World.block_lt_of_cell? _ _ z1)).trans z1; have z6 : w2.cell? ⟨w.heap.size + 1, 0, none⟩ = some (.int .i64 bn) := (hb2.cell (p := ⟨w.heap.size + 1, 0, none⟩) (World.block_lt_of_cell? _ _ z2)).trans z2; have z7 : w2.cell? ⟨w.heap.size + 1, 1, none⟩ = some (.int .i64 bd) := (hb2.cell (p := ⟨w.heap.size + 1, 1, none⟩) (World.block_lt_of_cell? _ _ z3)).trans z3)
  | (go_at_call 32; (with_reducible refine (HC.out _).mono ?_); rintro e w3 ⟨rfl, hb3⟩; rw [HPP.out]; have hb4 := hb1.trans ((hb2.trans (hb3.mono hb2.size)).mono hb1.size); have l4 : w3.cell? ⟨w.heap.size + 1 + 1, 0, none⟩ = some (.int .i64 0) := (hb4.cell (p := ⟨w.heap.size + 1 + 1, 0, none⟩) (by simp <;> omega)).trans (by simp [go_sem]); have l5 : w3.cell? ⟨w.heap.size + 1 + 1, 1, none⟩ = some (.int .i64 0) := (hb4.cell (p := ⟨w.heap.size + 1 + 1, 1, none⟩) (by simp <;> omega)).trans (by simp [go_sem]); have l6 : w3.frozen? ⟨w.heap.size + 1 + 1, 0, none⟩ = false := (hb4.frozen (p := ⟨w.heap.size + 1 + 1, 0, none⟩) (by simp <;> omega)).trans (by simp [go_sem]); have l7 : w3.frozen? ⟨w.heap.size + 1 + 1, 1, none⟩ = false := (hb4.frozen (p := ⟨w.heap.size + 1 + 1, 1, none⟩) (by simp <;> omega)).trans (by simp [go_sem])))
 have s2 := (two_cells (v0 := .int .i64 P.1) (v1 := .int .i64 P.2.1) l4 l5).1
 have s3 := (two_cells (v0 := .int .i64 P.1) (v1 := .int .i64 P.2.1) l4 l5).2
 refine bodyPost_ret (v := .tuple #[.agg #[.int .i64 P.1, .int .i64 P.2.1], .int .i64 P.2.2]) (by simp [results, Try.results33, go_sem, s2, s3]) rfl ⟨rfl, ?_⟩
 have hBW := (((below_new w (.cells #[.int .i64 an, .int .i64 ad] 29)).alloc (by simp) (.cells #[.int .i64 bn, .int .i64 bd] 29)).alloc (by simp <;> omega) (.cells #[.int .i64 0, .int .i64 0] 29)).trans (hb4.mono (by simp <;> omega))
 exact (hBW.setCell (p := ⟨w.heap.size + 1 + 1, 0, none⟩) (by simp <;> omega) _).setCell (p := ⟨w.heap.size + 1 + 1, 1, none⟩) (by simp <;> omega) _
end Go.Proofs.Ytbgkgahmicepdaa
namespace Go.Proofs.Ytbgkgahmicepdaa
open Go.RowKit Go.Shelf
set_option maxHeartbeats 1000000 in
theorem qzero_any (w : World) : Calls Try.prog 37 #[] w fun e w' => e = .returned (.agg #[.int .i64 0, .int .i64 1]) ∧ Below w.heap.size w w' := by
 go_enter Try.func37, Try.ntmps37
 go_wp2_with fail
 refine bodyPost_ret (v := .agg #[.int .i64 0, .int .i64 1]) (by simp [results, Try.results37, go_sem]) rfl ⟨rfl, ?_⟩
 exact below_new _ _
set_option maxHeartbeats 2000000 in
theorem qkeep_any (b : Nat) (e n d er : Int) (w : World) (hc : w.cell? ⟨b, 0, none⟩ = some (.int .i64 e)) (hf : w.frozen? ⟨b, 0, none⟩ = false) :
  Calls Try.prog 62 #[.pointer (some ⟨b, 0, none⟩), .agg #[.int .i64 n, .int .i64 d], .int .i64 er] w fun x w' => x = .returned (.agg #[.int .i64 (kp e (n, d, er)).1.1, .int .i64 (kp e (n, d, er)).1.2]) ∧ Sm b (kp e (n, d, er)).2 w w' := by
 have hb : b < w.heap.size := World.block_lt_of_cell? _ _ hc
 have hsz : (w.alloc (.cells #[.int .i64 n, .int .i64 d] 29)).heap.size = w.heap.size + 1 := by simp
 by_cases z : er = 0
 ·have HR : Hid (kp e (n, d, er) = ((n, d), e)) := Lib.hid (by unfold kp; rw [if_pos z])
  rw [HR.out]
  subst z
  go_enter Try.func62, Try.ntmps62
  go_wp2_with fail
  refine bodyPost_ret (v := .agg #[.int .i64 n, .int .i64 d]) (by simp [results, Try.results62, go_sem]) rfl ⟨rfl, ?_⟩
  exact Sm.of ((below_new w _).alloc (by simp) _) hc hf
 ·have z1 : (er == 0) = false := beq_eq_false_iff_ne.2 z
  have z2 : (er != 0) = true := by simpa using z
  by_cases y : e = 0
  ·have HR : Hid (kp e (n, d, er) = ((0, 1), er)) := Lib.hid (by unfold kp; rw [if_neg z, if_pos y])
   rw [HR.out]
   subst y
   clear z
   go_enter Try.func62, Try.ntmps62
   go_wp2_with (go_at_call 37; (with_reducible refine (qzero_any _).mono ?_); rintro x w1 ⟨rfl, hb1⟩; have c0 : w1.cell? ⟨w.heap.size + 1, 0, none⟩ = some (.int .i64 0) := (hb1.cell (p := ⟨w.heap.size + 1, 0, none⟩) (by simp <;> omega)).trans (by simp [go_sem]); have c1 : w1.cell? ⟨w.heap.size + 1, 1, none⟩ = some (.int .i64 0) := (hb1.cell (p := ⟨w.heap.size + 1, 1, none⟩) (by simp <;> omega)).trans (by simp [go_sem]); have c2 : w1.frozen? ⟨w.heap.size + 1, 0, none⟩ = false := (hb1.frozen (p := ⟨w.heap.size + 1, 0, none⟩) (by simp <;> omega)).trans (by simp [go_sem]); have c3 : w1.frozen? ⟨w.heap.size + 1, 1, none⟩ = false := (hb1.frozen (p := ⟨w.heap.size + 1, 1, none⟩) (by simp <;> omega)).trans (by simp [go_sem]))
   have l0 := (two_cells (v0 := .int .i64 0) (v1 := .int .i64 1) c0 c1).1
   have l1 := (two_cells (v0 := .int .i64 0) (v1 := .int .i64 1) c0 c1).2
   refine bodyPost_ret (v := .agg #[.int .i64 0, .int .i64 1]) (by simp [results, Try.results62, go_sem, l0, l1]) rfl ⟨rfl, ?_⟩
   have k1 := (((Sm.set er hc hf).alloc (.cells #[.int .i64 n, .int .i64 d] 29)).alloc (.cells #[.int .i64 0, .int .i64 0] 29)).then hb1
   exact (k1.setCell (p := ⟨w.heap.size + 1, 0, none⟩) (Nat.le_succ _) hb _).setCell (p := ⟨w.heap.size + 1, 1, none⟩) (Nat.le_succ _) hb _
  ·have y1 : (e == 0) = false := beq_eq_false_iff_ne.2 y
   have HR : Hid (kp e (n, d, er) = ((0, 1), e)) := Lib.hid (by unfold kp; rw [if_neg z, if_neg y])
   rw [HR.out]
   clear y z
   go_enter Try.func62, Try.ntmps62
   go_wp2_with (go_at_call 37; (with_reducible refine (qzero_any _).mono ?_); rintro x w1 ⟨rfl, hb1⟩; have c0 : w1.cell? ⟨w.heap.size + 1, 0, none⟩ = some (.int .i64 0) := (hb1.cell (p := ⟨w.heap.size + 1, 0, none⟩) (by simp <;> omega)).trans (by simp [go_sem]); have c1 : w1.cell? ⟨w.heap.size + 1, 1, none⟩ = some (.int .i64 0) := (hb1.cell (p := ⟨w.heap.size + 1, 1, none⟩) (by simp <;> omega)).trans (by simp [go_sem]); have c2 : w1.frozen? ⟨w.heap.size + 1, 0, none⟩ = false := (hb1.frozen (p := ⟨w.heap.size + 1, 0, none⟩) (by simp <;> omega)).trans (by simp [go_sem]); have c3 : w1.frozen? ⟨w.heap.size + 1, 1, none⟩ = false := (hb1.frozen (p := ⟨w.heap.size + 1, 1, none⟩) (by simp <;> omega)).trans (by simp [go_sem]))
   have l0 := (two_cells (v0 := .int .i64 0) (v1 := .int .i64 1) c0 c1).1
   have l1 := (two_cells (v0 := .int .i64 0) (v1 := .int .i64 1) c0 c1).2
   refine bodyPost_ret (v := .agg #[.int .i64 0, .int .i64 1]) (by simp [results, Try.results62, go_sem, l0, l1]) rfl ⟨rfl, ?_⟩
   have k0 : Below w.heap.size w ((w.alloc (.cells #[.int .i64 n, .int .i64 d] 29)).alloc (.cells #[.int .i64 0, .int .i64 0] 29)) := (below_new _ _).alloc (by simp) _
   have k1 := k0.trans (hb1.mono k0.size)
   exact Sm.of ((k1.setCell (p := ⟨w.heap.size + 1, 0, none⟩) (Nat.le_succ _) _).setCell (p := ⟨w.heap.size + 1, 1, none⟩) (Nat.le_succ _) _) hc hf
set_option maxHeartbeats 4000000 in
theorem kadd_any (b : Nat) (e : Int) (x y : Int × Int) (hx : vF x = true) (hy : vF y = true) (w : World) (hc : w.cell? ⟨b, 0, none⟩ = some (.int .i64 e)) (hf : w.frozen? ⟨b, 0, none⟩ = false) :
  Calls Try.prog 63 #[.pointer (some ⟨b, 0, none⟩), .agg #[.int .i64 x.1, .int .i64 x.2], .agg #[.int .i64 y.1, .int .i64 y.2]] w fun z w' => z = .returned (.agg #[.int .i64 (kAdd e x y).1.1, .int .i64 (kAdd e x y).1.2]) ∧ Sm b (kAdd e x y).2 w w' := by
 obtain ⟨an, ad⟩ := x
 obtain ⟨bn, bd⟩ := y
 have hb : b < w.heap.size := World.block_lt_of_cell? _ _ hc
 obtain ⟨P, hP⟩ : ∃ P, addP an ad bn bd = P := ⟨_, rfl⟩
 have HC : Hid (∀ w : World, Calls Try.prog 32 #[.agg #[.int .i64 an, .int .i64 ad], .agg #[.int .i64 bn, .int .i64 bd]] w fun e w' => e = .returned (.tuple #[.agg #[.int .i64 P.1, .int .i64 P.2.1], .int .i64 P.2.2]) ∧ Below w.heap.size w w') := Lib.hid fun w => by
  have := add_all an ad bn bd hx hy w
  rwa [hP] at this
 have HR : Hid (kAdd e (an, ad) (bn, bd) = kp e (P.1, P.2.1, P.2.2)) := Lib.hid (by unfold kAdd; rw [hP])
 rw [HR.out]
 clear hP hx hy
 generalize hK : kp e (P.1, P.2.1, P.2.2) = K
 have HK := Lib.hid hK
 clear hK
 go_enter Try.func63, Try.ntmps63
 go_wp2_with (first
  | (go_at_call 32; (with_reducible refine (HC.out _).mono ?_); rintro x w1 ⟨rfl, hb1⟩; have k0 : Below w.heap.size w w1 := (((below_new w (.cells #[.int .i64 an, .int .i64 ad] 29)).alloc (by simp) (.cells #[.int .i64 bn, .int .i64 bd] 29)).alloc (by simp <;> omega) (.cells #[.int .i64 0, .int .i64 0] 29)).trans (hb1.mono (by simp <;> omega)); have q0 : w1.cell? ⟨w.heap.size + 1 + 1, 0, none⟩ = some (.int .i64 0) := (hb1.cell (p := ⟨w.heap.size + 1 + 1, 0, none⟩) (by simp <;> omega)).trans (by simp [go_sem]); have q1 : w1.cell? ⟨w.heap.size + 1 + 1, 1, none⟩ = some (.int .i64 0) := (hb1.cell (p := ⟨w.heap.size + 1 + 1, 1, none⟩) (by simp <;> omega)).trans (by simp [go_sem]); have q2 : w1.frozen? ⟨w.heap.size + 1 + 1, 0, none⟩ = false := (hb1.frozen (p := ⟨w.heap.size + 1 + 1, 0, none⟩) (by simp <;> omega)).trans (by simp [go_sem]); have q3 : w1.frozen? ⟨w.heap.size + 1 + 1, 1, none⟩ = false := (hb1.frozen (p := ⟨w.heap.size + 1 + 1, 1, none⟩) (by simp <;> omega)).trans (by simp [go_sem]); have q4 : w.heap.size + 1 + 1 < w1.heap.size := World.block_lt_of_cell? _ _ q0)
  | (go_at_call 62; (with_reducible refine (qkeep_any b e P.1 P.2.1 P.2.2 _ ((k0.cell (p := ⟨b, 0, none⟩) hb).trans hc) ((k0.frozen (p := ⟨b, 0, none⟩) hb).trans hf)).mono ?_); rintro x w2 ⟨rfl, hs2⟩; rw [HK.out] at hs2 ⊢; have r0 := (hs2.other (p := ⟨w.heap.size + 1 + 1, 0, none⟩) q4 (by simp <;> omega)).trans q0; have r1 := (hs2.other (p := ⟨w.heap.size + 1 + 1, 1, none⟩) q4 (by simp <;> omega)).trans q1; have r2 := (hs2.otherF (p := ⟨w.heap.size + 1 + 1, 0, none⟩) q4 (by simp <;> omega)).trans q2; have r3 := (hs2.otherF (p := ⟨w.heap.size + 1 + 1, 1, none⟩) q4 (by simp <;> omega)).trans q3))
 have l0 := (two_cells (v0 := .int .i64 K.1.1) (v1 := .int .i64 K.1.2) r0 r1).1
 have l1 := (two_cells (v0 := .int .i64 K.1.1) (v1 := .int .i64 K.1.2) r0 r1).2
 refine bodyPost_ret (v := .agg #[.int .i64 K.1.1, .int .i64 K.1.2]) (by simp [results, Try.results63, go_sem, l0, l1]) rfl ⟨rfl, ?_⟩
 exact ((Sm.from k0 hb hs2).setCell (p := ⟨w.heap.size + 1 + 1, 0, none⟩) (by simp <;> omega) hb _).setCell (p := ⟨w.heap.size + 1 + 1, 1, none⟩) (by simp <;> omega) hb _
set_option maxHeartbeats 4000000 in
theorem ksub_any (b : Nat) (e : Int) (x y : Int × Int) (hx : vF x = true) (hy : vF y = true) (w : World) (hc : w.cell? ⟨b, 0, none⟩ = some (.int .i64 e)) (hf : w.frozen? ⟨b, 0, none⟩ = false) :
  Calls Try.prog 38 #[.pointer (some ⟨b, 0, none⟩), .agg #[.int .i64 x.1, .int .i64 x.2], .agg #[.int .i64 y.1, .int .i64 y.2]] w fun z w' => z = .returned (.agg #[.int .i64 (kSub e x y).1.1, .int .i64 (kSub e x y).1.2]) ∧ Sm b (kSub e x y).2 w w' := by
 obtain ⟨an, ad⟩ := x
 obtain ⟨bn, bd⟩ := y
 have hb : b < w.heap.size := World.block_lt_of_cell? _ _ hc
 obtain ⟨P, hP⟩ : ∃ P, addP an ad (-bn) bd = P := ⟨_, rfl⟩
 have HC : Hid (∀ w : World, Calls Try.prog 33 #[.agg #[.int .i64 an, .int .i64 ad], .agg #[.int .i64 bn, .int .i64 bd]] w fun e w' => e = .returned (.tuple #[.agg #[.int .i64 P.1, .int .i64 P.2.1], .int .i64 P.2.2]) ∧ Below w.heap.size w w') := Lib.hid fun w => by
  have := sub_all an ad bn bd hx hy w
  rwa [hP] at this
 have HR : Hid (kSub e (an, ad) (bn, bd) = kp e (P.1, P.2.1, P.2.2)) := Lib.hid (by unfold kSub; rw [hP])
 rw [HR.out]
 clear hP hx hy
 generalize hK : kp e (P.1, P.2.1, P.2.2) = K
 have HK := Lib.hid hK
 clear hK
 go_enter Try.func38, Try.ntmps38
 go_wp2_with (first
  | (go_at_call 33; (with_reducible refine (HC.out _).mono ?_); rintro x w1 ⟨rfl, hb1⟩; have k0 : Below w.heap.size w w1 := (((below_new w (.cells #[.int .i64 an, .int .i64 ad] 29)).alloc (by simp) (.cells #[.int .i64 bn, .int .i64 bd] 29)).alloc (by simp <;> omega) (.cells #[.int .i64 0, .int .i64 0] 29)).trans (hb1.mono (by simp <;> omega)); have q0 : w1.cell? ⟨w.heap.size + 1 + 1, 0, none⟩ = some (.int .i64 0) := (hb1.cell (p := ⟨w.heap.size + 1 + 1, 0, none⟩) (by simp <;> omega)).trans (by simp [go_sem]); have q1 : w1.cell? ⟨w.heap.size + 1 + 1, 1, none⟩ = some (.int .i64 0) := (hb1.cell (p := ⟨w.heap.size + 1 + 1, 1, none⟩) (by simp <;> omega)).trans (by simp [go_sem]); have q2 : w1.frozen? ⟨w.heap.size + 1 + 1, 0, none⟩ = false := (hb1.frozen (p := ⟨w.heap.size + 1 + 1, 0, none⟩) (by simp <;> omega)).trans (by simp [go_sem]); have q3 : w1.frozen? ⟨w.heap.size + 1 + 1, 1, none⟩ = false := (hb1.frozen (p := ⟨w.heap.size + 1 + 1, 1, none⟩) (by simp <;> omega)).trans (by simp [go_sem]); have q4 : w.heap.size + 1 + 1 < w1.heap.size := World.block_lt_of_cell? _ _ q0)
  | (go_at_call 62; (with_reducible refine (qkeep_any b e P.1 P.2.1 P.2.2 _ ((k0.cell (p := ⟨b, 0, none⟩) hb).trans hc) ((k0.frozen (p := ⟨b, 0, none⟩) hb).trans hf)).mono ?_); rintro x w2 ⟨rfl, hs2⟩; rw [HK.out] at hs2 ⊢; have r0 := (hs2.other (p := ⟨w.heap.size + 1 + 1, 0, none⟩) q4 (by simp <;> omega)).trans q0; have r1 := (hs2.other (p := ⟨w.heap.size + 1 + 1, 1, none⟩) q4 (by simp <;> omega)).trans q1; have r2 := (hs2.otherF (p := ⟨w.heap.size + 1 + 1, 0, none⟩) q4 (by simp <;> omega)).trans q2; have r3 := (hs2.otherF (p := ⟨w.heap.size + 1 + 1, 1, none⟩) q4 (by simp <;> omega)).trans q3))
 have l0 := (two_cells (v0 := .int .i64 K.1.1) (v1 := .int .i64 K.1.2) r0 r1).1
 have l1 := (two_cells (v0 := .int .i64 K.1.1) (v1 := .int .i64 K.1.2) r0 r1).2
 refine bodyPost_ret (v := .agg #[.int .i64 K.1.1, .int .i64 K.1.2]) (by simp [results, Try.results38, go_sem, l0, l1]) rfl ⟨rfl, ?_⟩
 exact ((Sm.from k0 hb hs2).setCell (p := ⟨w.heap.size + 1 + 1, 0, none⟩) (by simp <;> omega) hb _).setCell (p := ⟨w.heap.size + 1 + 1, 1, none⟩) (by simp <;> omega) hb _
set_option maxHeartbeats 4000000 in
theorem kmul_any (b : Nat) (e : Int) (x y : Int × Int) (hx : vF x = true) (hy : vF y = true) (w : World) (hc : w.cell? ⟨b, 0, none⟩ = some (.int .i64 e)) (hf : w.frozen? ⟨b, 0, none⟩ = false) :
  Calls Try.prog 64 #[.pointer (some ⟨b, 0, none⟩), .agg #[.int .i64 x.1, .int .i64 x.2], .agg #[.int .i64 y.1, .int .i64 y.2]] w fun z w' => z = .returned (.agg #[.int .i64 (kMul e x y).1.1, .int .i64 (kMul e x y).1.2]) ∧ Sm b (kMul e x y).2 w w' := by
 obtain ⟨an, ad⟩ := x
 obtain ⟨bn, bd⟩ := y
 have hb : b < w.heap.size := World.block_lt_of_cell? _ _ hc
 obtain ⟨P, hP⟩ : ∃ P, mulP an ad bn bd = P := ⟨_, rfl⟩
 have HC : Hid (∀ w : World, Calls Try.prog 29 #[.agg #[.int .i64 an, .int .i64 ad], .agg #[.int .i64 bn, .int .i64 bd]] w fun e w' => e = .returned (.tuple #[.agg #[.int .i64 P.1, .int .i64 P.2.1], .int .i64 P.2.2]) ∧ Below w.heap.size w w') := Lib.hid fun w => by
  have := mul_any an ad bn bd hx hy w
  rwa [hP] at this
 have HR : Hid (kMul e (an, ad) (bn, bd) = kp e (P.1, P.2.1, P.2.2)) := Lib.hid (by unfold kMul; rw [hP])
 rw [HR.out]
 clear hP hx hy
 generalize hK : kp e (P.1, P.2.1, P.2.2) = K
 have HK := Lib.hid hK
 clear hK
 go_enter Try.func64, Try.ntmps64
 go_wp2_with (first
  | (go_at_call 29; (with_reducible refine (HC.out _).mono ?_); rintro x w1 ⟨rfl, hb1⟩; have k0 : Below w.heap.size w w1 := (((below_new w (.cells #[.int .i64 an, .int .i64 ad] 29)).alloc (by simp) (.cells #[.int .i64 bn, .int .i64 bd] 29)).alloc (by simp <;> omega) (.cells #[.int .i64 0, .int .i64 0] 29)).trans (hb1.mono (by simp <;> omega)); have q0 : w1.cell? ⟨w.heap.size + 1 + 1, 0, none⟩ = some (.int .i64 0) := (hb1.cell (p := ⟨w.heap.size + 1 + 1, 0, none⟩) (by simp <;> omega)).trans (by simp [go_sem]); have q1 : w1.cell? ⟨w.heap.size + 1 + 1, 1, none⟩ = some (.int .i64 0) := (hb1.cell (p := ⟨w.heap.size + 1 + 1, 1, none⟩) (by simp <;> omega)).trans (by simp [go_sem]); have q2 : w1.frozen? ⟨w.heap.size + 1 + 1, 0, none⟩ = false := (hb1.frozen (p := ⟨w.heap.size + 1 + 1, 0, none⟩) (by simp <;> omega)).trans (by simp [go_sem]); have q3 : w1.frozen? ⟨w.heap.size + 1 + 1, 1, none⟩ = false := (hb1.frozen (p := ⟨w.heap.size + 1 + 1, 1, none⟩) (by simp <;> omega)).trans (by simp [go_sem]); have q4 : w.heap.size + 1 + 1 < w1.heap.size := World.block_lt_of_cell? _ _ q0)
  | (go_at_call 62; (with_reducible refine (qkeep_any b e P.1 P.2.1 P.2.2 _ ((k0.cell (p := ⟨b, 0, none⟩) hb).trans hc) ((k0.frozen (p := ⟨b, 0, none⟩) hb).trans hf)).mono ?_); rintro x w2 ⟨rfl, hs2⟩; rw [HK.out] at hs2 ⊢; have r0 := (hs2.other (p := ⟨w.heap.size + 1 + 1, 0, none⟩) q4 (by simp <;> omega)).trans q0; have r1 := (hs2.other (p := ⟨w.heap.size + 1 + 1, 1, none⟩) q4 (by simp <;> omega)).trans q1; have r2 := (hs2.otherF (p := ⟨w.heap.size + 1 + 1, 0, none⟩) q4 (by simp <;> omega)).trans q2; have r3 := (hs2.otherF (p := ⟨w.heap.size + 1 + 1, 1, none⟩) q4 (by simp <;> omega)).trans q3))
 have l0 := (two_cells (v0 := .int .i64 K.1.1) (v1 := .int .i64 K.1.2) r0 r1).1
 have l1 := (two_cells (v0 := .int .i64 K.1.1) (v1 := .int .i64 K.1.2) r0 r1).2
 refine bodyPost_ret (v := .agg #[.int .i64 K.1.1, .int .i64 K.1.2]) (by simp [results, Try.results64, go_sem, l0, l1]) rfl ⟨rfl, ?_⟩
 exact ((Sm.from k0 hb hs2).setCell (p := ⟨w.heap.size + 1 + 1, 0, none⟩) (by simp <;> omega) hb _).setCell (p := ⟨w.heap.size + 1 + 1, 1, none⟩) (by simp <;> omega) hb _
end Go.Proofs.Ytbgkgahmicepdaa
