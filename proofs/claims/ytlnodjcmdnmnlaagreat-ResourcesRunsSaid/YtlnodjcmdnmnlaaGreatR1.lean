/-
  PLAIN LAW over any program: an operation of a drawn region that only reads is taken first; its side conditions are shown by themselves.
  PLAIN: bricks, their choices in order, the sums, the first choice in a window, the nearest sum.
  PLAIN LAWS over any program: a row of the call's own is cut, and written over; clear at a slice of records; the shape of slices.DeleteFunc.
  PLAIN LAWS over any program: a row of the call's own over what leaves old blocks alone.
  PLAIN: fractions in lowest terms; the sum and the product as the program reckons them.
  THE WALKS of package ratio: size, gcd, Valid, signed, Make.
  HOW SLICES LIE IN MEMORY (pieces, fractions).
-/
import Derived.Deep.RegionHeld3
import Derived.WalkKit
import Derived.Test.YtlnodjcmdnmnlaaGreatRows
import Derived.Below
import Derived.Laws.OwnMore
import Derived.Laws.IdiomCopy
import Derived.Deep.Draws
import Derived.WalkSpells
import Derived.WalkLawsBesides
import Derived.Deep.QuietTactic
import Derived.BigQuiet
import Derived.Lib.Hide
import Derived.Shelf.Abstract
import Derived.Maps.AppendAt
import Derived.Deep.AppendLies
import Derived.Deep.RegionLaw
import Derived.Deep.RegionLawGrows
namespace Go.Proofs.YtlnodjcmdnmnlaaGreat
section
variable {P : Program} {ops : Array Oper} {Q : Exit → Act → World → Prop} {md : Region.Mode} {S : World → Prop}
theorem tkB (i : Nat) {oi : Oper} {v : Value} {fuel : Nat} {listed : Array Bool} {a : Act} {w : World} (h : wpAnyH P md ops Q S fuel (listed.setIfInBounds i true) (a.put oi.dst v) w)
  (hi : ops[i]? = some oi := by rfl)
  (hs : Region.noSelect ops = true := by kernel_rfl) (hf : Region.free md ops listed i = true := by kernel_rfl) (hr : (Region.ready md ops listed).contains i = true := by kernel_rfl)
  (hQ : ∀ c a w, Q (.panic c) (a.put oi.dst v) w → Q (.panic c) a w := by exact fun _ _ _ h => h)
  (hy : YieldsIf P ops S oi v a := by refine Or.inl ⟨by rfl, ?_⟩; (intro w hSw; (try dsimp only at hSw); go_split_ands; (try simp only [List.getElem_toArray, List.getElem_cons_succ, List.getElem_cons_zero]); go_simp; try with_reducible rfl))
  (hS : S w := by assumption) : wpAnyH P md ops Q S (fuel + 1) listed a w := wpAnyH_take hi hs hf hr hQ hy hS h
end
end Go.Proofs.YtlnodjcmdnmnlaaGreat
namespace Go.Proofs.YtlnodjcmdnmnlaaGreat
structure BrickR where
 name : ByteArray
 weight : Int
 count : Int
end Go.Proofs.YtlnodjcmdnmnlaaGreat
namespace Go.Proofs.YtlnodjcmdnmnlaaGreat
section
variable {w : World} {base size n cap g : Nat} {e : TypeId} {xs : List Value}
end
structure Part {α : Type} (L M : List α) (p : α → Bool) (i j : Nat) : Prop where
 len : M.length = L.length
 ij : i ≤ j
 jl : j ≤ L.length
 head : M.take i = (L.take j).filter fun x => !p x
 tail : M.drop j = L.drop j
namespace Part
variable {α : Type} {L M : List α} {p : α → Bool} {i j : Nat}
theorem skip (h : Part L M p i j) (x : α) (hx : L[j]? = some x) (hp : p x = true) : Part L M p i (j + 1) := by
 have hj := (List.getElem?_eq_some_iff.1 hx).1
 refine ⟨h.len, by have := h.ij; omega, hj, ?_, ?_⟩
 ·rw [h.head, List.take_add_one, hx]
  simp [hp]
 ·have := congrArg (List.drop 1) h.tail
  rwa [List.drop_drop, List.drop_drop] at this
theorem keep (h : Part L M p i j) (x : α) (hx : L[j]? = some x) (hp : p x = false) : Part L (M.set i x) p (i + 1) (j + 1) := by
 have hj := (List.getElem?_eq_some_iff.1 hx).1
 have hij := h.ij
 refine ⟨by simp [h.len], by omega, hj, ?_, ?_⟩
 ·rw [List.take_add_one, List.take_set_of_le (Nat.le_refl _), h.head, List.take_add_one, hx]
  have : (M.set i x)[i]? = some x := by rw [List.getElem?_set_self (by rw [h.len]; omega)]
  rw [this]
  simp [hp]
 ·rw [List.drop_set_of_lt (by omega)]
  have := congrArg (List.drop 1) h.tail
  rwa [List.drop_drop, List.drop_drop] at this
theorem start (L : List α) (p : α → Bool) (i : Nat) (x : α) (hx : L[i]? = some x) (hp : p x = true) (hn : ∀ (j : Nat) y, j < i → L[j]? = some y → p y = false) : Part L L p i (i + 1) := by
 have hi := (List.getElem?_eq_some_iff.1 hx).1
 refine ⟨rfl, by omega, hi, ?_, rfl⟩
 rw [List.take_add_one, hx, List.filter_append]
 have e : (L.take i).filter (fun x => !p x) = L.take i := by
  rw [List.filter_eq_self]
  intro y hy
  obtain ⟨j, hj, e⟩ := List.getElem_of_mem hy
  have hj' : j < i := by simp at hj; omega
  have := hn j y hj' (by rw [← e]; simp [List.getElem?_eq_getElem (show j < L.length by omega)])
  simp [this]
 rw [e]
 simp [hp]
theorem done (h : Part L M p i L.length) : M.take i = L.filter (fun x => !p x) ∧ (L.filter fun x => !p x).length = i := by
 have h1 := h.head
 rw [List.take_length] at h1
 refine ⟨h1, ?_⟩
 rw [← h1, List.length_take, h.len]
 have := h.ij
 omega
end Part
end Go.Proofs.YtlnodjcmdnmnlaaGreat
namespace Go.Proofs.YtlnodjcmdnmnlaaGreat
open Go.RowKit
theorem ownsRow_below {w w' : World} {base size n : Nat} {e : TypeId} {v : Value} {xs : List Value} (h : w.ownsRow base e size v n xs) (hB : Below w.heap.size w w') : w'.ownsRow base e size v n xs := by
 refine ⟨h.1, ?_⟩
 rcases h.2 with hn | ⟨g, cap, cur, rfl, hb, hg, rest⟩
 ·exact .inl hn
 ·exact .inr ⟨g, cap, cur, rfl, hb, (hB.block g (Array.getElem?_eq_some_iff.1 hg).1).trans hg, rest⟩
theorem ownsRow_base {w : World} {base base' size n : Nat} {e : TypeId} {v : Value} {xs : List Value} (h : w.ownsRow base e size v n xs) (hb : base' ≤ base) : w.ownsRow base' e size v n xs := by
 refine ⟨h.1, ?_⟩
 rcases h.2 with hn | ⟨g, cap, cur, rfl, h1, rest⟩
 ·exact .inl hn
 ·exact .inr ⟨g, cap, cur, rfl, by omega, rest⟩
theorem grown_own {base n₀ size n : Nat} {w w' wa : World} {e : TypeId} {v : Value} {xs : List Value} (h : w.ownsRow base e size v n xs) (hg : w.grownBy w' v.ownBlock) (hB : Below n₀ wa w) (hn : n₀ ≤ w.heap.size) (hb : n₀ ≤ base) : Below n₀ wa w' :=
 hB.grown hg hn fun k hk => Nat.le_trans hb (h.lt k hk).1
theorem new_set (w : World) (p : Addr) (u v : Value) (t : TypeId) : ((w.setCell p u).alloc (.cells #[v] t)).cell? ⟨w.heap.size, 0, none⟩ = some v := by
 have e : (w.setCell p u).heap.size = w.heap.size := by simp [World.setCell]
 rw [cell_of_row _ w.heap.size 0 #[v] t (0, 0) (by rw [← e]; exact heap_alloc_new _ _)]
 rfl
end Go.Proofs.YtlnodjcmdnmnlaaGreat
namespace Go.Proofs.YtlnodjcmdnmnlaaGreat
def lowN (n d : Int) : Int := n / (Int.gcd n d : Int)
def lowD (n d : Int) : Int := d / (Int.gcd n d : Int)

theorem gcd_posR {n d : Int} (hd : 0 < d) : (0 : Int) < (Int.gcd n d : Int) := by
 have := Int.gcd_pos_of_ne_zero_right n (b := d) (by omega)
 omega
theorem lowN_mul (n d : Int) : lowN n d * (Int.gcd n d : Int) = n := Int.ediv_mul_cancel (Int.gcd_dvd_left n d)
theorem lowD_mul (n d : Int) : lowD n d * (Int.gcd n d : Int) = d := Int.ediv_mul_cancel (Int.gcd_dvd_right n d)
theorem lowD_pos {n d : Int} (hd : 0 < d) : 0 < lowD n d := by
 have h := lowD_mul n d
 have g := gcd_posR (n := n) hd
 rcases Int.lt_or_le 0 (lowD n d) with l | l
 ·exact l
 ·have := Int.mul_le_mul_of_nonneg_right l (Int.le_of_lt g)
  omega
theorem low_cop {n d : Int} (hd : 0 < d) : Int.gcd (lowN n d) (lowD n d) = 1 :=
 Int.gcd_ediv_gcd_ediv_gcd (by have := gcd_posR (n := n) hd; omega)
theorem low_cross (n d : Int) : lowN n d * d = n * lowD n d := by
 have a := lowN_mul n d
 have b := lowD_mul n d
 calc lowN n d * d = lowN n d * (lowD n d * (Int.gcd n d : Int)) := by rw [b]
  _ = (lowN n d * (Int.gcd n d : Int)) * lowD n d := by rw [Int.mul_comm (lowD n d), Int.mul_assoc]
  _ = n * lowD n d := by rw [a]
theorem low_unique {p q p' q' : Int} (hq : 0 < q) (hq' : 0 < q') (c : Int.gcd p q = 1) (c' : Int.gcd p' q' = 1) (h : p * q' = p' * q) : p = p' ∧ q = q' := by
 have d1 : q ∣ q' := by
  have : q ∣ p * q' := ⟨p', by rw [h, Int.mul_comm]⟩
  rw [Int.gcd_comm] at c
  rw [← Int.gcd_eq_natAbs_left_iff_dvd, Int.gcd_mul_right_right_of_gcd_eq_one c] at this
  exact Int.gcd_eq_natAbs_left_iff_dvd.1 this
 have d2 : q' ∣ q := by
  have : q' ∣ p' * q := ⟨p, by rw [← h, Int.mul_comm]⟩
  rw [Int.gcd_comm] at c'
  rw [← Int.gcd_eq_natAbs_left_iff_dvd, Int.gcd_mul_right_right_of_gcd_eq_one c'] at this
  exact Int.gcd_eq_natAbs_left_iff_dvd.1 this
 have e : q = q' := Int.dvd_antisymm (by omega) (by omega) d1 d2
 subst e
 exact ⟨Int.eq_of_mul_eq_mul_right (by omega) h, rfl⟩
theorem low_eq {n d p q : Int} (hd : 0 < d) (hq : 0 < q) (c : Int.gcd p q = 1) (h : p * d = n * q) : p = lowN n d ∧ q = lowD n d := by
 refine low_unique hq (lowD_pos hd) c (low_cop hd) ?_
 have x := low_cross n d
 have hdz : d ≠ 0 := by omega
 refine Int.eq_of_mul_eq_mul_right hdz ?_
 calc p * lowD n d * d = (p * d) * lowD n d := by rw [Int.mul_assoc, Int.mul_comm (lowD n d), ← Int.mul_assoc]
  _ = (n * q) * lowD n d := by rw [h]
  _ = (n * lowD n d) * q := by rw [Int.mul_assoc, Int.mul_comm q, ← Int.mul_assoc]
  _ = (lowN n d * d) * q := by rw [x]
  _ = lowN n d * q * d := by rw [Int.mul_assoc, Int.mul_comm d, ← Int.mul_assoc]
theorem low_same {n d n' d' : Int} (hd : 0 < d) (hd' : 0 < d') (h : n * d' = n' * d) : lowN n d = lowN n' d' ∧ lowD n d = lowD n' d' := by
 refine low_eq hd' (lowD_pos hd) (low_cop hd) ?_
 have x := low_cross n d
 have hdz : d ≠ 0 := by omega
 refine Int.eq_of_mul_eq_mul_right hdz ?_
 calc lowN n d * d' * d = (lowN n d * d) * d' := by rw [Int.mul_assoc, Int.mul_comm d', ← Int.mul_assoc]
  _ = (n * lowD n d) * d' := by rw [x]
  _ = (n * d') * lowD n d := by rw [Int.mul_assoc, Int.mul_comm (lowD n d), ← Int.mul_assoc]
  _ = (n' * d) * lowD n d := by rw [h]
  _ = n' * lowD n d * d := by rw [Int.mul_assoc, Int.mul_comm d, ← Int.mul_assoc]
theorem low_self {p q : Int} (c : Int.gcd p q = 1) : lowN p q = p ∧ lowD p q = q := by
 unfold lowN lowD; rw [c]; simp
theorem low_zero {d : Int} (hd : 0 < d) : lowN 0 d = 0 ∧ lowD 0 d = 1 := by
 obtain ⟨a, b⟩ := low_eq (n := 0) (d := d) (p := 0) (q := 1) hd (by decide) (by decide) (by simp)
 exact ⟨a.symm, b.symm⟩
theorem lowN_zero {n d : Int} : lowN n d = 0 → n = 0 := fun h => by
 have := lowN_mul n d
 rw [h] at this
 simpa using this.symm
theorem lowN_abs (n d : Int) : (lowN n d).natAbs = n.natAbs / Int.gcd n d := by
 unfold lowN
 rw [Int.natAbs_ediv_of_dvd (Int.gcd_dvd_left n d)]
 rfl
theorem lowD_abs (n d : Int) : (lowD n d).natAbs = d.natAbs / Int.gcd n d := by
 unfold lowD
 rw [Int.natAbs_ediv_of_dvd (Int.gcd_dvd_right n d)]
 rfl
theorem lowN_le (n d : Int) : (lowN n d).natAbs ≤ n.natAbs := by rw [lowN_abs]; exact Nat.div_le_self _ _
theorem lowD_le {n d : Int} (hd : 0 < d) : lowD n d ≤ d := by
 have h := lowD_abs n d
 have := Nat.div_le_self d.natAbs (Int.gcd n d)
 have := lowD_pos (n := n) hd
 omega
theorem lowN_neg (n d : Int) : lowN (-n) d = -lowN n d := by
 unfold lowN
 rw [Int.neg_gcd]
 rw [Int.neg_ediv_of_dvd (Int.gcd_dvd_left n d)]
theorem lowD_neg (n d : Int) : lowD (-n) d = lowD n d := by unfold lowD; rw [Int.neg_gcd]
theorem low_sign {n d : Int} (hd : 0 < d) : (lowN n d < 0 ↔ n < 0) := by
 have g := gcd_posR (n := n) hd
 have h := lowN_mul n d
 constructor
 ·intro l
  have := Int.mul_neg_of_neg_of_pos l g
  omega
 ·intro l
  rcases Int.lt_or_le (lowN n d) 0 with k | k
  ·exact k
  ·have := Int.mul_nonneg k (Int.le_of_lt g)
   omega

theorem sum_low {an ad bn bd : Int} (ha : 0 < ad) (hb : 0 < bd) (ca : Int.gcd an ad = 1) (cb : Int.gcd bn bd = 1) (g : Int) (hg : g = (Int.gcd ad bd : Int)) (S c : Int) (hS : S = an * (bd / g) + bn * (ad / g)) (hc : c = (Int.gcd g S : Int)) :
  S / c = lowN (an * bd + bn * ad) (ad * bd) ∧ (ad / g) * (bd / c) = lowD (an * bd + bn * ad) (ad * bd) := by
 have gp : 0 < g := by rw [hg]; exact gcd_posR hb
 obtain ⟨a', ea⟩ : g ∣ ad := by rw [hg]; exact Int.gcd_dvd_left ad bd
 obtain ⟨b', eb⟩ : g ∣ bd := by rw [hg]; exact Int.gcd_dvd_right ad bd
 have cab : Int.gcd a' b' = 1 := by
  have h1 : Int.gcd (g * a') (g * b') = g.natAbs * Int.gcd a' b' := Int.gcd_mul_left ..
  rw [← ea, ← eb] at h1
  have h2 : g.natAbs = Int.gcd ad bd := by rw [hg]; rfl
  have h3 : 0 < Int.gcd ad bd := by omega
  rw [h2] at h1
  exact (Nat.eq_of_mul_eq_mul_left h3 (by omega)).symm
 have ea2 : ad / g = a' := by rw [ea]; exact Int.mul_ediv_cancel_left _ (by omega)
 have eb2 : bd / g = b' := by rw [eb]; exact Int.mul_ediv_cancel_left _ (by omega)
 rw [ea2, eb2] at hS
 have a'p : 0 < a' := by
  rcases Int.lt_or_le 0 a' with l | l
  ·exact l
  ·have := Int.mul_le_mul_of_nonneg_left l (Int.le_of_lt gp); omega
 have b'p : 0 < b' := by
  rcases Int.lt_or_le 0 b' with l | l
  ·exact l
  ·have := Int.mul_le_mul_of_nonneg_left l (Int.le_of_lt gp); omega
 have cop_of : ∀ {x y k : Int}, Int.gcd x (k * y) = 1 → Int.gcd x y = 1 := fun {x y k} h => by
  have := Int.gcd_dvd_gcd_mul_left_right x y k
  rw [h] at this
  exact Nat.dvd_one.1 this
 have sa : Int.gcd S a' = 1 := by
  rw [hS, Int.gcd_add_mul_right_left]
  rw [Int.gcd_mul_right_left_of_gcd_eq_one]
  ·rw [Int.gcd_comm]; exact cab
  ·rw [ea] at ca; exact cop_of ca
 have sb : Int.gcd S b' = 1 := by
  rw [hS, Int.add_comm, Int.gcd_add_mul_right_left]
  rw [Int.gcd_mul_right_left_of_gcd_eq_one]
  ·exact cab
  ·rw [eb] at cb; exact cop_of cb
 have cp : 0 < c := by rw [hc]; have := Int.gcd_pos_of_ne_zero_left (a := g) S (by omega); omega
 obtain ⟨s', es⟩ : c ∣ S := by rw [hc]; exact Int.gcd_dvd_right g S
 obtain ⟨g', eg⟩ : c ∣ g := by rw [hc]; exact Int.gcd_dvd_left g S
 have g'p : 0 < g' := by
  rcases Int.lt_or_le 0 g' with l | l
  ·exact l
  ·have := Int.mul_le_mul_of_nonneg_left l (Int.le_of_lt cp); omega
 have csg : Int.gcd g' s' = 1 := by
  have h1 : Int.gcd (c * g') (c * s') = c.natAbs * Int.gcd g' s' := Int.gcd_mul_left ..
  rw [← es, ← eg] at h1
  have h2 : c.natAbs = Int.gcd g S := by rw [hc]; rfl
  have h3 : 0 < Int.gcd g S := by omega
  rw [h2] at h1
  exact (Nat.eq_of_mul_eq_mul_left h3 (by omega)).symm
 have e1 : S / c = s' := by rw [es]; exact Int.mul_ediv_cancel_left _ (by omega)
 have e2 : bd / c = g' * b' := by rw [eb, eg, Int.mul_assoc]; exact Int.mul_ediv_cancel_left _ (by omega)
 rw [e1, e2, ea2]
 have hs'a : Int.gcd s' a' = 1 := by
  have := Int.gcd_dvd_gcd_mul_left_left s' a' c
  rw [← es, sa] at this
  exact Nat.dvd_one.1 this
 have hs'b : Int.gcd s' b' = 1 := by
  have := Int.gcd_dvd_gcd_mul_left_left s' b' c
  rw [← es, sb] at this
  exact Nat.dvd_one.1 this
 have cop : Int.gcd s' (a' * (g' * b')) = 1 := by
  rw [Int.gcd_mul_right_right_of_gcd_eq_one hs'a, Int.gcd_mul_right_right_of_gcd_eq_one (by rw [Int.gcd_comm]; exact csg)]
  exact hs'b
 refine low_eq (Int.mul_pos ha hb) (Int.mul_pos a'p (Int.mul_pos g'p b'p)) cop ?_
 have hS2 : c * s' = an * b' + bn * a' := by rw [← es, hS]
 subst hS
 rw [ea, eb]
 have eg' := eg
 calc s' * (g * a' * (g * b')) = s' * ((c * g') * a' * (g * b')) := by rw [← eg]
  _ = (c * s') * (g * (a' * (g' * b'))) := by ac_rfl
  _ = (an * b' + bn * a') * (g * (a' * (g' * b'))) := by rw [hS2]
  _ = (an * (g * b') + bn * (g * a')) * (a' * (g' * b')) := by
   rw [← Int.mul_assoc (an * b' + bn * a') g]
   congr 1
   rw [Int.add_mul]
   congr 1 <;> ac_rfl

theorem mul_low {an ad bn bd : Int} (ha : 0 < ad) (hb : 0 < bd) (ca : Int.gcd an ad = 1) (cb : Int.gcd bn bd = 1) (g h : Int) (hg : g = (Int.gcd an bd : Int)) (hh : h = (Int.gcd bn ad : Int)) :
  (an / g) * (bn / h) = lowN (an * bn) (ad * bd) ∧ (ad / h) * (bd / g) = lowD (an * bn) (ad * bd) := by
 have gp : 0 < g := by rw [hg]; exact gcd_posR hb
 have hp : 0 < h := by rw [hh]; exact gcd_posR ha
 obtain ⟨n1, e1⟩ : g ∣ an := by rw [hg]; exact Int.gcd_dvd_left an bd
 obtain ⟨d2, e2⟩ : g ∣ bd := by rw [hg]; exact Int.gcd_dvd_right an bd
 obtain ⟨n2, e3⟩ : h ∣ bn := by rw [hh]; exact Int.gcd_dvd_left bn ad
 obtain ⟨d1, e4⟩ : h ∣ ad := by rw [hh]; exact Int.gcd_dvd_right bn ad
 have q1 : an / g = n1 := by rw [e1]; exact Int.mul_ediv_cancel_left _ (by omega)
 have q2 : bd / g = d2 := by rw [e2]; exact Int.mul_ediv_cancel_left _ (by omega)
 have q3 : bn / h = n2 := by rw [e3]; exact Int.mul_ediv_cancel_left _ (by omega)
 have q4 : ad / h = d1 := by rw [e4]; exact Int.mul_ediv_cancel_left _ (by omega)
 have c12 : Int.gcd n1 d2 = 1 := by
  have h1 : Int.gcd (g * n1) (g * d2) = g.natAbs * Int.gcd n1 d2 := Int.gcd_mul_left ..
  rw [← e1, ← e2] at h1
  have h2 : g.natAbs = Int.gcd an bd := by rw [hg]; rfl
  have h3 : 0 < Int.gcd an bd := by omega
  rw [h2] at h1
  exact (Nat.eq_of_mul_eq_mul_left h3 (by omega)).symm
 have c21 : Int.gcd n2 d1 = 1 := by
  have h1 : Int.gcd (h * n2) (h * d1) = h.natAbs * Int.gcd n2 d1 := Int.gcd_mul_left ..
  rw [← e3, ← e4] at h1
  have h2 : h.natAbs = Int.gcd bn ad := by rw [hh]; rfl
  have h3 : 0 < Int.gcd bn ad := by omega
  rw [h2] at h1
  exact (Nat.eq_of_mul_eq_mul_left h3 (by omega)).symm
 have cop2 : ∀ {x y k l : Int}, Int.gcd (k * x) (l * y) = 1 → Int.gcd x y = 1 := fun {x y k l} e => by
  have u := Int.gcd_dvd_gcd_mul_left_left x y k
  have v := Int.gcd_dvd_gcd_mul_left_right (k * x) y l
  rw [e] at v
  exact Nat.dvd_one.1 (Nat.dvd_trans u v)
 have c11 : Int.gcd n1 d1 = 1 := by rw [e1, e4] at ca; exact cop2 ca
 have c22 : Int.gcd n2 d2 = 1 := by rw [e3, e2] at cb; exact cop2 cb
 rw [q1, q2, q3, q4]
 have p1 : 0 < d1 := by
  rcases Int.lt_or_le 0 d1 with l | l
  ·exact l
  ·have := Int.mul_le_mul_of_nonneg_left l (Int.le_of_lt hp); omega
 have p2 : 0 < d2 := by
  rcases Int.lt_or_le 0 d2 with l | l
  ·exact l
  ·have := Int.mul_le_mul_of_nonneg_left l (Int.le_of_lt gp); omega
 refine low_eq (Int.mul_pos ha hb) (Int.mul_pos p1 p2) ?_ ?_
 ·rw [Int.gcd_mul_right_left_of_gcd_eq_one]
  ·rw [Int.gcd_mul_right_right_of_gcd_eq_one c21]; exact c22
  ·rw [Int.gcd_mul_right_right_of_gcd_eq_one c11]; exact c12
 ·calc n1 * n2 * (ad * bd) = n1 * n2 * ((h * d1) * (g * d2)) := by rw [← e4, ← e2]
   _ = ((g * n1) * (h * n2)) * (d1 * d2) := by ac_rfl
   _ = an * bn * (d1 * d2) := by rw [← e1, ← e3]
end Go.Proofs.YtlnodjcmdnmnlaaGreat
namespace Go.Proofs.YtlnodjcmdnmnlaaGreat
open Go.RowKit Go.Shelf
theorem ret_u {k : IntKind} {a b : Int} (h : a = b) : Ending.returned (.int k a) = .returned (.int k b) := by rw [h]

set_option maxHeartbeats 1000000 in
theorem size_any (n : Int) (h1 : -9223372036854775808 ≤ n) (h2 : n ≤ 9223372036854775807) (w : World) :
  Calls Tryz.prog 72 #[.int .i64 n] w fun e w' => e = .returned (.int .u64 (n.natAbs : Int)) ∧ w = w' := by
 by_cases h : n < 0
 ·have e1 : IntKind.u64.wrap (-IntKind.u64.wrap n) = (n.natAbs : Int) := by simp only [IntKind.wrap_u64]; omega
  go_enter Tryz.func72, Tryz.ntmps72
  go_wp2
  go_ret
  exact ⟨ret_u (by first | exact e1 | omega | rfl), rfl⟩
 ·go_enter Tryz.func72, Tryz.ntmps72
  go_wp2
  go_ret
  exact ⟨ret_u (by omega), rfl⟩

theorem gcd_step (a b : Int) : Int.gcd b (a % b) = Int.gcd a b := by
 rw [Int.gcd_comm a b]
 have h : a % b = a - b * (a / b) := by have := Int.mul_ediv_add_emod a b; omega
 rw [h, Int.gcd_sub_mul_left_right]

theorem below_drewN {n₀ : Nat} {w w' : World} (h : Below n₀ w w') (n : Nat) : Below n₀ w (w'.drewN n) := h.trans ⟨rfl, rfl, rfl, Nat.le_refl _, fun _ _ => rfl⟩
theorem below_new (w : World) (o : Obj) : Below w.heap.size w (w.alloc o) := (Below.refl _ _).alloc (Nat.le_refl _) o

set_option maxHeartbeats 1000000 in
theorem gcd_any (a b : Int) (a0 : 0 ≤ a) (a1 : a < 18446744073709551616) (b0 : 0 ≤ b) (b1 : b < 18446744073709551616) (w : World) :
  Calls Tryz.prog 71 #[.int .u64 a, .int .u64 b] w fun e w' => e = .returned (.int .u64 (Int.gcd a b : Int)) ∧ ∃ m, w' = w.drewN m := by
 go_enter Tryz.func71, Tryz.ntmps71
 go_wp2
 go_loopw [0, 1] (fun i j wr => ∃ x y : Int, 0 ≤ x ∧ x < 18446744073709551616 ∧ 0 ≤ y ∧ y < 18446744073709551616 ∧ i = .int .u64 x ∧ j = .int .u64 y ∧ Hid (Int.gcd x y = Int.gcd a b) ∧ ∃ m, wr = w.drewN m) (fun _ j _ => (intOf j).toNat)
 case atStart => exact ⟨a, b, a0, a1, b0, b1, rfl, rfl, Lib.hid rfl, 0, rfl⟩
 case round =>
  obtain ⟨x, y, x0, x1, y0, y1, rfl, rfl, HG, m, rfl⟩ := hrel
  by_cases h : y = 0
  ·subst h
   go_wp2
   go_ret
   exact ⟨ret_u (by rw [← HG.out]; simp; omega), m, rfl⟩
  ·have yp : 0 < y := by omega
   have h' : (y == 0) = false := by simpa using h
   have t0 : 0 ≤ x % y := Int.emod_nonneg _ h
   have t1 : x % y < y := Int.emod_lt_of_pos _ yp
   have HS : Hid (Int.gcd y (x % y) = Int.gcd a b) := Lib.hid ((gcd_step x y).trans HG.out)
   go_wp2
   go_quiet (fail)
   go_wp2
   go_roundw
   case rel => exact ⟨y, x % y, y0, y1, t0, by omega, rfl, rfl, HS, _, World.drewN_drewN _ _ _⟩
   case measure => simp [intOf]; omega

def validF (n d : Int) : Bool := decide (1 ≤ d) && decide (d ≤ 1152921504606846976) && decide (-1152921504606846976 ≤ n) && decide (n ≤ 1152921504606846976) && (Int.gcd n d == 1)
theorem validF_iff (n d : Int) : validF n d = true ↔ 1 ≤ d ∧ d ≤ 1152921504606846976 ∧ -1152921504606846976 ≤ n ∧ n ≤ 1152921504606846976 ∧ Int.gcd n d = 1 := by
 simp [validF, and_assoc]

set_option maxHeartbeats 2000000 in
theorem valid_any (n d : Int) (w : World) :
  Calls Tryz.prog 70 #[.agg #[.int .i64 n, .int .i64 d]] w fun e w' => e = .returned (.bool (validF n d)) ∧ Below w.heap.size w w' := by
 by_cases h1 : 1 ≤ d
 ·have c1 := decide_eq_true h1
  by_cases h2 : d ≤ 1152921504606846976
  ·have c2 := decide_eq_true h2
   by_cases h3 : -1152921504606846976 ≤ n
   ·have c3 := decide_eq_true h3
    by_cases h4 : n ≤ 1152921504606846976
    ·have c4 := decide_eq_true h4
     have e1 : IntKind.u64.wrap d = d := by rw [IntKind.wrap_u64]; omega
     obtain ⟨g, hg⟩ : ∃ g : Int, g = (Int.gcd (n.natAbs : Int) d : Int) := ⟨_, rfl⟩
     obtain ⟨b, hb⟩ : ∃ b : Bool, (g == 1) = b := ⟨_, rfl⟩
     have HR : Hid (validF n d = b) := Lib.hid (by
      unfold validF; rw [c1, c2, c3, c4, ← hb, hg]
      have : Int.gcd (n.natAbs : Int) d = Int.gcd n d := by simp [Int.gcd]
      rw [this, Bool.eq_iff_iff]; simp; omega)
     have HG := Lib.hid hg
     rw [HR.out]
     clear hg
     go_enter Tryz.func70, Tryz.ntmps70
     go_wp2
     go_quiet (first | (go_at_call 72; refine Calls.quiet_of_same ((size_any n (by omega) (by omega) _).mono fun e w' h => ⟨h.1, h.2.symm⟩)) | (go_at_call 71; refine Calls.quiet_of ((gcd_any _ d (by omega) (by omega) (by omega) (by omega) _).mono fun e w' h => ⟨h.1.trans (ret_u HG.out.symm), h.2⟩)))
     go_wp2
     go_ret
     exact ⟨rfl, below_drewN (below_new _ _) _⟩
    ·have c4 := decide_eq_false h4
     have HR : Hid (validF n d = false) := Lib.hid (by unfold validF; rw [c1, c2, c3, c4]; rfl)
     rw [HR.out]
     clear h4
     go_enter Tryz.func70, Tryz.ntmps70
     go_wp2
     go_quiet (fail)
     go_wp2
     go_ret
     exact ⟨rfl, below_drewN (below_new _ _) _⟩
   ·have c3 := decide_eq_false h3
    have HR : Hid (validF n d = false) := Lib.hid (by unfold validF; rw [c1, c2, c3]; rfl)
    rw [HR.out]
    clear h3
    go_enter Tryz.func70, Tryz.ntmps70
    go_wp2
    go_quiet (fail)
    go_wp2
    go_ret
    exact ⟨rfl, below_drewN (below_new _ _) _⟩
  ·have c2 := decide_eq_false h2
   have HR : Hid (validF n d = false) := Lib.hid (by unfold validF; rw [c1, c2]; rfl)
   rw [HR.out]
   clear h2
   go_enter Tryz.func70, Tryz.ntmps70
   go_wp2
   go_quiet (fail)
   go_wp2
   go_ret
   exact ⟨rfl, below_drewN (below_new _ _) _⟩
 ·have c1 := decide_eq_false h1
  have HR : Hid (validF n d = false) := Lib.hid (by unfold validF; rw [c1]; rfl)
  rw [HR.out]
  clear h1
  go_enter Tryz.func70, Tryz.ntmps70
  go_wp2
  go_quiet (fail)
  go_wp2
  go_ret
  exact ⟨rfl, below_drewN (below_new _ _) _⟩

def signP (neg : Bool) (n d : Int) : Int × Int × Int := if 1152921504606846976 < n ∨ 1152921504606846976 < d then (0, 0, 5) else (if neg then -n else n, d, 0)
set_option maxHeartbeats 2000000 in
theorem signed_any (neg : Bool) (n d : Int) (n0 : 0 ≤ n) (d0 : 0 ≤ d) (w : World) :
  Calls Tryz.prog 74 #[.bool neg, .int .u64 n, .int .u64 d] w fun e w' => e = .returned (.tuple #[.agg #[.int .i64 (signP neg n d).1, .int .i64 (signP neg n d).2.1], .int .i64 (signP neg n d).2.2]) ∧ Below w.heap.size w w' := by
 by_cases h1 : 1152921504606846976 < n
 ·have HR : Hid (signP neg n d = (0, 0, 5)) := Lib.hid (by unfold signP; rw [if_pos (.inl h1)])
  rw [HR.out]
  go_enter Tryz.func74, Tryz.ntmps74
  go_wp2
  refine bodyPost_ret (v := .tuple #[.agg #[.int .i64 0, .int .i64 0], .int .i64 5]) (by simp [results, Tryz.results74, go_sem]) rfl ⟨rfl, ?_⟩
  exact below_new _ _
 ·by_cases h2 : 1152921504606846976 < d
  ·have HR : Hid (signP neg n d = (0, 0, 5)) := Lib.hid (by unfold signP; rw [if_pos (.inr h2)])
   rw [HR.out]
   go_enter Tryz.func74, Tryz.ntmps74
   go_wp2
   refine bodyPost_ret (v := .tuple #[.agg #[.int .i64 0, .int .i64 0], .int .i64 5]) (by simp [results, Tryz.results74, go_sem]) rfl ⟨rfl, ?_⟩
   exact below_new _ _
  ·have HR : Hid (signP neg n d = (if neg then -n else n, d, 0)) := Lib.hid (by unfold signP; rw [if_neg (by omega)])
   rw [HR.out]
   cases neg
   ·go_enter Tryz.func74, Tryz.ntmps74
    go_wp2
    refine bodyPost_ret (v := .tuple #[.agg #[.int .i64 n, .int .i64 d], .int .i64 0]) (by simp [results, Tryz.results74, go_sem]) rfl ⟨rfl, ?_⟩
    exact below_new _ _
   ·go_enter Tryz.func74, Tryz.ntmps74
    go_wp2
    refine bodyPost_ret (v := .tuple #[.agg #[.int .i64 (-n), .int .i64 d], .int .i64 0]) (by simp [results, Tryz.results74, go_sem]) rfl ⟨rfl, ?_⟩
    exact below_new _ _
end Go.Proofs.YtlnodjcmdnmnlaaGreat
namespace Go.Proofs.YtlnodjcmdnmnlaaGreat
open Go.RowKit Go.Shelf
attribute [local go_sem] Oper.semAt_some
theorem ret_int {k : IntKind} {a b : Int} (h : a = b) : Ending.returned (.int k a) = .returned (.int k b) := by rw [h]
theorem ret_bool {a b : Bool} (h : a = b) : Ending.returned (.bool a) = .returned (.bool b) := by rw [h]
theorem mono_in {w w' : World} (o : Obj) (h : Below (w.alloc o).heap.size (w.alloc o) w') : Below w.heap.size w w' := ((Below.refl _ _).alloc (Nat.le_refl _) o).trans (h.mono (by simp))
theorem row_addr {w : World} {base n cap size : Nat} {e : TypeId} {a : Option Addr} {xs : List Value} (h : w.ownsRow base e size (.slice a n cap) n xs) (hn : 0 < n) : ∃ g, a = some ⟨g, 0, none⟩ ∧ base ≤ g ∧ g < w.heap.size := by
 rcases h.2 with ⟨e, h0⟩ | ⟨g, cap', cur, e, hb, hg, _⟩
 ·omega
 ·cases e; exact ⟨g, rfl, hb, (Array.getElem?_eq_some_iff.1 hg).1⟩

/-! ### Slices of api.Piece3 -/
structure Pc where
 f0 : Int
 f1 : Int
 a0 : Int
 a1 : Int
 b0 : Int
 b1 : Int
 c0 : Int
 c1 : Int
def pcg (L : List (Pc)) (i : Nat) : Pc := (L[i]?).getD ⟨0, 1, 0, 1, 0, 1, 0, 1⟩
def pcflat (L : List (Pc)) : List Value := L.flatMap fun r => [.int .i64 r.f0, .int .i64 r.f1, .int .i64 r.a0, .int .i64 r.a1, .int .i64 r.b0, .int .i64 r.b1, .int .i64 r.c0, .int .i64 r.c1]
theorem pcflat_at (L : List (Pc)) (i : Nat) (hi : i < L.length) : (pcflat L)[i * 8]? = some (.int .i64 (pcg L i).f0) ∧ (pcflat L)[i * 8 + 1]? = some (.int .i64 (pcg L i).f1) ∧ (pcflat L)[i * 8 + 2]? = some (.int .i64 (pcg L i).a0) ∧ (pcflat L)[i * 8 + 3]? = some (.int .i64 (pcg L i).a1) ∧ (pcflat L)[i * 8 + 4]? = some (.int .i64 (pcg L i).b0) ∧ (pcflat L)[i * 8 + 5]? = some (.int .i64 (pcg L i).b1) ∧ (pcflat L)[i * 8 + 6]? = some (.int .i64 (pcg L i).c0) ∧ (pcflat L)[i * 8 + 7]? = some (.int .i64 (pcg L i).c1) := by
 induction L generalizing i with
 | nil => simp at hi
 | cons x r ih =>
  match i with
  | 0 => exact ⟨rfl, rfl, rfl, rfl, rfl, rfl, rfl, rfl⟩
  | i + 1 =>
   have := ih i (by simpa using hi)
   have e : pcflat (x :: r) = .int .i64 x.f0 :: .int .i64 x.f1 :: .int .i64 x.a0 :: .int .i64 x.a1 :: .int .i64 x.b0 :: .int .i64 x.b1 :: .int .i64 x.c0 :: .int .i64 x.c1 :: pcflat r := rfl
   rw [e, show (i + 1) * 8 = i * 8 + 1 + 1 + 1 + 1 + 1 + 1 + 1 + 1 by omega]
   simpa [pcg] using this
def Pcs (n₀ : Nat) (w : World) (a : Option Addr) (L : List (Pc)) : Prop :=
 0 < L.length → ∃ b off, a = some ⟨b, off, none⟩ ∧ b < n₀ ∧ ∀ i, i < L.length → w.cell? ⟨b, off + i * 8, none⟩ = some (.int .i64 (pcg L i).f0) ∧ w.cell? ⟨b, off + i * 8 + 1, none⟩ = some (.int .i64 (pcg L i).f1) ∧ w.cell? ⟨b, off + i * 8 + 2, none⟩ = some (.int .i64 (pcg L i).a0) ∧ w.cell? ⟨b, off + i * 8 + 3, none⟩ = some (.int .i64 (pcg L i).a1) ∧ w.cell? ⟨b, off + i * 8 + 4, none⟩ = some (.int .i64 (pcg L i).b0) ∧ w.cell? ⟨b, off + i * 8 + 5, none⟩ = some (.int .i64 (pcg L i).b1) ∧ w.cell? ⟨b, off + i * 8 + 6, none⟩ = some (.int .i64 (pcg L i).c0) ∧ w.cell? ⟨b, off + i * 8 + 7, none⟩ = some (.int .i64 (pcg L i).c1)
theorem Pcs.below {n₀ : Nat} {w w' : World} {a : Option Addr} {L : List (Pc)} (h : Pcs n₀ w a L) (hb : Below n₀ w w') : Pcs n₀ w' a L := fun hl => by
 obtain ⟨b, off, rfl, hlt, hc⟩ := h hl
 refine ⟨b, off, rfl, hlt, fun i hi => ?_⟩
 obtain ⟨c0, c1, c2, c3, c4, c5, c6, c7⟩ := hc i hi
 exact ⟨(hb.cell (p := ⟨b, _, none⟩) hlt).trans c0, (hb.cell (p := ⟨b, _, none⟩) hlt).trans c1, (hb.cell (p := ⟨b, _, none⟩) hlt).trans c2, (hb.cell (p := ⟨b, _, none⟩) hlt).trans c3, (hb.cell (p := ⟨b, _, none⟩) hlt).trans c4, (hb.cell (p := ⟨b, _, none⟩) hlt).trans c5, (hb.cell (p := ⟨b, _, none⟩) hlt).trans c6, (hb.cell (p := ⟨b, _, none⟩) hlt).trans c7⟩
theorem Pcs.mono {n₀ n₁ : Nat} {w : World} {a : Option Addr} {L : List (Pc)} (h : Pcs n₀ w a L) (hn : n₀ ≤ n₁) : Pcs n₁ w a L := fun hl => by
 obtain ⟨b, off, rfl, hlt, hc⟩ := h hl
 exact ⟨b, off, rfl, by omega, hc⟩
theorem Pcs.grow {w w' : World} {a : Option Addr} {L : List (Pc)} (h : Pcs w.heap.size w a L) (hb : Below w.heap.size w w') : Pcs w'.heap.size w' a L := (h.below hb).mono hb.size
theorem Pcs.nil {n₀ : Nat} {w : World} {a : Option Addr} : Pcs n₀ w a [] := fun h => absurd h (Nat.not_lt_zero _)
theorem Pcs.take {n₀ : Nat} {w : World} {a : Option Addr} {L : List (Pc)} (h : Pcs n₀ w a L) (n : Nat) : Pcs n₀ w a (L.take n) := fun hl => by
 have hl' : 0 < L.length := by rw [List.length_take] at hl; omega
 obtain ⟨b, off, rfl, hlt, hc⟩ := h hl'
 refine ⟨b, off, rfl, hlt, fun i hi => ?_⟩
 rw [List.length_take] at hi
 have e : pcg (L.take n) i = pcg L i := by unfold pcg; rw [List.getElem?_take, if_pos (by omega)]
 rw [e]
 exact hc i (by omega)
theorem pc_of_row {w : World} {base : Nat} {v : Value} {L : List (Pc)} (h : w.ownsRow base 215 8 v L.length (pcflat L)) : ∃ a cap, v = .slice a L.length cap ∧ L.length ≤ cap ∧ cap ≤ maxLen ∧ (a = none → cap = 0) ∧ Pcs w.heap.size w a L := by
 rcases h.2 with ⟨rfl, h0⟩ | ⟨g, cap, cur, rfl, hb, hg, h1, h2, _⟩
 ·exact ⟨none, 0, by rw [h0], by omega, by unfold maxLen; omega, fun _ => rfl, fun hl => by omega⟩
 ·refine ⟨_, cap, rfl, h1, h2, (fun e => by cases e), fun _ => ⟨g, 0, rfl, (Array.getElem?_eq_some_iff.1 hg).1, fun i hi => ?_⟩⟩
  obtain ⟨f0, f1, f2, f3, f4, f5, f6, f7⟩ := pcflat_at L i hi
  have c0 := h.cellAt (i * 8) (by omega)
  have c1 := h.cellAt (i * 8 + 1) (by omega)
  have c2 := h.cellAt (i * 8 + 2) (by omega)
  have c3 := h.cellAt (i * 8 + 3) (by omega)
  have c4 := h.cellAt (i * 8 + 4) (by omega)
  have c5 := h.cellAt (i * 8 + 5) (by omega)
  have c6 := h.cellAt (i * 8 + 6) (by omega)
  have c7 := h.cellAt (i * 8 + 7) (by omega)
  rw [f0] at c0
  rw [f1] at c1
  rw [f2] at c2
  rw [f3] at c3
  rw [f4] at c4
  rw [f5] at c5
  rw [f6] at c6
  rw [f7] at c7
  rw [Nat.zero_add]
  exact ⟨c0, c1, c2, c3, c4, c5, c6, c7⟩
/-! ### Slices of api.Frac -/

def frg (L : List (Int × Int)) (i : Nat) : Int × Int := (L[i]?).getD (0, 1)
theorem frg_old (L : List (Int × Int)) (x : Int × Int) (i : Nat) (h : i < L.length) : frg (L ++ [x]) i = frg L i := by unfold frg; rw [List.getElem?_append_left h]
theorem frg_new (L : List (Int × Int)) (x : Int × Int) : frg (L ++ [x]) L.length = x := by unfold frg; simp
def frflat (L : List (Int × Int)) : List Value := L.flatMap fun r => [.int .i64 r.1, .int .i64 r.2]
theorem frflat_at (L : List (Int × Int)) (i : Nat) (hi : i < L.length) : (frflat L)[i * 2]? = some (.int .i64 (frg L i).1) ∧ (frflat L)[i * 2 + 1]? = some (.int .i64 (frg L i).2) := by
 induction L generalizing i with
 | nil => simp at hi
 | cons x r ih =>
  match i with
  | 0 => exact ⟨rfl, rfl⟩
  | i + 1 =>
   have := ih i (by simpa using hi)
   have e : frflat (x :: r) = .int .i64 x.1 :: .int .i64 x.2 :: frflat r := rfl
   rw [e, show (i + 1) * 2 = i * 2 + 1 + 1 by omega]
   simpa [frg] using this
theorem frflat_snoc (L : List (Int × Int)) (r : Int × Int) : frflat (L ++ [r]) = frflat L ++ [.int .i64 r.1, .int .i64 r.2] := by simp [frflat]
def Frs (n₀ : Nat) (w : World) (a : Option Addr) (L : List (Int × Int)) : Prop :=
 0 < L.length → ∃ b off, a = some ⟨b, off, none⟩ ∧ b < n₀ ∧ ∀ i, i < L.length → w.cell? ⟨b, off + i * 2, none⟩ = some (.int .i64 (frg L i).1) ∧ w.cell? ⟨b, off + i * 2 + 1, none⟩ = some (.int .i64 (frg L i).2)
theorem Frs.below {n₀ : Nat} {w w' : World} {a : Option Addr} {L : List (Int × Int)} (h : Frs n₀ w a L) (hb : Below n₀ w w') : Frs n₀ w' a L := fun hl => by
 obtain ⟨b, off, rfl, hlt, hc⟩ := h hl
 refine ⟨b, off, rfl, hlt, fun i hi => ?_⟩
 obtain ⟨c0, c1⟩ := hc i hi
 exact ⟨(hb.cell (p := ⟨b, _, none⟩) hlt).trans c0, (hb.cell (p := ⟨b, _, none⟩) hlt).trans c1⟩
theorem Frs.mono {n₀ n₁ : Nat} {w : World} {a : Option Addr} {L : List (Int × Int)} (h : Frs n₀ w a L) (hn : n₀ ≤ n₁) : Frs n₁ w a L := fun hl => by
 obtain ⟨b, off, rfl, hlt, hc⟩ := h hl
 exact ⟨b, off, rfl, by omega, hc⟩
theorem Frs.grow {w w' : World} {a : Option Addr} {L : List (Int × Int)} (h : Frs w.heap.size w a L) (hb : Below w.heap.size w w') : Frs w'.heap.size w' a L := (h.below hb).mono hb.size
theorem Frs.nil {n₀ : Nat} {w : World} {a : Option Addr} : Frs n₀ w a [] := fun h => absurd h (Nat.not_lt_zero _)
theorem Frs.take {n₀ : Nat} {w : World} {a : Option Addr} {L : List (Int × Int)} (h : Frs n₀ w a L) (n : Nat) : Frs n₀ w a (L.take n) := fun hl => by
 have hl' : 0 < L.length := by rw [List.length_take] at hl; omega
 obtain ⟨b, off, rfl, hlt, hc⟩ := h hl'
 refine ⟨b, off, rfl, hlt, fun i hi => ?_⟩
 rw [List.length_take] at hi
 have e : frg (L.take n) i = frg L i := by unfold frg; rw [List.getElem?_take, if_pos (by omega)]
 rw [e]
 exact hc i (by omega)
theorem fr_of_row {w : World} {base : Nat} {v : Value} {L : List (Int × Int)} (h : w.ownsRow base 110 2 v L.length (frflat L)) : ∃ a cap, v = .slice a L.length cap ∧ L.length ≤ cap ∧ cap ≤ maxLen ∧ (a = none → cap = 0) ∧ Frs w.heap.size w a L := by
 rcases h.2 with ⟨rfl, h0⟩ | ⟨g, cap, cur, rfl, hb, hg, h1, h2, _⟩
 ·exact ⟨none, 0, by rw [h0], by omega, by unfold maxLen; omega, fun _ => rfl, fun hl => by omega⟩
 ·refine ⟨_, cap, rfl, h1, h2, (fun e => by cases e), fun _ => ⟨g, 0, rfl, (Array.getElem?_eq_some_iff.1 hg).1, fun i hi => ?_⟩⟩
  obtain ⟨f0, f1⟩ := frflat_at L i hi
  have c0 := h.cellAt (i * 2) (by omega)
  have c1 := h.cellAt (i * 2 + 1) (by omega)
  rw [f0] at c0
  rw [f1] at c1
  rw [Nat.zero_add]
  exact ⟨c0, c1⟩
end Go.Proofs.YtlnodjcmdnmnlaaGreat
