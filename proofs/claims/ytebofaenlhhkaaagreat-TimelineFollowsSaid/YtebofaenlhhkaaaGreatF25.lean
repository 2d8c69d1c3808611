/-
  THE WALKS of ratio.floor, ratio.Ceil and timeline.whole.
-/
import Derived.Test.YtebofaenlhhkaaaGreatF24
namespace Go.Proofs.YtebofaenlhhkaaaGreat
set_option maxRecDepth 100000
set_option maxHeartbeats 80000000
section
open Go.RowKit Go.Shelf
attribute [local go_sem] Oper.semAt_some
theorem tdiv_floor (n : Int) {d : Int} (hd : 0 < d) : n / d = if n.tmod d < 0 then n.tdiv d - 1 else n.tdiv d := by
 have e := Int.mul_tdiv_add_tmod n d;have l := Int.tmod_lt_of_pos n hd
 have g : -d < n.tmod d := by
  have := Int.tmod_lt_of_pos (-n) hd;rw [Int.neg_tmod] at this;omega
 obtain ⟨q, hq⟩ := nm (n.tdiv d);obtain ⟨r, hr⟩ := nm (n.tmod d);rw [hq, hr] at e;rw [hr] at l g;rw [hq, hr]
 by_cases c : r < 0
 ·rw [if_pos c, ← e, show d * q + r = (r + d) + d * (q - 1) by rw [Int.mul_sub]; omega, Int.add_mul_ediv_left _ _ (by omega), Int.ediv_eq_zero_of_lt (by omega) (by omega)]
  omega
 ·rw [if_neg c, ← e, show d * q + r = r + d * q by omega, Int.add_mul_ediv_left _ _ (by omega), Int.ediv_eq_zero_of_lt (by omega) (by omega)]
  omega
theorem floor_any (n d : Int) (n0 : -1152921504606846976 ≤ n) (n1 : n ≤ 1152921504606846976) (d0 : 0 < d) (w : World) :
  Calls Tryz.prog 111 #[.int .i64 n, .int .i64 d] w fun e w' => e = .returned (.int .i64 (n / d)) ∧ w = w' := by
 have HF := lh (tdiv_floor n d0)
 have hq : -1152921504606846976 ≤ n.tdiv d ∧ n.tdiv d ≤ 1152921504606846976 := by
  have := Int.natAbs_tdiv n d;have h2 := Nat.div_le_self n.natAbs d.natAbs;have : (n.tdiv d).natAbs = n.natAbs.div d.natAbs := this;have h3 : n.natAbs.div d.natAbs = n.natAbs / d.natAbs := rfl;omega
 have hz : (d == 0) = false := beq_eq_false_iff_ne.2 (by omega);have w1 : IntKind.i64.wrap (n.tdiv d) = n.tdiv d := by simp only [IntKind.wrap_i64]; omega
 have hm : -d < n.tmod d ∧ n.tmod d < d := by
  have l := Int.tmod_lt_of_pos n d0;have := Int.tmod_lt_of_pos (-n) d0;rw [Int.neg_tmod] at this;omega
 obtain ⟨q, hqq⟩ := nm (n.tdiv d);obtain ⟨r, hrr⟩ := nm (n.tmod d)
 by_cases c : n.tmod d < 0
 ·have HC := lh c
  go_enter Tryz.func111, Tryz.ntmps111
  go_wp2_with fail
  go_ret;exact ⟨ret_int (by rw [HF.out, if_pos HC.out]; go_num), rfl⟩
 ·have HC := lh c
  go_enter Tryz.func111, Tryz.ntmps111
  go_wp2_with fail
  go_ret;exact ⟨ret_int (by rw [HF.out, if_neg (by have := HC.out; omega)]; first | exact hqq.symm | exact hqq | rfl), rfl⟩
theorem ceil_any (n d : Int) (hv : validF n d = true) (w : World) :
  Calls Tryz.prog 77 #[.agg #[.int .i64 n, .int .i64 d]] w fun e w' => e = .returned (.tuple #[.int .i64 (ceilI n d), .int .i64 0]) ∧ Below w.heap.size w w' := by
 obtain ⟨d0, d1, n0, n1, _⟩ := (validF_iff _ _).1 hv;have hb0 := lh (below_new w (.cells #[.int .i64 n, .int .i64 d] 49));have HC := lh (valid_any n d);have HV := lh hv;have hw : IntKind.i64.wrap (-n) = -n := by simp only [IntKind.wrap_i64]; omega
 have HFL := lh fun w' => floor_any (-n) d (by omega) (by omega) (by omega) w'
 have hbd : -1152921504606846976 ≤ -n / d ∧ -n / d ≤ 1152921504606846976 := by
  have := Int.natAbs_ediv_le_natAbs (-n) d;omega
 have hc : IntKind.i64.wrap (-(-n / d)) = ceilI n d := by unfold ceilI; simp only [IntKind.wrap_i64]; omega
 clear hv
 go_enter Tryz.func77, Tryz.ntmps77
 go_wp2_with (first
  | (go_at_call 68; (with_reducible refine (HC.out _).mono ?_); rintro e w1 ⟨rfl, hb1⟩; rw [HV.out]; have HB1 := lh (hb0.out.trans (hb1.mono hb0.out.size)); have g0 := (hb1.cell (p := ⟨w.heap.size, 0, none⟩) (by simp)).trans (show (w.alloc (.cells #[.int .i64 n, .int .i64 d] 49)).cell? ⟨w.heap.size, 0, none⟩ = some (.int .i64 n) by simp); have g1 := (hb1.cell (p := ⟨w.heap.size, 1, none⟩) (by simp)).trans (show (w.alloc (.cells #[.int .i64 n, .int .i64 d] 49)).cell? ⟨w.heap.size, 1, none⟩ = some (.int .i64 d) by simp))
  | (go_at_call 111; (with_reducible refine (HFL.out _).mono ?_); rintro e w2 ⟨rfl, rfl⟩))
 go_ret2
 exact ⟨rfl, HB1.out⟩
theorem twhole_any (n : Int) (w : World) : Calls Tryz.prog 76 #[.int .i64 n] w fun e w' => e = .returned (.agg #[.int .i64 n, .int .i64 1]) ∧ Below w.heap.size w w' := by
 go_enter Tryz.func76, Tryz.ntmps76
 go_wp2_with fail
 refine bodyPost_ret (v := .agg #[.int .i64 n, .int .i64 1]) (by simp [results, Tryz.results76, go_sem]) rfl ⟨rfl, ?_⟩;exact below_new _ _
end
section
open Go.RowKit Go.Shelf
theorem findI_name (L : List CueR) (s : ByteArray) (h : 0 ≤ findI L s) : (findI L s).toNat < L.length ∧ (cg L (findI L s).toNat).name = s ∧ findI L s = ((findI L s).toNat : Int) := by
 rcases cue_first_cases L (fun r => decide (r.name = s)) with ⟨e, _⟩ | ⟨k, hk, e, h1, _⟩
 ·exact absurd h (by show ¬ 0 ≤ cue_first L _; rw [e]; decide)
 ·have e' : findI L s = k := e
  rw [e', Int.toNat_natCast];exact ⟨hk, of_decide_eq_true h1, rfl⟩
/-! ### Slices of bool -/

def btg (L : List (Bool)) (i : Nat) : Bool := (L[i]?).getD false
def bflat (L : List (Bool)) : List Value := L.flatMap fun r => [.bool r]
theorem bflat_at (L : List (Bool)) (i : Nat) (hi : i < L.length) : (bflat L)[i]? = some (.bool (btg L i)) := by
 induction L generalizing i with
 | nil => simp at hi
 | cons x r ih =>
  match i with
  | 0 => exact rfl
  | i + 1 =>
   have := ih i (by simpa using hi);have e : bflat (x :: r) = .bool x :: bflat r := rfl;rw [e, show (i + 1) = i + 1 by omega]
   simpa [btg] using this
theorem bflat_snoc (L : List (Bool)) (r : Bool) : bflat (L ++ [r]) = bflat L ++ [.bool r] := by simp [bflat]
theorem str_info : (Tryz.prog.info? 9).map (fun i => (i.zero, i.size, i.bytes)) = some (some (.string ⟨#[]⟩), 1, 16) := by kernel_rfl

theorem str_append {ops : Array Oper} {rest : List Oper} {o : Oper} {a : Act} {w : World} {Q : Exit → Act → World → Prop} (hgd : o.guard = none) (s x : Operand)
  (ho : o.op = .call { callee := .builtin .append, args := #[s, x], argTypes := #[72, 72] })
  (base : Nat) (v : Value) (L : List (ByteArray)) (hs : a.eval s = v) (hown : w.ownsRow base 9 1 v L.length (sflat L))
  (bl : Nat) (y : ByteArray) (hx : a.eval x = .slice (some ⟨bl, 0, none⟩) 1 1) (hc : w.cell? ⟨bl, 0, none⟩ = some (.string y)) (hl : L.length ≤ 1000000) (hbase : base ≤ w.heap.size)
  (h : ∀ v' w', w'.ownsRow base 9 1 v' (L ++ [y]).length (sflat (L ++ [y])) → w.grownBy w' v.ownBlock → wpList Tryz.prog ops Q rest (a.put o.dst v') w') : wpList Tryz.prog ops Q (o :: rest) a w := by
 obtain ⟨i0, hi, hz0, hz1, hz2⟩ := info_parts str_info;refine wpList_append_own _ hgd s x 72 ho base 9 i0 _ 1 16 Tryz.underlying72 hi hz0 hz1 hz2 rfl (by decide) v L.length (sflat L) hs hown ⟨bl, 0, none⟩ 1 1 [.string y] hx rfl ?_ (by simp [Value.oneCell']) (by unfold maxLen; omega) (by omega) hbase ?_
 ·have c0 := hc
  intro j u hj;rw [Go.WideShapes.add_plain, Nat.zero_add]
  match j, hj with
  | 0, hj => simp at hj; subst hj; exact c0
 ·intro v' w' h1 h2 _
  refine h v' w' ?_ h2;rw [sflat_snoc, List.length_append];exact h1
def later (S : List Int) (a b : Nat) : Nat := if ig S b < ig S a then a else b
theorem linked_len {L : List CueR} {A : List (ByteArray × ByteArray)} (h : linkedB L A = true) : L.length ≤ 60 ∧ A.length ≤ 1000 := by
 unfold linkedB at h;simp only [Bool.and_eq_true, decide_eq_true_eq] at h;exact h.1.1

theorem any_num (S : List Int) (p : Int → Bool) (b : Bool) (h : S.any p = b) : Hid (num_any S p = b) := lh (by rw [num_any_eq, h])
def hangI (L : List CueR) (k : Nat) : Int := if (cg L k).link = 1 then -1 else findI L (cg L k).after
def hangsTo (L : List CueR) (k : Nat) : List Int := (List.range k).map (hangI L)
theorem hangsTo_succ (L : List CueR) (k : Nat) : hangsTo L (k + 1) = hangsTo L k ++ [hangI L k] := by unfold hangsTo; rw [List.range_succ, List.map_append]; rfl
theorem hangsTo_len (L : List CueR) (k : Nat) : (hangsTo L k).length = k := by simp [hangsTo]
def hangs (L : List CueR) : List Int := hangsTo L L.length
theorem hangs_len (L : List CueR) : (hangs L).length = L.length := hangsTo_len L _

theorem before_any (ca pa : Option Addr) (L : List CueR) (A : List (ByteArray × ByteArray)) (cc pc : Nat) (w : World) (hlen : L.length ≤ 1100) (hI : Cues w.heap.size w ca L) :
  Calls Tryz.prog 161 #[.agg #[.slice ca L.length cc, .slice pa A.length pc]] w fun e w' => Hid (∃ v, e = .returned v ∧ w'.ownsRow w.heap.size 3 1 v (hangs L).length (nflat (hangs L)) ∧ Below w.heap.size w w') := by
 have hb0 : Below w.heap.size w (w.alloc (.cells #[.slice ca L.length cc, .slice pa A.length pc] 29)) := below_new w _;have HI := lh (hI.grow hb0); clear hI;have HX : Hid (∀ wr, Below (w.alloc (.cells #[.slice ca L.length cc, .slice pa A.length pc] 29)).heap.size (w.alloc (.cells #[.slice ca L.length cc, .slice pa A.length pc] 29)) wr → Below w.heap.size w wr ∧ wr.cell? ⟨w.heap.size, 0, none⟩ = some (.slice ca L.length cc) ∧ wr.cell? ⟨w.heap.size, 1, none⟩ = some (.slice pa A.length pc)) := lh fun wr h => ⟨mono_in _ h, box2 h⟩;have hz0 : w.heap.size ≤ (w.alloc (.cells #[.slice ca L.length cc, .slice pa A.length pc] 29)).heap.size := hb0.size;clear hb0
 go_enter Tryz.func161, Tryz.ntmps161
 go_wp2
 generalize w.alloc (.cells #[.slice ca L.length cc, .slice pa A.length pc] 29) = W0 at *
 go_loopw [3, 10] (fun v i wr => ∃ k : Nat, k ≤ L.length ∧ i = .int .i64 k ∧ Below W0.heap.size W0 wr ∧ Hid (wr.ownsRow W0.heap.size 3 1 v (hangsTo L k).length (nflat (hangsTo L k)))) (fun _ i _ => L.length - (intOf i).toNat)
 case atStart => exact ⟨0, Nat.zero_le _, rfl, br, lh (World.ownsRow_nil _ _ _ _)⟩
 case round =>
  obtain ⟨k, hk, rfl, hB, HR⟩ := hrel;obtain ⟨_, z0, z1⟩ := HX.out _ hB;have hbz : w.heap.size < wr.heap.size := wl z0;have HIR := lh (HI.out.grow hB);have hbs := hB.size
  by_cases hlt : k < L.length
  ·obtain ⟨b, off, rfl, hbl, hc⟩ := HIR.out (by omega)
   obtain ⟨d0, d1, d2, d3, d4, d5, d6⟩ := hc k hlt;have HBA := lh (below_new wr (.cells #[.string (cg L k).name, .string (cg L k).after, .int .i64 (cg L k).link, .int .i64 (cg L k).delay, .slice (cg L k).ma (cg L k).moves.length (cg L k).mc, .int .i64 (cg L k).crew, .int .i64 (cg L k).power] 86));have HL : Hid ((hangsTo L k).length ≤ 1000000) := lh (by rw [hangsTo_len]; omega);clear hc
   by_cases l1 : (cg L k).link = 1
   ·have m1 : ((cg L k).link != 1) = false := bne_eq_false_iff_eq.2 l1
    have HH : Hid (hangsTo L (k + 1) = hangsTo L k ++ [-1]) := lh (by rw [hangsTo_succ]; unfold hangI; rw [if_pos l1]);clear l1
    go_wp2_with (at_builtin; refine num_append rfl _ _ rfl W0.heap.size _ (hangsTo L k) rfl ((HR.out.alloc _).alloc _) _ (-1) rfl (by simp) HL.out (by simp; omega) ?_; intro v1 w2 hown2 hg2; have hB2 := grown_own ((HR.out.alloc _).alloc _) hg2 ((hB.alloc hbs _).alloc (by simp; omega) _) (by simp; omega) (Nat.le_refl _))
    go_roundw
    case rel => exact ⟨k + 1, by omega, by go_num, hB2, lh (by rw [HH.out]; exact hown2)⟩
    case measure => simp [intOf]; omega
   ·have m1 : ((cg L k).link != 1) = true := bne_iff_ne.2 l1
    have HH : Hid (hangsTo L (k + 1) = hangsTo L k ++ [findI L (cg L k).after]) := lh (by rw [hangsTo_succ]; unfold hangI; rw [if_neg l1]);clear l1
    go_wp2_with (first
     | (go_at_call 116; (with_reducible refine (find_any _ L _ _ (cg L k).after _ hlen (HIR.out.grow HBA.out)).mono ?_); rintro e w1 ⟨rfl, hb1⟩; have hB1 := HBA.out.trans (hb1.mono HBA.out.size); have hz1 := hB1.size; have HR1 := lh (ownsRow_below HR.out hB1))
     | (at_builtin; refine num_append rfl _ _ rfl W0.heap.size _ (hangsTo L k) rfl (HR1.out.alloc _) _ (findI L (cg L k).after) rfl (by simp) HL.out (by simp; omega) ?_; intro v1 w2 hown2 hg2; have hB2 := grown_own (HR1.out.alloc _) hg2 ((hB.trans (hB1.mono hbs)).alloc (by omega) _) (by simp; omega) (Nat.le_refl _)))
    go_roundw
    case rel => exact ⟨k + 1, by omega, by go_num, hB2, lh (by rw [HH.out]; exact hown2)⟩
    case measure => simp [intOf]; omega
  ·obtain rfl : k = L.length := by omega
   go_wp2
   go_ret;exact lh ⟨_, rfl, ownsRow_base HR.out hz0, (HX.out _ hB).1⟩
end
section
theorem pigeon (n : Nat) : ∀ l : List Int, l.Nodup → (∀ x ∈ l, 0 ≤ x ∧ x < n) → l.length ≤ n := by
 induction n with
 | zero =>
  intro l _ h
  cases l with
  | nil => exact Nat.le_refl _
  | cons x r => have := h x List.mem_cons_self; omega
 | succ n ih =>
  intro l hn h
  have h1 := ih (l.erase (n : Int)) (hn.erase _) fun x hx => by
   have hm := (List.Nodup.mem_erase_iff hn).1 hx;have := h x hm.2;have hne := hm.1;omega
  have h2 : l.length ≤ (l.erase (n : Int)).length + 1 := by
   rw [List.length_erase]
   split <;> omega
  omega

def HangOK (hs : List Int) : Prop := ∀ k, k < hs.length → -1 ≤ ig hs k ∧ ig hs k < hs.length

/-! ### The chain -/
def chainF (hs : List Int) : Nat → List Int → Int → List Int × Bool
 | 0, out, _ => (out, false)
 | f + 1, out, i => if i < 0 then (out, true) else if i ∈ out then (out, false) else chainF hs f (out ++ [i]) (ig hs i.toNat)
def chainP (hs : List Int) (i : Int) : List Int × Bool := chainF hs (hs.length + 1) [] i
theorem snoc_nodup {out : List Int} {i : Int} (h : out.Nodup) (hi : i ∉ out) : (out ++ [i]).Nodup := by
 rw [List.nodup_append];refine ⟨h, List.pairwise_singleton _ _, fun a ha b hb => ?_⟩;obtain rfl : b = i := by simpa using hb
 exact fun e => hi (e ▸ ha)
theorem snoc_in {n : Nat} {out : List Int} {i : Int} (h : ∀ x ∈ out, 0 ≤ x ∧ x < (n : Int)) (h0 : 0 ≤ i) (h1 : i < n) : ∀ x ∈ out ++ [i], 0 ≤ x ∧ x < (n : Int) := by
 intro x hx;rcases List.mem_append.1 hx with h' | h'
 ·exact h x h'
 ·obtain rfl : x = i := by simpa using h'
  exact ⟨h0, h1⟩
structure ChainAt (hs : List Int) (i0 : Int) (out : List Int) (i : Int) : Prop where
 nd : out.Nodup
 inn : ∀ x ∈ out, 0 ≤ x ∧ x < (hs.length : Int)
 lo : -1 ≤ i
 hi : i < hs.length
 eq : chainF hs (hs.length + 1 - out.length) out i = chainP hs i0
namespace ChainAt
variable {hs out : List Int} {i0 i : Int}
theorem start (h0 : -1 ≤ i0) (h1 : i0 < hs.length) : ChainAt hs i0 [] i0 := ⟨List.Pairwise.nil, (fun _ h => by cases h), h0, h1, rfl⟩
theorem len (h : ChainAt hs i0 out i) : out.length ≤ hs.length := pigeon _ _ h.nd h.inn
theorem fuel (h : ChainAt hs i0 out i) : ∃ f, hs.length + 1 - out.length = f + 1 ∧ hs.length - out.length = f := by
 have := h.len;exact ⟨hs.length - out.length, by omega, rfl⟩
theorem ends (h : ChainAt hs i0 out i) (hi : i < 0) : chainP hs i0 = (out, true) := by
 obtain ⟨f, e, _⟩ := h.fuel;rw [← h.eq, e];simp only [chainF];rw [if_pos hi]
theorem back (h : ChainAt hs i0 out i) (h0 : ¬ i < 0) (hi : i ∈ out) : chainP hs i0 = (out, false) := by
 obtain ⟨f, e, _⟩ := h.fuel;rw [← h.eq, e];simp only [chainF];rw [if_neg h0, if_pos hi]
theorem next (h : ChainAt hs i0 out i) (hk : HangOK hs) (h0 : ¬ i < 0) (hi : i ∉ out) : ChainAt hs i0 (out ++ [i]) (ig hs i.toNat) := by
 obtain ⟨f, e, e2⟩ := h.fuel;have hb := hk i.toNat (by have := h.hi; omega);refine ⟨snoc_nodup h.nd hi, snoc_in h.inn (by omega) h.hi, hb.1, hb.2, ?_⟩;rw [← h.eq, e];simp only [chainF];rw [if_neg h0, if_neg hi, List.length_append, List.length_singleton, show hs.length + 1 - (out.length + 1) = f by omega]
end ChainAt
/-! ### The order -/
def readyB (hs : List Int) (out : List Int) (i : Nat) : Bool := !decide ((i : Int) ∈ out) && (decide (ig hs i < 0) || decide (ig hs i ∈ out))
def nextO (hs out : List Int) : Option Nat := (List.range hs.length).find? (readyB hs out)
def ordF (hs : List Int) : Nat → List Int → List Int
 | 0, out => out
 | f + 1, out => match nextO hs out with
  | none => out
  | some k => ordF hs f (out ++ [(k : Int)])
def ordP (hs : List Int) : List Int := ordF hs hs.length []
theorem next_none {hs out : List Int} (h : ∀ i, i < hs.length → readyB hs out i = false) : nextO hs out = none := by
 unfold nextO;rw [List.find?_eq_none];intro x hx
 simpa using h x (by simpa using hx)
theorem next_some {hs out : List Int} (k : Nat) (hk : k < hs.length) (h : readyB hs out k = true) (hn : ∀ i, i < k → readyB hs out i = false) : nextO hs out = some k := by
 unfold nextO;rw [List.find?_eq_some_iff_getElem];refine ⟨by simpa using h, k, by simpa using hk, by simp, fun j hj => ?_⟩
 simpa using hn j hj
theorem next_of {hs out : List Int} {k : Nat} (h : nextO hs out = some k) : k < hs.length ∧ readyB hs out k = true ∧ ∀ i, i < k → readyB hs out i = false := by
 unfold nextO at h;rw [List.find?_eq_some_iff_getElem] at h;obtain ⟨h1, i, hi, e, h2⟩ := h;have hi' : i < hs.length := by simpa using hi
 obtain rfl : i = k := by simpa using e
 exact ⟨hi', by simpa using h1, fun j hj => by simpa using h2 j hj⟩
theorem ordF_none {hs out : List Int} (h : nextO hs out = none) (f : Nat) : ordF hs f out = out := by
 cases f with
 | zero => rfl
 | succ f => simp only [ordF]; rw [h]
structure OrdAt (hs out : List Int) : Prop where
 nd : out.Nodup
 inn : ∀ x ∈ out, 0 ≤ x ∧ x < (hs.length : Int)
 eq : ordF hs (hs.length - out.length) out = ordP hs
namespace OrdAt
variable {hs out : List Int}
theorem start (hs : List Int) : OrdAt hs [] := ⟨List.Pairwise.nil, (fun _ h => by cases h), rfl⟩
theorem len (h : OrdAt hs out) : out.length ≤ hs.length := pigeon _ _ h.nd h.inn
theorem ready_not {k : Nat} (h : readyB hs out k = true) : (k : Int) ∉ out := by
 unfold readyB at h;simp only [Bool.and_eq_true, Bool.not_eq_true', decide_eq_false_iff_not] at h;exact h.1
theorem ends (h : OrdAt hs out) (hn : nextO hs out = none) : ordP hs = out := by rw [← h.eq]; exact ordF_none hn _
theorem next (h : OrdAt hs out) (k : Nat) (hn : nextO hs out = some k) : OrdAt hs (out ++ [(k : Int)]) ∧ out.length < hs.length := by
 obtain ⟨hk, hr, _⟩ := next_of hn;have h1 := snoc_nodup h.nd (ready_not hr);have h2 := snoc_in h.inn (Int.natCast_nonneg k) (by omega);have h3 := pigeon _ _ h1 h2;rw [List.length_append, List.length_singleton] at h3;refine ⟨⟨h1, h2, ?_⟩, by omega⟩;rw [← h.eq, List.length_append, List.length_singleton, show hs.length - out.length = (hs.length - (out.length + 1)) + 1 by omega];simp only [ordF];rw [hn]
end OrdAt
def doneL (n : Nat) (out : List Int) : List Bool := (List.range n).map fun i : Nat => decide ((i : Int) ∈ out)
theorem doneL_len (n : Nat) (out : List Int) : (doneL n out).length = n := by simp [doneL]
theorem doneL_at (n : Nat) (out : List Int) (i : Nat) (h : i < n) : btg (doneL n out) i = decide ((i : Int) ∈ out) := by
 unfold btg doneL;rw [List.getElem?_map, List.getElem?_range h]
 rfl
theorem doneL_set (n : Nat) (out : List Int) (k : Nat) : (bflat (doneL n out)).set k (.bool true) = bflat (doneL n (out ++ [(k : Int)])) := by
 have e : ∀ l : List Bool, bflat l = l.map Value.bool := fun l => by
  induction l with
  | nil => rfl
  | cons x r ih => rw [List.map_cons, ← ih]; rfl
 rw [e, e];unfold doneL;refine List.ext_getElem? fun i => ?_;rw [List.getElem?_set];simp only [List.length_map, List.length_range, List.getElem?_map]
 by_cases h : k = i
 ·subst h
  by_cases hk : k < n
  ·simp [hk]
  ·simp [hk]
 ·rw [if_neg h]
  by_cases hi : i < n
  ·rw [List.getElem?_range hi]
   have : ¬ ((i : Int) = (k : Int)) := by omega
   simp [this]
  ·rw [List.getElem?_eq_none (by simpa using hi)]; rfl
theorem doneL_nil (n : Nat) : bflat (doneL n []) = List.replicate n (.bool false) := by
 induction n with
 | zero => rfl
 | succ n ih =>
  have e : doneL (n + 1) [] = doneL n [] ++ [false] := by unfold doneL; rw [List.range_succ, List.map_append]; rfl
  rw [e, bflat_snoc, ih, List.replicate_succ']
theorem hang_ok (L : List CueR) : HangOK (hangs L) := by
 intro k hk;rw [hangs_len] at hk ⊢
 have e : ig (hangs L) k = hangI L k := by
  unfold ig hangs hangsTo;rw [List.getElem?_map, List.getElem?_range hk]
  rfl
 rw [e];unfold hangI
 split
 ·omega
 ·rcases cue_first_cases L (fun r => decide (r.name = (cg L k).after)) with ⟨e1, _⟩ | ⟨j, hj, e1, _⟩
  ·have e1' : findI L (cg L k).after = -1 := e1
   omega
  ·have e1' : findI L (cg L k).after = j := e1
   omega
theorem hangs_at (L : List CueR) (k : Nat) (hk : k < L.length) : ig (hangs L) k = hangI L k := by
 unfold ig hangs hangsTo;rw [List.getElem?_map, List.getElem?_range hk]
 rfl
end
section
open Go.RowKit Go.Shelf
theorem bit_info : (Tryz.prog.info? 4).map (fun i => (i.zero, i.size, i.bytes)) = some (some (.bool false), 1, 1) := by kernel_rfl
theorem made_false (n : Nat) : (madeCells (Value.bool false).cells (n * 1)).toList = bflat (doneL n []) := by
 rw [doneL_nil, Nat.mul_one]
 apply List.ext_getElem?
 intro j
 by_cases hj : j < n
 ·simp [madeCells, Value.cells, hj, Nat.mod_one]
 ·simp [madeCells, Value.cells, hj]
theorem bit_at {w : World} {base g n cap : Nat} {out : List Int} (h : w.ownsRow base 4 1 (.slice (some ⟨g, 0, none⟩) n cap) n (bflat (doneL n out))) (i : Nat) (hi : i < n) : w.cell? ⟨g, i, none⟩ = some (.bool (decide ((i : Int) ∈ out))) := by
 rw [h.cellAt i (by omega), bflat_at _ _ (by rw [doneL_len]; exact hi), doneL_at n out i hi]
theorem ready_in {hs out : List Int} {j : Nat} (h : (j : Int) ∈ out) : readyB hs out j = false := by unfold readyB; rw [decide_eq_true h]; rfl
theorem ready_neg {hs out : List Int} {j : Nat} (h : (j : Int) ∉ out) (h2 : ig hs j < 0) : readyB hs out j = true := by unfold readyB; rw [decide_eq_false h, decide_eq_true h2]; rfl
theorem ready_done {hs out : List Int} {j m : Nat} (h : (j : Int) ∉ out) (h2 : ig hs j = m) (h3 : (m : Int) ∈ out) : readyB hs out j = true := by unfold readyB; rw [decide_eq_false h, h2, decide_eq_true h3, Bool.or_true]; rfl
theorem ready_no {hs out : List Int} {j m : Nat} (h2 : ig hs j = m) (h3 : (m : Int) ∉ out) : readyB hs out j = false := by unfold readyB; rw [h2, decide_eq_false h3, dF (show ¬ (m : Int) < 0 by omega)]; simp

theorem order_any (ca pa : Option Addr) (L : List CueR) (A : List (ByteArray × ByteArray)) (cc pc : Nat) (w : World) (hlen : L.length ≤ 1000) (hI : Cues w.heap.size w ca L) :
  Calls Tryz.prog 115 #[.agg #[.slice ca L.length cc, .slice pa A.length pc]] w fun e w' => Hid (∃ v, e = .returned v ∧ w'.ownsRow w.heap.size 3 1 v (ordP (hangs L)).length (nflat (ordP (hangs L))) ∧ Below w.heap.size w w') := by
 have hb0 : Below w.heap.size w (w.alloc (.cells #[.slice ca L.length cc, .slice pa A.length pc] 29)) := below_new w _;have HI := lh (hI.grow hb0); clear hI;have HM : Hid (∀ wr, Below (w.alloc (.cells #[.slice ca L.length cc, .slice pa A.length pc] 29)).heap.size (w.alloc (.cells #[.slice ca L.length cc, .slice pa A.length pc] 29)) wr → Below w.heap.size w wr) := lh fun wr h => mono_in _ h;have hz0 : w.heap.size ≤ (w.alloc (.cells #[.slice ca L.length cc, .slice pa A.length pc] 29)).heap.size := hb0.size;obtain ⟨i0, hi, hz1, hz2, hz3⟩ := info_parts bit_info;obtain ⟨hs, HH⟩ : ∃ hs, Hid (hangs L = hs) := ⟨_, lh rfl⟩;have HK : Hid (HangOK hs) := lh (by rw [← HH.out]; exact hang_ok L);have hhl : hs.length ≤ 1000 := by rw [← HH.out, hangs_len]; exact hlen
 clear hb0
 go_enter Tryz.func115, Tryz.ntmps115
 go_wp2_with (first
  | (go_at_call 161; (with_reducible refine (before_any _ _ L A _ _ _ (by omega) HI.out).mono ?_); rintro e w1 hx; obtain ⟨v1, rfl, hr1, hb1⟩ := hx.out; rw [HH.out] at hr1; obtain ⟨a1, c1, rfl, _, _, _, hn1⟩ := num_of_row hr1; have HN1 := lh hn1; clear hx hr1 hn1)
  | (at_make; refine wpList_make_full _ rfl _ _ 217 rfl w1.heap.size 4 i0 (.bool false) 1 Tryz.underlying217 hi hz1 hz2 _ _ _ _ (hs).length rfl rfl rfl rfl (by rw [hz3]; omega) (by unfold maxLen; omega) (Nat.le_refl _) ?_; intro w2 hown2 hg2; have HD2 := lh (show w2.ownsRow w1.heap.size 4 1 (.slice (some ⟨w1.heap.size, 0, none⟩) (hs).length (hs).length) (hs).length (bflat (doneL (hs).length [])) by rw [← made_false]; exact hown2); clear hown2))
 generalize w.alloc (.cells #[.slice ca L.length cc, .slice pa A.length pc] 29) = W0 at *;have hB2 : Below W0.heap.size W0 w2 := hb1.grown hg2 hb1.size (fun k e => by cases e);have hbs1 := hb1.size;have hw1 : w1.heap.size < w2.heap.size := (HD2.out.lt _ rfl).2;have HN2 : Hid (Nums w1.heap.size w2 a1 hs) := lh (HN1.out.below ((br).grown hg2 (Nat.le_refl _) (fun k e => by cases e)));clear HN1 hg2 HI hb1
 go_loopw [5] (fun v wr => ∃ out : List Int, Hid (OrdAt hs out) ∧ Hid (∃ a' c', v = .slice a' out.length c') ∧ Hid (wr.ownsRow w2.heap.size 3 1 v out.length (nflat out)) ∧ Hid (wr.ownsRow w1.heap.size 4 1 (.slice (some ⟨w1.heap.size, 0, none⟩) hs.length hs.length) hs.length (bflat (doneL hs.length out))) ∧ Hid (Nums w1.heap.size wr a1 hs) ∧ Below W0.heap.size W0 wr ∧ w2.heap.size ≤ wr.heap.size) (fun v _ => (match v with | .slice _ n _ => hs.length + 1 - n | _ => 0))
 case atStart => exact ⟨[], lh (OrdAt.start hs), lh ⟨_, _, rfl⟩, lh (World.ownsRow_nil _ _ _ _), HD2, HN2, hB2, Nat.le_refl _⟩
 case round =>
  clear HD2 HN2 hB2;obtain ⟨out, HO, HV, HR, HD, HN, hB, hws⟩ := hrel;obtain ⟨a', c', rfl⟩ := HV.out;have hol := HO.out.len
  go_wp2_with fail
  obtain ⟨wo, rfl⟩ : ∃ wo : World, wo = wr := ⟨_, rfl⟩
  go_loop [6, 16] (fun kv i => kv = .int .i64 (-1) ∧ ∃ j : Nat, j ≤ hs.length ∧ i = .int .i64 j ∧ Hid (∀ x, x < j → readyB hs out x = false)) (fun _ i => hs.length - (intOf i).toNat)
  case atStart => exact ⟨rfl, 0, Nat.zero_le _, rfl, lh fun _ h => absurd h (Nat.not_lt_zero _)⟩
  case round =>
   obtain ⟨rfl, j, hj, rfl, HA⟩ := hrel
   by_cases hlt : j < hs.length
   ·obtain ⟨b, off, rfl, hbl, hc⟩ := HN.out (by omega)
    have d0 := hc j hlt;have dj := bit_at HD.out j hlt;have hkj := HK.out j hlt;have hjw : w1.heap.size < wo.heap.size := by omega
    clear hc
    have HAN : Hid (readyB hs out j = false → Hid (∀ x, x < j + 1 → readyB hs out x = false)) := lh fun h => lh fun x hx => by
     rcases Nat.lt_or_ge x j with l | l
     ·exact HA.out x l
     ·obtain rfl : x = j := by omega
      exact h
    by_cases hjo : (j : Int) ∈ out
    ·rw [decide_eq_true hjo] at dj
     have HAJ := HAN.out (ready_in hjo);clear hjo
     go_wp2_with fail
     go_round
     case rel => exact ⟨rfl, j + 1, by omega, by go_num, HAJ⟩
     case measure => simp [intOf]; omega
    ·rw [decide_eq_false hjo] at dj
     have hst := HD.out.stored j (.bool true);rw [doneL_set] at hst;have HST := lh hst.1;have hfz := HD.out.frozenAt j;have HNX : Hid (readyB hs out j = true → OrdAt hs (out ++ [(j : Int)]) ∧ out.length < hs.length) := lh fun h => HO.out.next j (next_some j hlt h HA.out);have HRS := lh (ownsRow_setCell_below HR.out (a := ⟨w1.heap.size, j, none⟩) hw1 (.bool true));have hBs : Below w1.heap.size wo (wo.setCell ⟨w1.heap.size, j, none⟩ (.bool true)) := (br).setCell (show w1.heap.size ≤ (⟨w1.heap.size, j, none⟩ : Addr).block from Nat.le_refl _) _;have HBS := lh hBs;have HHN := lh hjo;clear hst hBs
     by_cases hneg : ig hs j < 0
     ·have HR1 := lh (HNX.out (ready_neg hjo hneg))
      clear hjo
      go_wp2_with (at_builtin; refine num_append rfl _ _ rfl w2.heap.size _ out rfl (HRS.out.alloc _) _ (j : Int) rfl (new_set _ _ _ _ _) (by omega) (by first | omega | (simp; omega)) ?_; intro v3 w3 hown3 hg3)
      have hBn : Below w1.heap.size wo w3 := grown_own (HRS.out.alloc _) hg3 (HBS.out.alloc (by first | omega | (simp; omega)) _) (by first | omega | (simp; omega)) (by omega)
      have HDn := lh ((HST.out.alloc _).kept hg3 (.inr (by
       intro e;have : w2.heap.size ≤ w1.heap.size := (HRS.out.lt _ e.symm).1;omega)))
      go_roundw
      case rel => exact ⟨_, lh HR1.out.1, lh (by obtain ⟨a3, c3, e, _⟩ := num_of_row hown3; exact ⟨a3, c3, e⟩), lh hown3, HDn, lh (HN.out.below hBn), hB.trans (hBn.mono hbs1), by have := hBn.size; omega⟩
      case measure =>
       have := HR1.out.2;obtain ⟨a3, c3, e, _⟩ := num_of_row hown3;rw [e]
       simp
       omega
     ·obtain ⟨m, hm⟩ : ∃ m : Nat, ig hs j = m := ⟨(ig hs j).toNat, by omega⟩
      have hmb : m < hs.length := by omega
      have dm := bit_at HD.out m (by omega)
      by_cases hmo : (m : Int) ∈ out
      ·rw [decide_eq_true hmo] at dm
       have HR1 := lh (HNX.out (ready_done hjo hm hmo));rw [hm] at d0;clear hjo hmo hm hneg
       go_wp2_with (at_builtin; refine num_append rfl _ _ rfl w2.heap.size _ out rfl (HRS.out.alloc _) _ (j : Int) rfl (new_set _ _ _ _ _) (by omega) (by first | omega | (simp; omega)) ?_; intro v3 w3 hown3 hg3)
       have hBn : Below w1.heap.size wo w3 := grown_own (HRS.out.alloc _) hg3 (HBS.out.alloc (by first | omega | (simp; omega)) _) (by first | omega | (simp; omega)) (by omega)
       have HDn := lh ((HST.out.alloc _).kept hg3 (.inr (by
        intro e;have : w2.heap.size ≤ w1.heap.size := (HRS.out.lt _ e.symm).1;omega)))
       go_roundw
       case rel => exact ⟨_, lh HR1.out.1, lh (by obtain ⟨a3, c3, e, _⟩ := num_of_row hown3; exact ⟨a3, c3, e⟩), lh hown3, HDn, lh (HN.out.below hBn), hB.trans (hBn.mono hbs1), by have := hBn.size; omega⟩
       case measure =>
        have := HR1.out.2;obtain ⟨a3, c3, e, _⟩ := num_of_row hown3;rw [e]
        simp
        omega
      ·rw [decide_eq_false hmo] at dm
       have HAJ := HAN.out (ready_no hm hmo);rw [hm] at d0;clear hjo hmo hm hneg
       go_wp2_with fail
       go_round
       case rel => exact ⟨rfl, j + 1, by omega, by go_num, HAJ⟩
       case measure => simp [intOf]; omega
   ·obtain rfl : j = hs.length := by omega
    have HE := lh (HO.out.ends (next_none HA.out))
    go_wp2_with fail
    go_ret;rw [HH.out, HE.out];exact lh ⟨_, rfl, ownsRow_base HR.out (by omega), HM.out _ hB⟩
end
end Go.Proofs.YtebofaenlhhkaaaGreat
