/-
  THE WALK of subsets.Check.
-/
import Derived.Test.YtfiefmhnonddhaaDoorSumsA
namespace Go.Proofs.YtfiefmhnonddhaaDoor
open Go.RowKit Go.Shelf

def xsOf (P : List LstR) : List (List Int) := P.map LstR.xs
theorem xsOf_drop {P : List LstR} {j : Nat} (h : j < P.length) : (xsOf P).drop j = (lg P j).xs :: (xsOf P).drop (j + 1) := by
  unfold xsOf
  rw [List.drop_eq_getElem_cons (by rw [List.length_map]; exact h), List.getElem_map, lg_eq P j h]
theorem xsOf_end (P : List LstR) : (xsOf P).drop P.length = [] := List.drop_eq_nil_of_le (by unfold xsOf; rw [List.length_map]; exact Nat.le_refl _)
theorem ig_drop {p : List Int} {m : Nat} (h : m < p.length) : p.drop m = ig p m :: p.drop (m + 1) := by
  rw [List.drop_eq_getElem_cons h, ig_eq p m h]
/-- What Check answers. -/
def checkX (L : List Int) (ps : List (List Int)) : Bool := decide (givenE L = 0) && checkP L ps
/-- The lists of a slice of lists lie in memory. -/
def Each (n₀ : Nat) (w : World) (P : List LstR) : Prop := ∀ i, i < P.length → Nums n₀ w (lg P i).a (lg P i).xs ∧ (lg P i).xs.length ≤ 1000000
theorem Each.below {n₀ : Nat} {w w' : World} {P : List LstR} (h : Each n₀ w P) (hb : Below n₀ w w') : Each n₀ w' P := fun i hi => ⟨(h i hi).1.below hb, (h i hi).2⟩
theorem Each.mono {n₀ n₁ : Nat} {w : World} {P : List LstR} (h : Each n₀ w P) (hn : n₀ ≤ n₁) : Each n₁ w P := fun i hi => ⟨(h i hi).1.mono hn, (h i hi).2⟩
theorem Each.grow {w w' : World} {P : List LstR} (h : Each w.heap.size w P) (hb : Below w.heap.size w w') : Each w'.heap.size w' P := (h.below hb).mono hb.size
theorem chk_nil {l : List Int} {r : List (List Int)} {st : Nat × Int} : chkParts l ([] :: r) st = none := rfl
theorem chk_begin {l : List Int} {p : List Int} {r : List (List Int)} {st : Nat × Int} (h0 : 0 < p.length) (h : ig p 0 ≤ st.2) : chkParts l (p :: r) st = none := by
  cases p with
  | nil => cases h0
  | cons x p => unfold chkParts; rw [if_pos (by simpa [ig] using h)]
theorem chk_none {l : List Int} {p : List Int} {r : List (List Int)} {st : Nat × Int} (h : chkIn l p (st.1, 0, -1) = none) : chkParts l (p :: r) st = none := by
  cases p with
  | nil => rfl
  | cons x p =>
    unfold chkParts
    rw [h]
    split <;> rfl
theorem chk_sum {l : List Int} {p : List Int} {r : List (List Int)} {st : Nat × Int} {s' : Nat × Int × Int} (h : chkIn l p (st.1, 0, -1) = some s') (h2 : s'.2.1 ≠ 0) : chkParts l (p :: r) st = none := by
  cases p with
  | nil => rfl
  | cons x p =>
    unfold chkParts
    rw [h]
    simp only [if_neg h2]
    split <;> rfl
theorem chk_next {l : List Int} {p : List Int} {r : List (List Int)} {st : Nat × Int} {s' : Nat × Int × Int} (h0 : 0 < p.length) (h1 : ¬ ig p 0 ≤ st.2) (h : chkIn l p (st.1, 0, -1) = some s') (h2 : s'.2.1 = 0) : chkParts l (p :: r) st = chkParts l r (s'.1, ig p 0) := by
  cases p with
  | nil => cases h0
  | cons x p =>
    have e : ig (x :: p) 0 = x := by simp [ig]
    rw [e] at h1 ⊢
    show (if x ≤ st.2 then none else match chkIn l (x :: p) (st.1, 0, -1) with
      | none => none
      | some st' => if st'.2.1 = 0 then chkParts l r (st'.1, x) else none) = _
    rw [if_neg h1, h]
    simp only [if_pos h2]
theorem chkIn_bad {l : List Int} {k : Int} {r : List Int} {st : Nat × Int × Int} (h : k ≤ st.2.2 ∨ (l.length : Int) ≤ k ∨ st.1.testBit k.toNat = true) : chkIn l (k :: r) st = none := by
  unfold chkIn; rw [if_pos h]
theorem chkIn_good {l : List Int} {k : Int} {r : List Int} {st : Nat × Int × Int} (h : ¬ (k ≤ st.2.2 ∨ (l.length : Int) ≤ k ∨ st.1.testBit k.toNat = true)) : chkIn l (k :: r) st = chkIn l r (st.1 ||| 2 ^ k.toNat, st.2.1 + ig l k.toNat, k) := by
  rw [chkIn, if_neg h]; rfl
theorem u32_bit (s k : Nat) (hs : s < 65536) : bits .and .u32 ((s / 2 ^ k : Nat) : Int) 1 = if s.testBit k = true then 1 else 0 := by
  have h1 : s / 2 ^ k < 4294967296 := Nat.lt_of_le_of_lt (Nat.div_le_self _ _) (by omega)
  have := u32_and (s / 2 ^ k) 1 h1 (by omega)
  rw [show ((1 : Nat) : Int) = 1 from rfl] at this
  rw [this, Nat.and_one_is_mod, Nat.testBit_eq_decide_div_mod_eq]
  rcases Nat.mod_two_eq_zero_or_one (s / 2 ^ k) with e | e <;> rw [e] <;> rfl
theorem pow_mod {k n : Nat} (h : 2 ^ k < 2 ^ n) (h2 : 2 ^ n ≤ 65536) : ((2 ^ k : Nat) : Int) % 4294967296 = ((2 ^ k : Nat) : Int) := by
  generalize 2 ^ k = x at *
  omega
theorem u32_or (a b : Nat) (ha : a < 65536) (hb : b < 65536) : bits .or .u32 (a : Int) (b : Int) = ((a ||| b : Nat) : Int) :=
  (bits_nat .u32 32 (by decide) (fun n h0 h1 => by rw [wrap_u32']; omega) a b (by omega) (by omega)).2

set_option maxHeartbeats 8000000 in
set_option maxRecDepth 100000 in
theorem Check_any (a pa : Option Addr) (L : List Int) (P : List LstR) (cap pc : Nat) (w : World) (hl : L.length ≤ 1000000) (hI : Nums w.heap.size w a L) (hpl : P.length ≤ 1000000) (hP : Lsts w.heap.size w pa P) (hE : Each w.heap.size w P) :
    Calls Tryd.prog 28 #[.slice a L.length cap, .slice pa P.length pc] w fun e w' => e = .returned (.tuple #[.bool (checkX L (xsOf P)), .int .i64 (givenE L)]) ∧ Below w.heap.size w w' := by
  have HI := Lib.hid hI
  have HP := Lib.hid hP
  have HE := Lib.hid hE
  clear hI hP hE
  by_cases hg : givenE L = 0
  · have HG := Lib.hid hg
    have hl2 := (given_small hg).1
    have HB := Lib.hid (given_small hg).2
    have h16 : 2 ^ L.length ≤ 65536 := Nat.pow_le_pow_right (by decide) hl2
    have HX : Hid (checkX L (xsOf P) = checkP L (xsOf P)) := Lib.hid (by unfold checkX; rw [decide_eq_true hg, Bool.true_and])
    rw [HX.out, HG.out]
    clear hg
    go_enter Tryd.func28, Tryd.ntmps28
    go_wp2_with (go_at_call 42; (with_reducible refine (given_any _ L _ _ hl HI.out).mono ?_); rintro e w1 ⟨rfl, hb1⟩; rw [HG.out])
    go_loopw [7, 8, 22] (fun sv bv jv wr => ∃ (s : Nat) (b : Int) (j : Nat), sv = .int .u32 s ∧ bv = .int .i64 b ∧ jv = .int .i64 j ∧ j ≤ P.length ∧ Hid (s < 2 ^ L.length) ∧ Hid (chkParts L (xsOf P) (0, -1) = chkParts L ((xsOf P).drop j) (s, b)) ∧ Below w.heap.size w wr) (fun _ _ jv _ => P.length - (intOf jv).toNat)
    case atStart => exact ⟨0, -1, 0, rfl, rfl, rfl, Nat.zero_le _, Lib.hid (Nat.two_pow_pos _), Lib.hid rfl, hb1⟩
    case round =>
      clear hb1
      obtain ⟨s, b, j, rfl, rfl, rfl, hj, HS, HC, hB⟩ := hrel
      by_cases hlt : j < P.length
      · obtain ⟨pb, po, rfl, hpb, hpc⟩ := HP.out (by omega)
        have c0 := (hB.cell (p := ⟨pb, po + j, none⟩) hpb).trans (hpc j hlt)
        clear hpc
        have HD : Hid (chkParts L (xsOf P) (0, -1) = chkParts L ((lg P j).xs :: (xsOf P).drop (j + 1)) (s, b)) := Lib.hid (by rw [← xsOf_drop hlt]; exact HC.out)
        have HN := Lib.hid (HE.out j hlt).1
        have hxl := (HE.out j hlt).2
        have HNO : Hid (chkParts L (xsOf P) (0, -1) = none → checkP L (xsOf P) = false) := Lib.hid fun h => by unfold checkP; rw [h]
        obtain ⟨p, hp⟩ : ∃ p, lg P j = p := ⟨_, rfl⟩
        rw [hp] at c0 HD HN hxl
        obtain ⟨xa, xs, xc⟩ := p
        simp only at c0 HD HN hxl
        clear hp HC
        by_cases h0 : xs.length = 0
        · have g0 : ((xs.length : Int) == 0) = true := beq_iff_eq.2 (by omega)
          have HR := Lib.hid (HNO.out (by rw [HD.out, List.length_eq_zero_iff.1 h0]; exact chk_nil))
          clear h0
          go_wp2_with fail
          go_ret2
          exact ⟨by rw [HR.out]; rfl, hB⟩
        · have g0 : ((xs.length : Int) == 0) = false := beq_eq_false_iff_ne.2 (by omega)
          have hx0 : 0 < xs.length := by omega
          obtain ⟨xb, xo, rfl, hxb, hxc⟩ := HN.out hx0
          have d0 := (hB.cell (p := ⟨xb, xo, none⟩) hxb).trans (show w.cell? ⟨xb, xo + 0, none⟩ = _ from hxc 0 hx0)
          clear hxc h0
          obtain ⟨x0, hx⟩ : ∃ x, ig xs 0 = x := ⟨_, rfl⟩
          rw [hx] at d0
          have HX0 := Lib.hid hx
          clear hx
          by_cases h1 : x0 ≤ b
          · have g1 : decide (x0 ≤ b) = true := decide_eq_true h1
            have HR := Lib.hid (HNO.out (by rw [HD.out]; exact chk_begin hx0 (by rw [HX0.out]; exact h1)))
            clear h1
            go_wp2_with fail
            go_ret2
            exact ⟨by rw [HR.out]; rfl, hB⟩
          · have g1 : decide (x0 ≤ b) = false := decide_eq_false h1
            have HN1 := Lib.hid h1
            clear h1
            have HS0 := Lib.hid (show Nat.succ 0 = 1 from rfl)
            go_wp2_with fail
            go_loop [7, 11, 12, 41] (fun sv uv lv mv => ∃ (t : Nat) (u q : Int) (m : Nat), sv = .int .u32 t ∧ uv = .int .i64 u ∧ lv = .int .i64 q ∧ mv = .int .i64 m ∧ m ≤ xs.length ∧ Hid (t < 2 ^ L.length) ∧ Hid (chkIn L xs (s, 0, -1) = chkIn L (xs.drop m) (t, u, q)) ∧ -1 ≤ q ∧ q < L.length ∧ -(1125899906842624 * (q + 1)) ≤ u ∧ u ≤ 1125899906842624 * (q + 1)) (fun _ _ _ mv => xs.length - (intOf mv).toNat)
            case atStart => exact ⟨s, 0, -1, 0, rfl, rfl, rfl, rfl, Nat.zero_le _, HS, Lib.hid rfl, by omega, by omega, by omega, by omega⟩
            case round =>
              obtain ⟨t, u, q, m, rfl, rfl, rfl, rfl, hm, HT, HQ, hq1, hq2, hu1, hu2⟩ := hrel
              by_cases hml : m < xs.length
              · obtain ⟨xb', xo', e, hxb, hxc⟩ := HN.out hx0
                simp only [Option.some.injEq, Addr.mk.injEq, and_true] at e
                obtain ⟨rfl, rfl⟩ := e
                have d1 := (hB.cell (p := ⟨xb, xo + m, none⟩) hxb).trans (hxc m hml)
                clear hxc
                obtain ⟨k, hk⟩ : ∃ x, ig xs m = x := ⟨_, rfl⟩
                have HQ2 : Hid (chkIn L xs (s, 0, -1) = chkIn L (k :: xs.drop (m + 1)) (t, u, q)) := Lib.hid (by rw [← hk, ← ig_drop hml]; exact HQ.out)
                rw [hk] at d1
                clear hk HQ
                by_cases b1 : k ≤ q
                · have g2 : decide (k ≤ q) = true := decide_eq_true b1
                  have HR := Lib.hid (HNO.out (by rw [HD.out]; exact chk_none (by rw [HQ2.out]; exact chkIn_bad (.inl b1))))
                  clear b1
                  go_wp2_with fail
                  go_ret2
                  exact ⟨by rw [HR.out]; rfl, hB⟩
                · have g2 : decide (k ≤ q) = false := decide_eq_false b1
                  by_cases b2 : (L.length : Int) ≤ k
                  · have g3 : decide ((L.length : Int) ≤ k) = true := decide_eq_true b2
                    have HR := Lib.hid (HNO.out (by rw [HD.out]; exact chk_none (by rw [HQ2.out]; exact chkIn_bad (.inr (.inl b2)))))
                    clear b1 b2
                    go_wp2_with fail
                    go_ret2
                    exact ⟨by rw [HR.out]; rfl, hB⟩
                  · have g3 : decide ((L.length : Int) ≤ k) = false := decide_eq_false b2
                    obtain ⟨kk, rfl⟩ : ∃ kk : Nat, k = kk := ⟨k.toNat, by omega⟩
                    have hkl : kk < L.length := by omega
                    have ht16 : t < 65536 := by have := HT.out; omega
                    obtain ⟨lb, lo, rfl, hlb, hlc⟩ := HI.out (by omega)
                    have d2 := (hB.cell (p := ⟨lb, lo + kk, none⟩) hlb).trans (hlc kk hkl)
                    have hib := HB.out kk hkl
                    clear hlc
                    obtain ⟨y, hy⟩ : ∃ y, ig L kk = y := ⟨_, rfl⟩
                    rw [hy] at d2 hib
                    have hub : -(1125899906842624 * ((kk : Int) + 1)) ≤ u + y ∧ u + y ≤ 1125899906842624 * ((kk : Int) + 1) := by omega
                    have hwr : wrap64 (u + y) = u + y := by unfold wrap64; omega
                    have hbit := u32_bit t kk ht16
                    rw [show ((t / 2 ^ kk : Nat) : Int) = (t : Int) / 2 ^ kk by simp] at hbit
                    cases htb : t.testBit kk
                    · rw [htb] at hbit
                      have f1 : (bits .and .u32 ((t : Int) / 2 ^ kk) 1 == 1) = false := by rw [hbit]; rfl
                      have hpk : 2 ^ kk < 2 ^ L.length := Nat.pow_lt_pow_right (by decide) hkl
                      have HT2 : Hid (t ||| 2 ^ kk < 2 ^ L.length) := Lib.hid (Nat.or_lt_two_pow HT.out hpk)
                      have f2 : bits .or .u32 (t : Int) (2 ^ kk % 4294967296) = ((t ||| 2 ^ kk : Nat) : Int) := by
                        have : ((2 : Int) ^ kk % 4294967296) = ((2 ^ kk : Nat) : Int) := by
                          have e : ((2 : Int) ^ kk) = ((2 ^ kk : Nat) : Int) := by simp
                          rw [e]; exact pow_mod hpk h16
                        rw [this]
                        exact u32_or t (2 ^ kk) ht16 (by omega)
                      have HQ3 : Hid (chkIn L xs (s, 0, -1) = chkIn L (xs.drop (m + 1)) (t ||| 2 ^ kk, u + y, (kk : Int))) := Lib.hid (by
                        rw [HQ2.out, chkIn_good (by simp [htb]; omega)]
                        simp only [Int.toNat_natCast, hy])
                      obtain ⟨t2, ht2⟩ : ∃ t2 : Nat, t ||| 2 ^ kk = t2 := ⟨_, rfl⟩
                      obtain ⟨z, hz⟩ : ∃ z : Int, u + y = z := ⟨_, rfl⟩
                      rw [ht2] at f2 HT2 HQ3
                      rw [hz] at HQ3 hub hwr
                      clear hbit htb hpk ht2 hy HQ2 hu1 hu2 hib
                      go_wp2_with fail
                      go_round
                      case rel => exact ⟨t2, z, kk, m + 1, rfl, rfl, rfl, by go_num, by omega, HT2, HQ3, by omega, by omega, hub.1, hub.2⟩
                      case measure => simp [intOf]; omega
                    · rw [htb] at hbit
                      have f1 : (bits .and .u32 ((t : Int) / 2 ^ kk) 1 == 1) = true := by rw [hbit]; rfl
                      have HR := Lib.hid (HNO.out (by rw [HD.out]; exact chk_none (by rw [HQ2.out]; exact chkIn_bad (.inr (.inr (by rw [Int.toNat_natCast]; exact htb))))))
                      clear b1 b2 hbit htb hu1 hu2 hy HQ2
                      go_wp2_with fail
                      go_ret2
                      exact ⟨by rw [HR.out]; rfl, hB⟩
              · obtain rfl : m = xs.length := by omega
                have HQ2 : Hid (chkIn L xs (s, 0, -1) = some (t, u, q)) := Lib.hid (by rw [HQ.out, List.drop_length]; rfl)
                clear HQ
                by_cases hu : u = 0
                · have g2 : (u != 0) = false := bne_eq_false_iff_eq.2 hu
                  have HN2 : Hid (chkParts L (xsOf P) (0, -1) = chkParts L ((xsOf P).drop (j + 1)) (t, x0)) := Lib.hid (by
                    rw [HD.out, chk_next hx0 (by rw [HX0.out]; have := HN1.out; omega) HQ2.out hu, HX0.out])
                  clear hu hu1 hu2
                  go_wp2_with fail
                  go_roundw
                  case rel => exact ⟨t, x0, j + 1, rfl, rfl, by go_num, by omega, HT, HN2, hB⟩
                  case measure => simp [intOf]; omega
                · have g2 : (u != 0) = true := bne_iff_ne.2 hu
                  have HR := Lib.hid (HNO.out (by rw [HD.out]; exact chk_sum HQ2.out hu))
                  clear hu hu1 hu2
                  go_wp2_with fail
                  go_ret2
                  exact ⟨by rw [HR.out]; rfl, hB⟩
      · obtain rfl : j = P.length := by omega
        have HR : Hid (checkP L (xsOf P) = decide (sizN L.length s = L.length)) := Lib.hid (by
          unfold checkP
          rw [HC.out, xsOf_end]
          rfl)
        have HZ := Lib.hid (size_any L.length s hl2 HS.out wr)
        obtain ⟨z, hz⟩ : ∃ z : Nat, sizN L.length s = z := ⟨_, rfl⟩
        rw [hz] at HZ HR
        by_cases hzl : z = L.length
        · have g0 : ((z : Int) == L.length) = true := beq_iff_eq.2 (by omega)
          have HR2 : Hid (checkP L (xsOf P) = true) := Lib.hid (by rw [HR.out, decide_eq_true hzl])
          clear hzl
          go_wp2_with (go_at_call 51; (with_reducible refine HZ.out.mono ?_); rintro e w2 ⟨rfl, hb2⟩; have hB2 := hB.trans (hb2.mono hB.size))
          go_ret2
          exact ⟨by rw [HR2.out]; rfl, hB2⟩
        · have g0 : ((z : Int) == L.length) = false := beq_eq_false_iff_ne.2 (by omega)
          have HR2 : Hid (checkP L (xsOf P) = false) := Lib.hid (by rw [HR.out, decide_eq_false hzl])
          clear hzl
          go_wp2_with (go_at_call 51; (with_reducible refine HZ.out.mono ?_); rintro e w2 ⟨rfl, hb2⟩; have hB2 := hB.trans (hb2.mono hB.size))
          go_ret2
          exact ⟨by rw [HR2.out]; rfl, hB2⟩
  · have HX : Hid (checkX L (xsOf P) = false) := Lib.hid (by unfold checkX; rw [decide_eq_false hg]; rfl)
    rw [HX.out]
    have hg1 : (givenE L != 0) = true := bne_iff_ne.2 hg
    have hg2 : (givenE L == 0) = false := beq_eq_false_iff_ne.2 hg
    clear hg
    go_enter Tryd.func28, Tryd.ntmps28
    go_wp2_with (go_at_call 42; (with_reducible refine (given_any _ L _ _ hl HI.out).mono ?_); rintro e w1 ⟨rfl, hb1⟩)
    go_ret2
    exact ⟨rfl, hb1⟩
end Go.Proofs.YtfiefmhnonddhaaDoor
