/-
  THE WALK of the reference's Check.
-/
import Derived.Test.YtfiefmhnonddhaaDoorCheckA
import Derived.Test.YtfiefmhnonddhaaDoorPartsA
import Derived.Test.YtfiefmhnonddhaaDoorSubY
import Derived.Test.YtfiefmhnonddhaaDoorRefA
import Derived.Deep.RegionHeld3
namespace Go.Proofs.YtfiefmhnonddhaaDoor
open Go.RowKit Go.Shelf

theorem bool_info : (Tryd.prog.info? 4).map (fun i => (i.zero, i.size, i.bytes)) = some (some (.bool false), 1, 1) := by kernel_rfl
/-- The table of the indices that have been seen. -/
def seenL (n s : Nat) : List Value := (List.range n).map fun i => .bool (s.testBit i)
theorem seen_len (n s : Nat) : (seenL n s).length = n := by simp [seenL]
theorem seen_at {n s k : Nat} (h : k < n) : (seenL n s)[k]? = some (.bool (s.testBit k)) := by
  unfold seenL
  rw [List.getElem?_map, List.getElem?_range h]
  rfl
theorem seen_set {n s k : Nat} : (seenL n s).set k (.bool true) = seenL n (s ||| 2 ^ k) := by
  refine List.ext_getElem? fun j => ?_
  rw [List.getElem?_set, seen_len]
  by_cases hj : j < n
  · rw [seen_at hj, seen_at hj, Nat.testBit_or, Nat.testBit_two_pow]
    by_cases e : k = j
    · subst e; simp [hj]
    · simp [e]
  · have h1 : ∀ t, (seenL n t)[j]? = none := fun t => List.getElem?_eq_none (by rw [seen_len]; omega)
    rw [h1, h1]
    by_cases e : k = j
    · subst e; simp [hj]
    · simp [e]
theorem seen_zero (n : Nat) : (madeCells (Value.bool false).cells (n * 1)).toList = seenL n 0 := by
  have e : seenL n 0 = List.replicate n (.bool false) := by
    refine List.ext_getElem? fun j => ?_
    by_cases hj : j < n
    · rw [seen_at hj, List.getElem?_replicate, if_pos hj, Nat.zero_testBit]
    · rw [List.getElem?_eq_none (by rw [seen_len]; omega), List.getElem?_replicate, if_neg hj]
  rw [e, Nat.mul_one]
  exact toList_madeCells_one _ _
theorem rIn_bad {l : List Int} {k : Int} {r : List Int} {s c : Nat} {u q : Int} (h : k < 0 ∨ (l.length : Int) ≤ k ∨ s.testBit k.toNat = true ∨ k < q) : rIn l (k :: r) (s, c, u, q) = none := by
  rw [rIn, if_pos h]
theorem rIn_good {l : List Int} {k : Nat} {r : List Int} {s c : Nat} {u q : Int} (h1 : k < l.length) (h2 : s.testBit k = false) (h3 : ¬ (k : Int) < q) : rIn l ((k : Int) :: r) (s, c, u, q) = rIn l r (s ||| 2 ^ k, c + 1, u + ig l k, (k : Int)) := by
  rw [rIn, if_neg (by
    rw [not_or, not_or, not_or]
    exact ⟨by omega, by omega, by rw [Int.toNat_natCast, h2]; simp, h3⟩)]
  rfl
theorem rp_begin {l : List Int} {p : List Int} {r : List (List Int)} {s c : Nat} {b : Int} (h : rIn l p (s, c, 0, -1) = none) : rParts l (p :: r) (s, c, b) = none := by
  cases p with
  | nil => rfl
  | cons x p => unfold rParts; rw [h]
theorem rp_bad {l : List Int} {p : List Int} {r : List (List Int)} {s c t d : Nat} {b u q : Int} (h : rIn l p (s, c, 0, -1) = some (t, d, u, q)) (h2 : u ≠ 0 ∨ ig p 0 < b) : rParts l (p :: r) (s, c, b) = none := by
  cases p with
  | nil => rfl
  | cons x p =>
    have e : ig (x :: p) 0 = x := by simp [ig]
    rw [e] at h2
    unfold rParts
    rw [h]
    exact if_pos h2
theorem rp_next {l : List Int} {p : List Int} {r : List (List Int)} {s c t d : Nat} {b q : Int} (h0 : 0 < p.length) (h : rIn l p (s, c, 0, -1) = some (t, d, 0, q)) (h2 : ¬ ig p 0 < b) : rParts l (p :: r) (s, c, b) = rParts l r (t, d, ig p 0) := by
  cases p with
  | nil => cases h0
  | cons x p =>
    have e : ig (x :: p) 0 = x := by simp [ig]
    rw [e] at h2 ⊢
    rw [rParts, h]
    exact if_neg (by rw [not_or]; exact ⟨fun h => h rfl, h2⟩)
theorem rIn_first {l : List Int} {p : List Int} {s c : Nat} {u q : Int} {o : Nat × Nat × Int × Int} (h : rIn l p (s, c, u, q) = some o) (h0 : 0 < p.length) : 0 ≤ ig p 0 := by
  cases p with
  | nil => cases h0
  | cons x p =>
    have e : ig (x :: p) 0 = x := by simp [ig]
    rw [e]
    by_cases hx : x < 0
    · rw [rIn_bad (.inl hx)] at h; cases h
    · omega

set_option maxHeartbeats 16000000 in
set_option maxRecDepth 100000 in
theorem refcheck_any (a pa : Option Addr) (L : List Int) (P : List LstR) (cap pc : Nat) (w : World) (hG : givenE L = 0) (hI : Nums w.heap.size w a L) (hpl : P.length ≤ 20) (hP : Lsts w.heap.size w pa P) (hE : Each w.heap.size w P) (hEl : ∀ i, i < P.length → (lg P i).xs.length ≤ 20) :
    Calls Tryd.prog 30 #[.slice a L.length cap, .slice pa P.length pc] w fun e w' => e = .returned (.bool (checkP L (xsOf P))) ∧ Below w.heap.size w w' := by
  have HI := Lib.hid hI
  have HP := Lib.hid hP
  have HE := Lib.hid hE
  have HEL := Lib.hid hEl
  have hl2 := (given_small hG).1
  have HB := Lib.hid (given_small hG).2
  obtain ⟨i0, hi, hz1, hz2, hz3⟩ := info_parts bool_info
  clear hI hP hE hEl hG
  have HX : Hid (checkP L (xsOf P) = rcheckP L (xsOf P)) := Lib.hid (rcheck_eq L (xsOf P)).symm
  rw [HX.out]
  have HNO : Hid (rParts L (xsOf P) (0, 0, -1) = none → rcheckP L (xsOf P) = false) := Lib.hid fun h => by unfold rcheckP; rw [h]
  have HYES : Hid (∀ c, rParts L (xsOf P) (0, 0, -1) = some c → rcheckP L (xsOf P) = decide (c = L.length)) := Lib.hid fun c h => by unfold rcheckP; rw [h]
  clear HX
  go_enter Tryd.func30, Tryd.ntmps30
  go_wp2_with (at_make; refine wpList_make_full _ rfl _ _ 71 rfl w.heap.size 4 i0 (.bool false) 1 Tryd.underlying71 hi hz1 hz2 _ _ _ _ L.length rfl rfl rfl rfl (by rw [hz3]; omega) (by unfold maxLen; omega) (Nat.le_refl _) ?_; intro w3 hown3 hg3; have HD3 := Lib.hid (show w3.ownsRow w.heap.size 4 1 (.slice (some ⟨w.heap.size, 0, none⟩) L.length L.length) L.length (seenL L.length 0) by rw [← seen_zero L.length]; exact hown3); clear hown3)
  have hb3 : Below w.heap.size w w3 := (Below.refl _ _).grown hg3 (Nat.le_refl _) (fun k e => by cases e)
  clear hg3 hi hz1 hz2 hz3
  obtain ⟨B, hBe⟩ : ∃ B, w.heap.size = B := ⟨_, rfl⟩
  rw [hBe] at hb3 HD3 HI HP HE ⊢
  go_loopw [6, 7] (fun cv jv wr => ∃ (s c : Nat) (b : Int) (j : Nat), cv = .int .i64 c ∧ jv = .int .i64 j ∧ j ≤ P.length ∧ c ≤ 20 * j ∧ Hid (rParts L (xsOf P) (0, 0, -1) = rParts L ((xsOf P).drop j) (s, c, b)) ∧ Hid ((j = 0 ∧ b = -1) ∨ (0 < j ∧ 0 < (lg P (j - 1)).xs.length ∧ b = ig (lg P (j - 1)).xs 0)) ∧ Hid (wr.ownsRow B 4 1 (.slice (some ⟨B, 0, none⟩) L.length L.length) L.length (seenL L.length s)) ∧ Below B w wr) (fun _ jv _ => P.length - (intOf jv).toNat)
  case atStart => exact ⟨0, 0, -1, 0, rfl, rfl, Nat.zero_le _, by omega, Lib.hid rfl, Lib.hid (.inl ⟨rfl, rfl⟩), HD3, hb3⟩
  case round =>
    clear hb3 HD3
    obtain ⟨s, c, b, j, rfl, rfl, hj, hcj, HC, HPB, HS, hB⟩ := hrel
    by_cases hlt : j < P.length
    · obtain ⟨pb, po, rfl, hpb, hpc⟩ := HP.out (by omega)
      have HPC : Hid (∀ i, i < P.length → ∀ wx, Below B w wx → wx.cell? ⟨pb, po + i, none⟩ = some (.slice (lg P i).a (lg P i).xs.length (lg P i).c)) := Lib.hid fun i hi wx hb => (hb.cell (p := ⟨pb, po + i, none⟩) hpb).trans (hpc i hi)
      clear hpc
      have c0 := HPC.out j hlt wr hB
      have HD : Hid (rParts L (xsOf P) (0, 0, -1) = rParts L ((lg P j).xs :: (xsOf P).drop (j + 1)) (s, c, b)) := Lib.hid (by rw [← xsOf_drop hlt]; exact HC.out)
      have HN := Lib.hid (HE.out j hlt).1
      have hxl := HEL.out j hlt
      obtain ⟨p, hp⟩ : ∃ p, lg P j = p := ⟨_, rfl⟩
      have HP0 := Lib.hid hp
      rw [hp] at c0 HD HN hxl
      obtain ⟨xa, xs, xc⟩ := p
      simp only at c0 HD HN hxl
      clear hp HC
      by_cases h0 : xs.length = 0
      · have g0 : ((xs.length : Int) == 0) = true := beq_iff_eq.2 (by omega)
        have HR := Lib.hid (HNO.out (by rw [HD.out, List.length_eq_zero_iff.1 h0]; rfl))
        clear h0
        go_wp2_with fail
        go_ret
        exact ⟨ret_bool HR.out.symm, by rw [hBe]; exact hB⟩
      · have g0 : ((xs.length : Int) == 0) = false := beq_eq_false_iff_ne.2 (by omega)
        have hx0 : 0 < xs.length := by omega
        obtain ⟨xb, xo, rfl, hxb, hxc⟩ := HN.out hx0
        have HXC : Hid (∀ i, i < xs.length → ∀ wx, Below B w wx → wx.cell? ⟨xb, xo + i, none⟩ = some (.int .i64 (ig xs i))) := Lib.hid fun i hi wx hb => (hb.cell (p := ⟨xb, xo + i, none⟩) hxb).trans (hxc i hi)
        clear hxc h0
        go_upto_region 9 with (fail)
        go_wp2_with fail
        obtain ⟨w5, rfl⟩ : ∃ w5 : World, w5 = wr := ⟨_, rfl⟩
        have hB5 : Below B w w5 := hB
        go_loopw [6, 8, 9] (fun cv sv mv wr => ∃ (t d : Nat) (u q : Int) (m : Nat), cv = .int .i64 d ∧ sv = .int .i64 u ∧ mv = .int .i64 m ∧ m ≤ xs.length ∧ d = c + m ∧ Hid (rIn L xs (s, c, 0, -1) = rIn L (xs.drop m) (t, d, u, q)) ∧ Hid ((m = 0 ∧ q = -1) ∨ (0 < m ∧ q = ig xs (m - 1))) ∧ -(1125899906842624 * (m : Int)) ≤ u ∧ u ≤ 1125899906842624 * (m : Int) ∧ Hid (wr.ownsRow B 4 1 (.slice (some ⟨B, 0, none⟩) L.length L.length) L.length (seenL L.length t)) ∧ Below B w wr) (fun _ _ mv _ => xs.length - (intOf mv).toNat)
        case atStart => exact ⟨s, c, 0, -1, 0, rfl, rfl, rfl, Nat.zero_le _, rfl, Lib.hid rfl, Lib.hid (.inl ⟨rfl, rfl⟩), by omega, by omega, HS, hB5⟩
        case round =>
          clear HS hB5 hB
          obtain ⟨t, d, u, q, m, rfl, rfl, rfl, hm, hdc, HQ, HQB, hu1, hu2, HS, hB⟩ := hrel
          have c1 := HPC.out j hlt wr hB
          rw [HP0.out] at c1
          simp only at c1
          by_cases hml : m < xs.length
          · have d1 := HXC.out m hml wr hB
            obtain ⟨k, hk⟩ : ∃ x, ig xs m = x := ⟨_, rfl⟩
            have HQ2 : Hid (rIn L xs (s, c, 0, -1) = rIn L (k :: xs.drop (m + 1)) (t, d, u, q)) := Lib.hid (by rw [← hk, ← ig_drop hml]; exact HQ.out)
            rw [hk] at d1
            have HK := Lib.hid hk
            clear hk HQ
            have HBAD : Hid (k < 0 ∨ (L.length : Int) ≤ k ∨ t.testBit k.toNat = true ∨ k < q → rcheckP L (xsOf P) = false) := Lib.hid fun h => HNO.out (by rw [HD.out]; exact rp_begin (by rw [HQ2.out]; exact rIn_bad h))
            by_cases b1 : k < 0
            · have g2 : decide (k < 0) = true := decide_eq_true b1
              have HR := Lib.hid (HBAD.out (.inl b1))
              clear b1
              go_wp2_with fail
              go_ret
              exact ⟨ret_bool HR.out.symm, by rw [hBe]; exact hB⟩
            · have g2 : decide (k < 0) = false := decide_eq_false b1
              by_cases b2 : (L.length : Int) ≤ k
              · have g3 : decide ((L.length : Int) ≤ k) = true := decide_eq_true b2
                have HR := Lib.hid (HBAD.out (.inr (.inl b2)))
                clear b1 b2
                go_wp2_with fail
                go_ret
                exact ⟨ret_bool HR.out.symm, by rw [hBe]; exact hB⟩
              · have g3 : decide ((L.length : Int) ≤ k) = false := decide_eq_false b2
                obtain ⟨kk, rfl⟩ : ∃ kk : Nat, k = kk := ⟨k.toNat, by omega⟩
                have hkl : kk < L.length := by omega
                have c2 : wr.cell? ⟨B, kk, none⟩ = some (.bool (t.testBit kk)) := by rw [HS.out.cellAt kk (by omega), seen_at hkl]
                cases htb : t.testBit kk
                · rw [htb] at c2
                  by_cases hm0 : m = 0
                  · have g4 : decide (0 < (m : Int)) = false := decide_eq_false (by omega)
                    have g5 : decide (0 < m) = false := decide_eq_false (by omega)
                    have hq : ¬ (kk : Int) < q := by
                      rcases HQB.out with ⟨_, e⟩ | ⟨h, _⟩
                      · omega
                      · omega
                    clear b1 b2 hm0
                    obtain ⟨lb, lo, rfl, hlb, hlc⟩ := HI.out (by omega)
                    have hst := HS.out.stored kk (.bool true)
                    rw [seen_set] at hst
                    have hfz := HS.out.frozenAt kk
                    have hBw : B < wr.heap.size := (HS.out.lt _ rfl).2
                    have hB9 : Below B w (wr.setCell ⟨B, kk, none⟩ (.bool true)) := hB.setCell (show B ≤ (⟨B, kk, none⟩ : Addr).block from Nat.le_refl _) _
                    have d2 := (hB9.cell (p := ⟨lb, lo + kk, none⟩) hlb).trans (hlc kk hkl)
                    have hib := HB.out kk hkl
                    have HQ3 : Hid (rIn L xs (s, c, 0, -1) = rIn L (xs.drop (m + 1)) (t ||| 2 ^ kk, d + 1, u + ig L kk, (kk : Int))) := Lib.hid (by rw [HQ2.out]; exact rIn_good hkl htb hq)
                    have HQB2 : Hid ((m + 1 = 0 ∧ (kk : Int) = -1) ∨ (0 < m + 1 ∧ (kk : Int) = ig xs (m + 1 - 1))) := Lib.hid (.inr ⟨Nat.succ_pos _, by rw [Nat.add_sub_cancel]; exact HK.out.symm⟩)
                    have HST := Lib.hid hst.1
                    obtain ⟨y, hy⟩ : ∃ y, ig L kk = y := ⟨_, rfl⟩
                    rw [hy] at d2 hib HQ3
                    have hub : -(1125899906842624 * ((m : Int) + 1)) ≤ u + y ∧ u + y ≤ 1125899906842624 * ((m : Int) + 1) := by omega
                    have hwr : wrap64 (u + y) = u + y := by unfold wrap64; omega
                    obtain ⟨z, hz⟩ : ∃ z : Int, u + y = z := ⟨_, rfl⟩
                    rw [hz] at HQ3 hub hwr
                    clear hlc hst hy htb HQ2 HBAD hib
                    go_wp2_with fail
                    go_roundw
                    case rel => exact ⟨t ||| 2 ^ kk, d + 1, z, kk, m + 1, by go_num, by first | rfl | go_num, by go_num, by omega, by omega, HQ3, HQB2, by omega, by omega, HST, hB9⟩
                    case measure => simp [intOf]; omega
                  · have g4 : decide (0 < (m : Int)) = true := decide_eq_true (by omega)
                    have g5 : 0 < m := by omega
                    have e1 := HXC.out (m - 1) (by omega) wr hB
                    have eq : ig xs (m - 1) = q := by
                      rcases HQB.out with ⟨e, _⟩ | ⟨_, e⟩
                      · omega
                      · exact e.symm
                    rw [eq] at e1
                    have e2 : ((m : Int) - 1).toNat = m - 1 := by omega
                    have e3 : (0 : Int) ≤ (m : Int) - 1 := by omega
                    have e4 : wrap64 ((m : Int) - 1) = (m : Int) - 1 := by unfold wrap64; omega
                    have e5 : (m : Int) - 1 < xs.length := by omega
                    clear eq hm0
                    by_cases hkq : (kk : Int) < q
                    · have g6 : decide ((kk : Int) < q) = true := decide_eq_true hkq
                      have HR := Lib.hid (HBAD.out (.inr (.inr (.inr hkq))))
                      clear b1 b2 htb hkq
                      go_wp2_with fail
                      go_ret
                      exact ⟨ret_bool HR.out.symm, by rw [hBe]; exact hB⟩
                    · have g6 : decide ((kk : Int) < q) = false := decide_eq_false hkq
                      have HKQ := Lib.hid hkq
                      clear b1 b2 hkq
                      obtain ⟨lb, lo, rfl, hlb, hlc⟩ := HI.out (by omega)
                      have hst := HS.out.stored kk (.bool true)
                      rw [seen_set] at hst
                      have hfz := HS.out.frozenAt kk
                      have hBw : B < wr.heap.size := (HS.out.lt _ rfl).2
                      have hB9 : Below B w (wr.setCell ⟨B, kk, none⟩ (.bool true)) := hB.setCell (show B ≤ (⟨B, kk, none⟩ : Addr).block from Nat.le_refl _) _
                      have d2 := (hB9.cell (p := ⟨lb, lo + kk, none⟩) hlb).trans (hlc kk hkl)
                      have hib := HB.out kk hkl
                      have HQ3 : Hid (rIn L xs (s, c, 0, -1) = rIn L (xs.drop (m + 1)) (t ||| 2 ^ kk, d + 1, u + ig L kk, (kk : Int))) := Lib.hid (by rw [HQ2.out]; exact rIn_good hkl htb HKQ.out)
                      have HQB2 : Hid ((m + 1 = 0 ∧ (kk : Int) = -1) ∨ (0 < m + 1 ∧ (kk : Int) = ig xs (m + 1 - 1))) := Lib.hid (.inr ⟨Nat.succ_pos _, by rw [Nat.add_sub_cancel]; exact HK.out.symm⟩)
                      have HST := Lib.hid hst.1
                      obtain ⟨y, hy⟩ : ∃ y, ig L kk = y := ⟨_, rfl⟩
                      rw [hy] at d2 hib HQ3
                      have hub : -(1125899906842624 * ((m : Int) + 1)) ≤ u + y ∧ u + y ≤ 1125899906842624 * ((m : Int) + 1) := by omega
                      have hwr : wrap64 (u + y) = u + y := by unfold wrap64; omega
                      obtain ⟨z, hz⟩ : ∃ z : Int, u + y = z := ⟨_, rfl⟩
                      rw [hz] at HQ3 hub hwr
                      clear hlc hst hy htb HQ2 HBAD hib
                      go_wp2_with fail
                      go_roundw
                      case rel => exact ⟨t ||| 2 ^ kk, d + 1, z, kk, m + 1, by go_num, by first | rfl | go_num, by go_num, by omega, by omega, HQ3, HQB2, by omega, by omega, HST, hB9⟩
                      case measure => simp [intOf]; omega
                · rw [htb] at c2
                  have HR := Lib.hid (HBAD.out (.inr (.inr (.inl (by rw [Int.toNat_natCast]; exact htb)))))
                  clear b1 b2 htb
                  go_wp2_with fail
                  go_ret
                  exact ⟨ret_bool HR.out.symm, by rw [hBe]; exact hB⟩
          · obtain rfl : m = xs.length := by omega
            have HQ2 : Hid (rIn L xs (s, c, 0, -1) = some (t, d, u, q)) := Lib.hid (by rw [HQ.out, List.drop_length]; rfl)
            have hx9 := rIn_first HQ2.out hx0
            clear HQ HQB
            by_cases hu : u = 0
            · have g2 : (u != 0) = false := bne_eq_false_iff_eq.2 hu
              have hu3 : u = 0 := hu
              have d0 : wr.cell? ⟨xb, xo, none⟩ = some (.int .i64 (ig xs 0)) := HXC.out 0 hx0 wr hB
              have HNX : Hid (¬ ig xs 0 < b → rParts L (xsOf P) (0, 0, -1) = rParts L ((xsOf P).drop (j + 1)) (t, d, ig xs 0)) := Lib.hid fun h => by
                rw [HD.out, rp_next hx0 (by rw [HQ2.out, hu3]) h]
              have HBAD : Hid (ig xs 0 < b → rcheckP L (xsOf P) = false) := Lib.hid fun h => HNO.out (by rw [HD.out]; exact rp_bad HQ2.out (.inr h))
              have HPB2 : Hid ((j + 1 = 0 ∧ ig xs 0 = -1) ∨ (0 < j + 1 ∧ 0 < (lg P (j + 1 - 1)).xs.length ∧ ig xs 0 = ig (lg P (j + 1 - 1)).xs 0)) := Lib.hid (.inr ⟨Nat.succ_pos _, by rw [Nat.add_sub_cancel, HP0.out]; exact hx0, by rw [Nat.add_sub_cancel, HP0.out]⟩)
              obtain ⟨x0, hx⟩ : ∃ x, ig xs 0 = x := ⟨_, rfl⟩
              rw [hx] at d0 hx9 HNX HBAD HPB2
              clear hx hu3 hu HQ2
              by_cases hj0 : j = 0
              · have g4 : decide (0 < (j : Int)) = false := decide_eq_false (by omega)
                have g5 : decide (0 < j) = false := decide_eq_false (by omega)
                have HN2 := Lib.hid (HNX.out (by rcases HPB.out with ⟨_, e⟩ | ⟨h, _⟩ <;> omega))
                clear hj0
                go_upto_region 18 with (fail)
                go_quiet (fail)
                go_wp2_with fail
                go_roundw
                case rel => exact ⟨t, d, x0, j + 1, rfl, by go_num, by omega, by omega, HN2, HPB2, Lib.hid (own_drewN HS.out _), below_drewN hB _⟩
                case measure => simp [intOf]; omega
              · have g4 : decide (0 < (j : Int)) = true := decide_eq_true (by omega)
                have g5 : 0 < j := by omega
                obtain ⟨hy0, hyb⟩ : 0 < (lg P (j - 1)).xs.length ∧ b = ig (lg P (j - 1)).xs 0 := by
                  rcases HPB.out with ⟨e, _⟩ | ⟨_, h⟩
                  · omega
                  · exact h
                have c2 := HPC.out (j - 1) (by omega) wr hB
                have HN9 := Lib.hid (HE.out (j - 1) (by omega)).1
                have hyl := HEL.out (j - 1) (by omega)
                obtain ⟨p9, hp9⟩ : ∃ p, lg P (j - 1) = p := ⟨_, rfl⟩
                rw [hp9] at hy0 hyb c2 HN9 hyl
                obtain ⟨ya, ys, yc⟩ := p9
                simp only at hy0 hyb c2 HN9 hyl
                obtain ⟨yb, yo, rfl, hybb, hyc⟩ := HN9.out hy0
                have c3 : wr.cell? ⟨yb, yo, none⟩ = some (.int .i64 b) := by rw [hyb]; exact (hB.cell (p := ⟨yb, yo, none⟩) hybb).trans (hyc 0 hy0)
                have e2 : ((j : Int) - 1).toNat = j - 1 := by omega
                have e3 : (0 : Int) ≤ (j : Int) - 1 := by omega
                have e4 : wrap64 ((j : Int) - 1) = (j : Int) - 1 := by unfold wrap64; omega
                have e5 : (j : Int) - 1 < P.length := by omega
                have e6 : IntKind.i64.wrap ((j : Int) - 1) = (j : Int) - 1 := by rw [IntKind.wrap_i64]; omega
                clear hyb hyc hp9 hj0
                by_cases hxb9 : x0 < b
                · have g6 : decide (x0 < b) = true := decide_eq_true hxb9
                  have HR := Lib.hid (HBAD.out hxb9)
                  clear hxb9 HNX HBAD
                  go_upto_region 18 with (fail)
                  go_quiet (fail)
                  go_wp2_with fail
                  go_ret
                  exact ⟨ret_bool HR.out.symm, by rw [hBe]; exact below_drewN hB _⟩
                · have g6 : decide (x0 < b) = false := decide_eq_false hxb9
                  have HN2 := Lib.hid (HNX.out hxb9)
                  clear hxb9 HNX HBAD
                  go_upto_region 18 with (fail)
                  go_quiet (fail)
                  go_wp2_with fail
                  go_roundw
                  case rel => exact ⟨t, d, x0, j + 1, rfl, by go_num, by omega, by omega, HN2, HPB2, Lib.hid (own_drewN HS.out _), below_drewN hB _⟩
                  case measure => simp [intOf]; omega
            · have g2 : (u != 0) = true := bne_iff_ne.2 hu
              have HR := Lib.hid (HNO.out (by rw [HD.out]; exact rp_bad HQ2.out (.inl hu)))
              clear hu
              go_upto_region 18 with (fail)
              go_quiet (fail)
              go_wp2_with fail
              go_ret
              exact ⟨ret_bool HR.out.symm, by rw [hBe]; exact below_drewN hB _⟩
    · obtain rfl : j = P.length := by omega
      have HR := Lib.hid (HYES.out c (by rw [HC.out, xsOf_end]; rfl))
      by_cases hzl : c = L.length
      · have g0 : ((c : Int) == L.length) = true := beq_iff_eq.2 (by omega)
        have HR2 : Hid (rcheckP L (xsOf P) = true) := Lib.hid (by rw [HR.out, decide_eq_true hzl])
        clear hzl
        go_wp2_with fail
        go_ret
        exact ⟨ret_bool HR2.out.symm, by rw [hBe]; exact hB⟩
      · have g0 : ((c : Int) == L.length) = false := beq_eq_false_iff_ne.2 (by omega)
        have HR2 : Hid (rcheckP L (xsOf P) = false) := Lib.hid (by rw [HR.out, decide_eq_false hzl])
        clear hzl
        go_wp2_with fail
        go_ret
        exact ⟨ret_bool HR2.out.symm, by rw [hBe]; exact hB⟩
end Go.Proofs.YtfiefmhnonddhaaDoor
