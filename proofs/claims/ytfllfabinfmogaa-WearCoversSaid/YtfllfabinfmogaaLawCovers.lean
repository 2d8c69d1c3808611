/-
  THE WALK of the law WearCovers.
-/
import Derived.Test.YtfllfabinfmogaaLawSpots
import Derived.BigQuiet
namespace Go.Proofs.Ytfllfabinfmogaa
open Go.RowKit Go.Shelf
theorem lens_take {L : List (Int × Int)} {k : Nat} (h : k < L.length) : lensSum (L.take (k + 1)) = lensSum (L.take k) + ((sg L k).2 - (sg L k).1) := by
  unfold lensSum
  rw [List.take_add_one, sg_get h, List.map_append, List.sum_append]
  simp
theorem lens_bd {len : Int} {L : List (Int × Int)} (ok : SpansOK len L) (k : Nat) (hk : k ≤ L.length) (hl : len ≤ 1048576) : 0 ≤ lensSum (L.take k) ∧ lensSum (L.take k) ≤ k * 1048576 := by
  induction k with
  | zero => simp [lensSum]
  | succ k ih =>
    obtain ⟨a, b⟩ := ih (by omega)
    have := ok (sg L k) (by rw [sg_eq L k (by omega)]; exact List.getElem_mem _)
    rw [lens_take (by omega)]
    omega
/-- Where the k-th spot begins; the end behind the last one. -/
def stAt (len : Int) (S : List (Int × Int)) (k : Nat) : Int := if k < S.length then (og S k).1 else len
/-- What is left of the lengths behind k spots. -/
def sumAt (len : Int) (L : List (Int × Int)) (k : Nat) : Int := lensSum L - areaTo L (stAt len (spotsP len L) k).toNat
theorem area_bd (L : List (Int × Int)) (n : Nat) : 0 ≤ areaTo L n ∧ areaTo L n ≤ n * L.length := by
  induction n with
  | zero => simp [areaTo]
  | succ n ih =>
    obtain ⟨a, b⟩ := ih
    have := cov_bd L n
    have e : ((n + 1 : Nat) : Int) * (L.length : Int) = n * L.length + L.length := by rw [Int.natCast_succ, Int.add_mul, Int.one_mul]
    simp only [areaTo]
    omega
structure CovFacts (len : Int) (L S : List (Int × Int)) (P : Nat) (X : Int) : Prop where
  len0 : 0 < S.length
  lenL : S.length ≤ 2 * L.length + 1
  first : (og S 0).1 = 0
  below : ∀ k, k < S.length → 0 ≤ (og S k).1 ∧ (og S k).1 < spotEnd len S k ∧ spotEnd len S k ≤ len
  pos : ∀ k, k < S.length → 0 ≤ (og S k).2
  small : ∀ k, k < S.length → (og S k).2 ≤ 1000
  worst : ∀ k, k < S.length → (og S k).2 ≤ (og S P).2
  turn : ∀ k, k + 1 < S.length → (og S (k + 1)).2 ≠ (og S k).2
  at_ : ∀ k, k < S.length → (og S k).1 ≤ X → X < spotEnd len S k → (og S k).2 = cov L X
  found : ∀ k, k < S.length → (og S k).1 = (og S P).1 → k = P
  inP : P < S.length
theorem cov_facts {len : Int} {L : List (Int × Int)} {X : Int} (he : spotsE len L = 0) (hX : X < len) : CovFacts len L (spotsP len L) (worstTo (spotsP len L) (spotsP len L).length) X := by
  obtain ⟨l1, l2, hl, hOK, _⟩ := spots_ok he
  have hokn : ∀ s ∈ L, 0 ≤ s.1 ∧ 0 ≤ s.2 := fun s hs => by have := hOK s hs; omega
  have h0 := spotsP_pos he
  obtain ⟨a, b, c, d, e⟩ := spots_inv len L
  obtain ⟨K', hK'⟩ := keys_head (len := len) (L := L) (by omega) hokn
  refine ⟨h0, ?_, (e 0 K' hK').2, fun k hk => ⟨(spot_bd hokn hk).1, spotEnd_gt hokn hk⟩, fun k hk => (spot_bd hokn hk).2.2, fun k hk => ?_, fun k hk => worst_max _ _ k hk, fun k hk => (c k hk).symm, fun k hk h1 h2 => (spot_at hk h1 h2 hX).symm, fun k hk hq => ?_, ?_⟩
  · have := keysP_len len L
    have h := spotK_len L (keysP len L)
    have e : spotsP len L = spotK L (keysP len L) := rfl
    rw [e]; omega
  · rw [(a k hk).1]
    have := cov_bd L (og (spotsP len L) k).1
    omega
  · have hP := worst_in (spotsP len L) (spotsP len L).length h0 (Nat.le_refl _)
    rcases Nat.lt_trichotomy k (worstTo (spotsP len L) (spotsP len L).length) with l | l | l
    · have := b _ _ l hP; omega
    · exact l
    · have := b _ _ l hk; omega
  · exact worst_in (spotsP len L) (spotsP len L).length h0 (Nat.le_refl _)
theorem sum_step {len : Int} {L : List (Int × Int)} (he : spotsE len L = 0) {k : Nat} (hk : k < (spotsP len L).length) : sumAt len L (k + 1) = sumAt len L k - (spotEnd len (spotsP len L) k - (og (spotsP len L) k).1) * (og (spotsP len L) k).2 := by
  obtain ⟨l1, l2, hl, hOK, _⟩ := spots_ok he
  have hokn : ∀ s ∈ L, 0 ≤ s.1 ∧ 0 ≤ s.2 := fun s hs => by have := hOK s hs; omega
  have h := area_spot hokn hk
  have e1 : stAt len (spotsP len L) (k + 1) = spotEnd len (spotsP len L) k := rfl
  have e2 : stAt len (spotsP len L) k = (og (spotsP len L) k).1 := if_pos hk
  unfold sumAt
  rw [e1, e2, h]
  omega
theorem sum_start {len : Int} {L : List (Int × Int)} (he : spotsE len L = 0) : sumAt len L 0 = lensSum L := by
  obtain ⟨l1, l2, hl, hOK, _⟩ := spots_ok he
  have f := cov_facts (X := 0) he (by omega)
  unfold sumAt stAt
  rw [if_pos f.len0, f.first]
  simp [areaTo]
theorem sum_end {len : Int} {L : List (Int × Int)} (he : spotsE len L = 0) : sumAt len L (spotsP len L).length = 0 := by
  obtain ⟨l1, l2, hl, hOK, _⟩ := spots_ok he
  unfold sumAt stAt
  rw [if_neg (by omega)]
  have h := area_all L len.toNat (by rw [Int.toNat_of_nonneg (by omega)]; exact hOK)
  omega
theorem sum_bd {len : Int} {L : List (Int × Int)} (he : spotsE len L = 0) (k : Nat) : -1048576000 ≤ sumAt len L k ∧ sumAt len L k ≤ 1048576000 := by
  obtain ⟨l1, l2, hl, hOK, _⟩ := spots_ok he
  have h1 := lens_bd hOK L.length (Nat.le_refl _) l2
  rw [List.take_length] at h1
  have hle : (stAt len (spotsP len L) k).toNat ≤ 1048576 := by
    unfold stAt
    split
    · rename_i q
      have f := (cov_facts (X := 0) he (by omega)).below k q
      omega
    · omega
  have h2 := area_bd L (stAt len (spotsP len L) k).toNat
  unfold sumAt
  have h3 : (((stAt len (spotsP len L) k).toNat : Nat) : Int) * (L.length : Int) ≤ 1048576 * 1000 := Int.mul_le_mul (by omega) (by omega) (by omega) (by omega)
  omega
set_option maxRecDepth 100000 in
set_option maxHeartbeats 16000000 in
theorem covers_law (len : Int) (a : Option Addr) (L : List (Int × Int)) (cap : Nat) (place : Int) (w : World) (p0 : 0 ≤ place) (p1 : place < 4294967296) (hL : Spans w.heap.size w a L) :
    Calls Try.prog 5 #[.int .i64 len, .slice a L.length cap, .int .u32 place] w fun e w' => e = .returned (.bool true) ∧ Below w.heap.size w w' := by
  have HL := Lib.hid hL; clear hL
  by_cases hl : 60 < L.length
  · have g : decide ((60 : Int) < L.length) = true := decide_eq_true (by omega)
    clear hl
    go_enter Try.func5, Try.ntmps5
    go_wp2_with (go_at_call 7; (with_reducible refine (awake_any _).mono ?_); rintro e w1 ⟨rfl, hB1⟩)
    go_ret
    exact ⟨rfl, hB1⟩
  have g : decide ((60 : Int) < L.length) = false := decide_eq_false (by omega)
  by_cases he : ¬ spotsE len L = 0
  · have HE := Lib.hid he
    obtain ⟨E, hE⟩ : ∃ E, spotsE len L = E := ⟨_, rfl⟩
    rw [hE] at he
    have HEE := Lib.hid hE
    have z1 : (E != 0) = true := by simpa using he
    have hl2 : L.length ≤ 60 := by omega
    clear hE hl
    go_enter Try.func5, Try.ntmps5
    go_wp2_with (first
      | (go_at_call 7; (with_reducible refine (awake_any _).mono ?_); rintro e w1 ⟨rfl, hB1⟩)
      | (go_at_call 21; (with_reducible refine (refgiven_any len _ L _ _ _ (by omega) (HL.out.grow hB1)).mono ?_); rintro e w4 ⟨rfl, hb4⟩; rw [HEE.out]; have hB4 := hB1.trans (hb4.mono hB1.size)))
    go_ret
    exact ⟨rfl, hB4⟩
  replace he : spotsE len L = 0 := Classical.byContradiction he
  obtain ⟨l1, l2, _, hOK, _⟩ := spots_ok he
  have hl2 : L.length ≤ 60 := by omega
  obtain ⟨X, hX⟩ : ∃ X, place.tmod len = X := ⟨_, rfl⟩
  have hX0 : 0 ≤ X := by rw [← hX]; exact Int.tmod_nonneg _ p0
  have hX1 : X < len := by rw [← hX]; exact Int.tmod_lt_of_pos _ (by omega)
  have HE := Lib.hid he
  have HF := Lib.hid (cov_facts (X := X) he hX1)
  have HST := Lib.hid (fun k hk => sum_step (L := L) (len := len) he (k := k) hk)
  have HS0 := Lib.hid (sum_start he)
  have HSE := Lib.hid (sum_end he)
  have HSB := Lib.hid (fun k => sum_bd he k)
  have HLB := Lib.hid (fun k hk => lens_bd hOK k hk l2)
  have HOK := Lib.hid hOK
  obtain ⟨S, hS⟩ : ∃ S, spotsP len L = S := ⟨_, rfl⟩
  obtain ⟨P, hP⟩ : ∃ P, worstTo S S.length = P := ⟨_, rfl⟩
  have HW : Hid (worstP len L = og S P) := Lib.hid (by rw [← hP, ← hS]; rfl)
  have h0 := spotsP_pos he
  rw [hS] at HF HST HSE h0
  rw [hP] at HF
  have HS := Lib.hid hS
  have hsl := HF.out.lenL
  have hfst := HF.out.first
  clear he hOK hS hP hl
  have s0 : IntKind.i64.wrap (2 * (L.length : Int)) = 2 * (L.length : Int) := IntWalk.i64_in _ (by omega)
  have s1 : IntKind.i64.wrap (2 * (L.length : Int) + 1) = 2 * (L.length : Int) + 1 := IntWalk.i64_in _ (by omega)
  have s2 : decide (2 * (L.length : Int) + 1 < (S.length : Int)) = false := decide_eq_false (by omega)
  have s3 : ((S.length : Int) == 0) = false := beq_eq_false_iff_ne.2 (by omega)
  have s4 : IntKind.i64.wrap place = place := IntWalk.i64_in _ (by omega)
  have s5 : (len == 0) = false := beq_eq_false_iff_ne.2 (by omega)
  have s6 : ¬ len = 0 := by omega
  have s7 : IntKind.i64.wrap X = X := IntWalk.i64_in _ (by omega)
  go_enter Try.func5, Try.ntmps5
  go_upto_region 12 with (first
    | (go_at_call 7; (with_reducible refine (awake_any _).mono ?_); rintro e w1 ⟨rfl, hB1⟩)
    | (go_at_call 21; (with_reducible refine (refgiven_any len _ L _ _ _ (by omega) (HL.out.grow hB1)).mono ?_); rintro e w4 ⟨rfl, hb4⟩; rw [HE.out]; have hB4 := hB1.trans (hb4.mono hB1.size))
    | (go_at_call 19; (with_reducible refine (spots_any (H := Unit) len _ L _ _ (by omega) (HL.out.grow hB4)).mono ?_); rintro e w2 ⟨hv, hb2⟩; obtain ⟨v, rfl, hv1, _⟩ := hv.out; have hr := hv1 HE.out; rw [HS.out] at hr; obtain ⟨pa, pcap, rfl, _, _, _, hLo⟩ := load_of_row hr; rw [HE.out]; have HLo := Lib.hid hLo; have hB2 := hB4.trans (hb2.mono hB4.size); clear hv hv1 hr hLo)
    | (go_at_call 20; (with_reducible refine (worst_any (H := Unit) len _ L _ _ (by omega) (HL.out.grow hB2)).mono ?_); rintro e w3 ⟨rfl, hb3⟩; rw [HE.out, if_pos rfl, if_pos rfl, HW.out]; have hB3 := hB2.trans (hb3.mono hB2.size); have HL3 := Lib.hid (HL.out.grow hB3); have HS3 := Lib.hid (HLo.out.grow hb3); obtain ⟨pb, poff, rfl, hpb, hpc⟩ := HS3.out h0; have c0 := (hpc 0 h0).1; rw [hfst] at c0; simp only [Nat.zero_mul, Nat.add_zero] at c0; clear hpc))
  have HP : Hid (∀ wr, Below w3.heap.size w3 wr → ∀ k, k < S.length → wr.cell? ⟨pb, poff + k * 2, none⟩ = some (.int .i64 (og S k).1) ∧ wr.cell? ⟨pb, poff + k * 2 + 1, none⟩ = some (.int .i64 (og S k).2)) := Lib.hid (by
    intro wr hB k hk
    obtain ⟨b, o, e, hb, hc⟩ := HS3.out h0
    cases e
    exact ⟨(hB.cell (p := ⟨pb, poff + k * 2, none⟩) hpb).trans (hc k hk).1, (hB.cell (p := ⟨pb, poff + k * 2 + 1, none⟩) hpb).trans (hc k hk).2⟩)
  clear HLo HS3 c0 hX s4 s5 s6 s7 hfst
  go_wp2_with fail
  go_loopw [12, 15, 78] (fun s c i wr => ∃ k : Nat, k ≤ L.length ∧ i = .int .i64 k ∧ s = .int .i64 (lensSum (L.take k)) ∧ c = .int .i64 (cov (L.take k) X) ∧ Below w3.heap.size w3 wr) (fun _ _ i _ => L.length - (intOf i).toNat)
  case atStart => exact ⟨0, Nat.zero_le _, rfl, rfl, rfl, Below.refl _ _⟩
  case round =>
    obtain ⟨k, hk, rfl, rfl, rfl, hB⟩ := hrel
    by_cases hlt : k < L.length
    · obtain ⟨b, off, rfl, hb, hc⟩ := HL3.out (by omega)
      obtain ⟨e0, e1⟩ := hc k hlt
      have c0 := (hB.cell (p := ⟨b, off + k * 2, none⟩) hb).trans e0
      have c1 := (hB.cell (p := ⟨b, off + k * 2 + 1, none⟩) hb).trans e1
      have HT := Lib.hid (cov_take hlt X)
      have HTL := Lib.hid (lens_take hlt)
      have hlb := HLB.out k hk
      have hcb := cov_take_bd L X k hk
      have hok := HOK.out (sg L k) (by rw [sg_eq L k hlt]; exact List.getElem_mem hlt)
      generalize lensSum (L.take k) = s at *
      generalize cov (L.take k) X = c at *
      generalize sg L k = p at *
      have t1 : IntKind.i64.wrap (p.2 - p.1) = p.2 - p.1 := IntWalk.i64_in _ (by omega)
      have t2 : IntKind.i64.wrap (s + (p.2 - p.1)) = s + (p.2 - p.1) := IntWalk.i64_in _ (by omega)
      have t3 : IntKind.i64.wrap (c + 1) = c + 1 := IntWalk.i64_in _ (by omega)
      have hB1 := hB.alloc hB.size (.cells #[.int .i64 p.1, .int .i64 p.2] 54)
      clear hc e0 e1
      by_cases q1 : p.1 ≤ X
      · by_cases q2 : X < p.2
        · have HC : Hid (cov (L.take (k + 1)) X = c + 1) := Lib.hid (by rw [HT.out, if_pos ⟨q1, q2⟩])
          go_wp2_with fail
          go_roundw
          case rel => exact ⟨k + 1, by omega, by go_num, by rw [HTL.out], by rw [HC.out], hB1⟩
          case measure => simp [intOf]; omega
        · have HC : Hid (cov (L.take (k + 1)) X = c) := Lib.hid (by rw [HT.out, if_neg (fun h => q2 h.2)]; omega)
          go_wp2_with fail
          go_roundw
          case rel => exact ⟨k + 1, by omega, by go_num, by rw [HTL.out], by rw [HC.out], hB1⟩
          case measure => simp [intOf]; omega
      · have HC : Hid (cov (L.take (k + 1)) X = c) := Lib.hid (by rw [HT.out, if_neg (fun h => q1 h.1)]; omega)
        go_wp2_with fail
        go_roundw
        case rel => exact ⟨k + 1, by omega, by go_num, by rw [HTL.out], by rw [HC.out], hB1⟩
        case measure => simp [intOf]; omega
    · obtain rfl : k = L.length := by omega
      have e1 : L.take L.length = L := List.take_length
      rw [e1]
      clear e1
      obtain ⟨C, hC⟩ : ∃ C, cov L X = C := ⟨_, rfl⟩
      have HC := Lib.hid hC
      rw [hC]
      clear hC
      rw [← HS0.out]
      obtain ⟨wo, rfl⟩ : ∃ W : World, W = wr := ⟨_, rfl⟩
      go_wp2_with fail
      go_loopw [12, 13, 104] (fun s f i wr => ∃ k : Nat, k ≤ S.length ∧ i = .int .i64 k ∧ s = .int .i64 (sumAt len L k) ∧ f = .bool (decide (P < k)) ∧ Below w3.heap.size w3 wr) (fun _ _ i _ => S.length - (intOf i).toNat)
      case atStart => exact ⟨0, Nat.zero_le _, rfl, rfl, rfl, hB⟩
      case round =>
        obtain ⟨k, hk, rfl, rfl, rfl, hB'⟩ := hrel
        clear hB
        by_cases hlt : k < S.length
        · obtain ⟨d0, d1⟩ := HP.out _ hB' k hlt
          obtain ⟨b1, b2, b3⟩ := HF.out.below k hlt
          have b4 := HF.out.pos k hlt
          have b5 := HF.out.worst k hlt
          have b6 := HF.out.small k hlt
          have HAT : Hid ((og S k).1 ≤ X → X < spotEnd len S k → (og S k).2 = C) := Lib.hid fun h1 h2 => (HF.out.at_ k hlt h1 h2).trans HC.out
          have HFO := Lib.hid (HF.out.found k hlt)
          have HSN := Lib.hid (HST.out k hlt)
          have hsb := HSB.out k
          have HTU : Hid (0 < k → (og S k).2 ≠ (og S (k - 1)).2) := Lib.hid fun h => by
            have := HF.out.turn (k - 1) (by omega)
            rwa [show k - 1 + 1 = k by omega] at this
          have u1 : IntKind.i64.wrap ((k : Int) + 1) = (k : Int) + 1 := IntWalk.i64_in _ (by omega)
          have hB2 := hB'.alloc hB'.size (.cells #[.int .i64 (og S k).1, .int .i64 (og S k).2] 48)
          have HPW : Hid (k = P → (og S k).1 = (og S P).1 ∧ (og S k).2 = (og S P).2) := Lib.hid fun h => by rw [h]; exact ⟨rfl, rfl⟩
          have HPK : Hid (∀ wr, Below w3.heap.size w3 wr → 0 < k → wr.cell? ⟨pb, poff + (k - 1) * 2 + 1, none⟩ = some (.int .i64 (og S (k - 1)).2)) := Lib.hid fun wr h h0 => (HP.out wr h (k - 1) (by omega)).2
          have HEN : Hid ((k + 1 < S.length ∧ spotEnd len S k = (og S (k + 1)).1) ∨ (¬ k + 1 < S.length ∧ spotEnd len S k = len)) := Lib.hid (by
            unfold spotEnd
            by_cases q : k + 1 < S.length
            · rw [if_pos q]; exact Or.inl ⟨q, rfl⟩
            · rw [if_neg q]; exact Or.inr ⟨q, rfl⟩)
          have HNX : Hid (∀ wr, Below w3.heap.size w3 wr → k + 1 < S.length → wr.cell? ⟨pb, poff + (k + 1) * 2, none⟩ = some (.int .i64 (og S (k + 1)).1)) := Lib.hid fun wr h h0 => (HP.out wr h (k + 1) h0).1
          generalize spotEnd len S k = en at *
          generalize (og S k).1 = pa at *
          generalize (og S k).2 = pw at *
          generalize sumAt len L k = s at *
          have hm : 0 ≤ (en - pa) * pw ∧ (en - pa) * pw ≤ 1048576 * 1000 := ⟨Int.mul_nonneg (by omega) b4, Int.mul_le_mul (by omega) b6 b4 (by omega)⟩
          have v1 : IntKind.i64.wrap (en - pa) = en - pa := IntWalk.i64_in _ (by omega)
          have v2 : IntKind.i64.wrap ((en - pa) * pw) = (en - pa) * pw := IntWalk.i64_in _ (by omega)
          have v3 : IntKind.i64.wrap (s - (en - pa) * pw) = s - (en - pa) * pw := IntWalk.i64_in _ (by omega)
          have v4 : decide (en ≤ pa) = false := decide_eq_false (by omega)
          have v5 : decide (pw < 0) = false := decide_eq_false (by omega)
          have v6 : decide ((og S P).2 < pw) = false := decide_eq_false (by omega)
          have x0 : (wr.alloc (.cells #[.int .i64 pa, .int .i64 pw] 48)).cell? ⟨wr.heap.size, 0, none⟩ = some (.int .i64 pa) := by simp
          have x1 : (wr.alloc (.cells #[.int .i64 pa, .int .i64 pw] 48)).cell? ⟨wr.heap.size, 1, none⟩ = some (.int .i64 pw) := by simp
          have kA : 0 < k → IntKind.i64.wrap ((k : Int) - 1) = (k : Int) - 1 ∧ ((k : Int) - 1).toNat = k - 1 ∧ (0 : Int) ≤ (k : Int) - 1 ∧ (k : Int) - 1 < (S.length : Int) := fun h => ⟨IntWalk.i64_in _ (by omega), by omega, by omega, by omega⟩
          have HKA := Lib.hid kA
          obtain ⟨at0, hat⟩ : ∃ x, (og S P).1 = x := ⟨_, rfl⟩
          obtain ⟨n0, hn0⟩ : ∃ x, (og S P).2 = x := ⟨_, rfl⟩
          rw [hat] at HFO
          rw [hat, hn0] at HPW
          rw [hn0] at v6 b5
          rw [hat, hn0]
          have HF3 : Hid ((decide (P < k) = true ∧ decide (P < k + 1) = true) ∨ (decide (P < k) = false ∧ (pa == at0) = true ∧ (pw == n0) = true ∧ decide (P < k + 1) = true) ∨ (decide (P < k) = false ∧ (pa == at0) = false ∧ decide (P < k + 1) = false)) := Lib.hid (by
            rcases Nat.lt_trichotomy k P with q | q | q
            · exact Or.inr (Or.inr ⟨decide_eq_false (by omega), beq_eq_false_iff_ne.2 fun e => by have := HFO.out e; omega, decide_eq_false (by omega)⟩)
            · obtain ⟨e1, e2⟩ := HPW.out q
              exact Or.inr (Or.inl ⟨decide_eq_false (by omega), beq_iff_eq.2 e1, beq_iff_eq.2 e2, decide_eq_true (by omega)⟩)
            · exact Or.inl ⟨decide_eq_true q, decide_eq_true (by omega)⟩)
          have HX3 : Hid (decide (pa ≤ X) = false ∨ (decide (pa ≤ X) = true ∧ decide (X < en) = false) ∨ (decide (pa ≤ X) = true ∧ decide (X < en) = true ∧ (pw != C) = false)) := Lib.hid (by
            by_cases q1 : pa ≤ X
            · by_cases q2 : X < en
              · exact Or.inr (Or.inr ⟨decide_eq_true q1, decide_eq_true q2, bne_eq_false_iff_eq.2 (HAT.out q1 q2)⟩)
              · exact Or.inr (Or.inl ⟨decide_eq_true q1, decide_eq_false q2⟩)
            · exact Or.inl (decide_eq_false q1))
          clear kA HFO HPW HAT hat hn0 hm b5 b6 hsb b1 b2 b3 b4
          obtain ⟨W5, hW5⟩ : ∃ W : World, W = wr.alloc (.cells #[.int .i64 pa, .int .i64 pw] 48) := ⟨_, rfl⟩
          obtain ⟨B5, hB5⟩ : ∃ B, B = wr.heap.size := ⟨_, rfl⟩
          rw [← hW5] at x0 x1 hB2
          rw [← hB5] at x0 x1
          go_upto_region 23 with (fail)
          rw [← hW5, ← hB5]
          clear hW5 hB5 d0 d1
          rcases HEN.out with ⟨q1, q2⟩ | ⟨q1, q2⟩
          · have j1 : decide ((k : Int) + 1 < (S.length : Int)) = true := decide_eq_true (by omega)
            have j2 := HNX.out _ hB2 q1
            rw [← q2] at j2
            have j3 : (0 : Int) ≤ (k : Int) + 1 := by omega
            have j4 : (k : Int) + 1 < (S.length : Int) := by omega
            clear q1 q2
            rcases Nat.eq_zero_or_pos k with k0 | k0
            · have i1 : decide ((0 : Int) < (k : Int)) = false := decide_eq_false (by omega)
              have i0 : decide (0 < k) = false := decide_eq_false (by omega)
              clear k0
              go_upto_region 25 with (fail)
              go_quiet (fail)
              go_upto_region 27 with (fail)
              have x6 : (W5.drewN nq).cell? ⟨B5, 0, none⟩ = some (.int .i64 pa) := x0
              have x7 : (W5.drewN nq).cell? ⟨B5, 1, none⟩ = some (.int .i64 pw) := x1
              have HBN := Lib.hid (below_drewN hB2 nq)
              rcases HX3.out with x3 | ⟨x3, x4⟩ | ⟨x3, x4, x5⟩
              all_goals rcases HF3.out with ⟨g1, g2⟩ | ⟨g1, g3, g4, g2⟩ | ⟨g1, g3, g2⟩
              all_goals have G2 := Lib.hid g2
              all_goals clear g2
              all_goals go_wp2_with fail
              all_goals go_roundw
              all_goals first
                | (refine ⟨k + 1, by omega, by go_num, by rw [HSN.out], ?_, below_drewN hB2 _⟩; rw [G2.out]; done)
                | (refine ⟨k + 1, by omega, by go_num, by rw [HSN.out], ?_, below_drewN hB2 _⟩; rw [G2.out]; simp [g3, g4]; done)
                | (simp [intOf]; done)
                | (simp [intOf]; omega)
                | exact absurd hX1 (of_decide_eq_false x4)
            · have i1 : decide ((0 : Int) < (k : Int)) = true := decide_eq_true (by omega)
              have i0 : decide (0 < k) = true := decide_eq_true k0
              have i2 := HPK.out _ hB2 k0
              obtain ⟨i3, i4, i5, i6⟩ := HKA.out k0
              have i7 : (pw == (og S (k - 1)).2) = false := beq_eq_false_iff_ne.2 (HTU.out k0)
              clear k0
              go_upto_region 25 with (fail)
              go_quiet (fail)
              go_upto_region 27 with (fail)
              have x6 : (W5.drewN nq).cell? ⟨B5, 0, none⟩ = some (.int .i64 pa) := x0
              have x7 : (W5.drewN nq).cell? ⟨B5, 1, none⟩ = some (.int .i64 pw) := x1
              have HBN := Lib.hid (below_drewN hB2 nq)
              rcases HX3.out with x3 | ⟨x3, x4⟩ | ⟨x3, x4, x5⟩
              all_goals rcases HF3.out with ⟨g1, g2⟩ | ⟨g1, g3, g4, g2⟩ | ⟨g1, g3, g2⟩
              all_goals have G2 := Lib.hid g2
              all_goals clear g2
              all_goals go_wp2_with fail
              all_goals go_roundw
              all_goals first
                | (refine ⟨k + 1, by omega, by go_num, by rw [HSN.out], ?_, below_drewN hB2 _⟩; rw [G2.out]; done)
                | (refine ⟨k + 1, by omega, by go_num, by rw [HSN.out], ?_, below_drewN hB2 _⟩; rw [G2.out]; simp [g3, g4]; done)
                | (simp [intOf]; done)
                | (simp [intOf]; omega)
                | exact absurd hX1 (of_decide_eq_false x4)
          · have j1 : decide ((k : Int) + 1 < (S.length : Int)) = false := decide_eq_false (by omega)
            subst q2
            clear q1
            rcases Nat.eq_zero_or_pos k with k0 | k0
            · have i1 : decide ((0 : Int) < (k : Int)) = false := decide_eq_false (by omega)
              have i0 : decide (0 < k) = false := decide_eq_false (by omega)
              clear k0
              go_upto_region 25 with (fail)
              go_quiet (fail)
              go_upto_region 27 with (fail)
              have x6 : (W5.drewN nq).cell? ⟨B5, 0, none⟩ = some (.int .i64 pa) := x0
              have x7 : (W5.drewN nq).cell? ⟨B5, 1, none⟩ = some (.int .i64 pw) := x1
              have HBN := Lib.hid (below_drewN hB2 nq)
              rcases HX3.out with x3 | ⟨x3, x4⟩ | ⟨x3, x4, x5⟩
              all_goals rcases HF3.out with ⟨g1, g2⟩ | ⟨g1, g3, g4, g2⟩ | ⟨g1, g3, g2⟩
              all_goals have G2 := Lib.hid g2
              all_goals clear g2
              all_goals go_wp2_with fail
              all_goals go_roundw
              all_goals first
                | (refine ⟨k + 1, by omega, by go_num, by rw [HSN.out], ?_, below_drewN hB2 _⟩; rw [G2.out]; done)
                | (refine ⟨k + 1, by omega, by go_num, by rw [HSN.out], ?_, below_drewN hB2 _⟩; rw [G2.out]; simp [g3, g4]; done)
                | (simp [intOf]; done)
                | (simp [intOf]; omega)
                | exact absurd hX1 (of_decide_eq_false x4)
            · have i1 : decide ((0 : Int) < (k : Int)) = true := decide_eq_true (by omega)
              have i0 : decide (0 < k) = true := decide_eq_true k0
              have i2 := HPK.out _ hB2 k0
              obtain ⟨i3, i4, i5, i6⟩ := HKA.out k0
              have i7 : (pw == (og S (k - 1)).2) = false := beq_eq_false_iff_ne.2 (HTU.out k0)
              clear k0
              go_upto_region 25 with (fail)
              go_quiet (fail)
              go_upto_region 27 with (fail)
              have x6 : (W5.drewN nq).cell? ⟨B5, 0, none⟩ = some (.int .i64 pa) := x0
              have x7 : (W5.drewN nq).cell? ⟨B5, 1, none⟩ = some (.int .i64 pw) := x1
              have HBN := Lib.hid (below_drewN hB2 nq)
              rcases HX3.out with x3 | ⟨x3, x4⟩ | ⟨x3, x4, x5⟩
              all_goals rcases HF3.out with ⟨g1, g2⟩ | ⟨g1, g3, g4, g2⟩ | ⟨g1, g3, g2⟩
              all_goals have G2 := Lib.hid g2
              all_goals clear g2
              all_goals go_wp2_with fail
              all_goals go_roundw
              all_goals first
                | (refine ⟨k + 1, by omega, by go_num, by rw [HSN.out], ?_, below_drewN hB2 _⟩; rw [G2.out]; done)
                | (refine ⟨k + 1, by omega, by go_num, by rw [HSN.out], ?_, below_drewN hB2 _⟩; rw [G2.out]; simp [g3, g4]; done)
                | (simp [intOf]; done)
                | (simp [intOf]; omega)
                | exact absurd hX1 (of_decide_eq_false x4)
        · obtain rfl : k = S.length := by omega
          have hPl : decide (P < S.length) = true := decide_eq_true HF.out.inP
          rw [HSE.out, hPl]
          go_wp2_with fail
          go_ret
          exact ⟨rfl, hB3.trans (hB'.mono hB3.size)⟩
end Go.Proofs.Ytfllfabinfmogaa
