/-
  THE WALK of wear.Worst.
-/
import Derived.Test.YtfllfabinfmogaaSpotsBad
namespace Go.Proofs.Ytfllfabinfmogaa
open Go.RowKit Go.Shelf
theorem spotS_pos (L out : List (Int × Int)) (t : Int) : 0 < (spotS L out t).length := by
  unfold spotS
  split
  · simp
  · rename_i p hp
    split
    · cases out with
      | nil => simp at hp
      | cons _ _ => simp
    · simp
theorem spotsP_pos {len : Int} {L : List (Int × Int)} (h : spotsE len L = 0) : 0 < (spotsP len L).length := by
  obtain ⟨h1, _, _, ok, _⟩ := spots_ok h
  obtain ⟨K', hK⟩ := keys_head (len := len) (L := L) (by omega) fun s hs => by have := ok s hs; omega
  unfold spotsP spotK
  rw [hK]
  have key : ∀ (K o : List (Int)) (S : List (Int × Int)), 0 < S.length → 0 < (K.foldl (spotS L) S).length := by
    intro K _
    induction K with
    | nil => intro S h; exact h
    | cons t K ih => intro S _; exact ih _ (spotS_pos L S t)
  exact key K' [] _ (spotS_pos L [] 0)
theorem spotsP_len {len : Int} {L : List (Int × Int)} (h : spotsE len L = 0) : (spotsP len L).length ≤ 2001 := by
  obtain ⟨_, _, h3, _, _⟩ := spots_ok h
  have a := spotK_len L (keysP len L)
  have b : (keysP len L).length ≤ (keysF L).length := by unfold keysP; exact List.length_filter_le _ _
  have c := keysF_len L
  unfold spotsP
  omega
theorem worst_in (S : List (Int × Int)) (k : Nat) (h0 : 0 < S.length) (hk : k ≤ S.length) : worstTo S k < S.length := by
  rcases worst_lt S k with e | e <;> omega
/-- The worst spot. -/
def worstP (len : Int) (L : List (Int × Int)) : Int × Int := og (spotsP len L) (worstTo (spotsP len L) (spotsP len L).length)
set_option maxRecDepth 100000 in
set_option maxHeartbeats 8000000 in
theorem worst_any {H : Type} (len : Int) (a : Option Addr) (S : List (Int × Int)) (cap : Nat) (w : World) (hl : S.length ≤ 1000000) (h : Spans w.heap.size w a S) :
    Calls Try.prog 20 #[.int .i64 len, .slice a S.length cap] w fun e w' => e = .returned (.tuple #[.int .i64 (if spotsE len S = 0 then (worstP len S).1 else 0), .int .i64 (if spotsE len S = 0 then (worstP len S).2 else 0), .int .i64 (spotsE len S)]) ∧ Below w.heap.size w w' := by
  have HC0 : Hid (∀ w1 : World, w1 = w → Calls Try.prog 19 #[.int .i64 len, .slice a S.length cap] w1 fun e w' => Hid (∃ v, e = .returned (.tuple #[v, .int .i64 (spotsE len S)]) ∧ (spotsE len S = 0 → w'.ownsRow w.heap.size 48 2 v (spotsP len S).length (oflat (spotsP len S))) ∧ (¬ spotsE len S = 0 → v = .slice none 0 0)) ∧ Below w.heap.size w w') := Lib.hid (by
    rintro w1 rfl
    exact spots_any (H := H) len a S cap w1 hl h)
  clear h
  by_cases he : spotsE len S = 0
  · simp only [he, if_true]
    have HE := Lib.hid he
    obtain ⟨L, hL⟩ : ∃ L, spotsP len S = L := ⟨_, rfl⟩
    have h0 := spotsP_pos he
    have h1 := spotsP_len he
    have HW : Hid (worstP len S = og L (worstTo L L.length)) := Lib.hid (by rw [← hL]; rfl)
    rw [hL] at h0 h1
    have HL := Lib.hid hL
    rw [HW.out]
    clear he hL HW
    go_enter Try.func20, Try.ntmps20
    go_upto_region 2 with (go_at_call 19; (with_reducible refine (HC0.out _ rfl).mono ?_); rintro e w1 ⟨hv, hb1⟩; obtain ⟨v, rfl, hv1, _⟩ := hv.out; have hr := hv1 HE.out; rw [HL.out] at hr; obtain ⟨pa, pcap, rfl, _, _, _, hLo⟩ := load_of_row hr; rw [HE.out]; clear hv hv1 hr)
    obtain ⟨b, off, rfl, hb, hc⟩ := hLo h0
    have hbs1 := hb1.size
    obtain ⟨z0, z1⟩ := hc 0 h0
    rw [Nat.zero_mul, Nat.add_zero] at z0 z1
    have HC := Lib.hid hc
    have HB1 := Lib.hid hb1
    clear hc hb1 HC0
    go_upto_region 5 with (fail)
    have hb2 : Below w1.heap.size w1 (w1.alloc (.cells #[.int .i64 (og L 0).1, .int .i64 (og L 0).2] 48)) := below_new _ _
    have b0 : (w1.alloc (.cells #[.int .i64 (og L 0).1, .int .i64 (og L 0).2] 48)).cell? ⟨w1.heap.size, 0, none⟩ = some (.int .i64 (og L 0).1) := by simp
    have b1 : (w1.alloc (.cells #[.int .i64 (og L 0).1, .int .i64 (og L 0).2] 48)).cell? ⟨w1.heap.size, 1, none⟩ = some (.int .i64 (og L 0).2) := by simp
    have f0 : (w1.alloc (.cells #[.int .i64 (og L 0).1, .int .i64 (og L 0).2] 48)).frozen? ⟨w1.heap.size, 0, none⟩ = false := by simp
    have f1 : (w1.alloc (.cells #[.int .i64 (og L 0).1, .int .i64 (og L 0).2] 48)).frozen? ⟨w1.heap.size, 1, none⟩ = false := by simp
    generalize w1.alloc (.cells #[.int .i64 (og L 0).1, .int .i64 (og L 0).2] 48) = w2 at *
    go_wp2_with fail
    go_loopw [26] (fun i wr => ∃ k : Nat, k ≤ L.length ∧ i = .int .i64 k ∧ Below w1.heap.size w1 wr ∧ wr.cell? ⟨w1.heap.size, 0, none⟩ = some (.int .i64 (og L (worstTo L k)).1) ∧ wr.cell? ⟨w1.heap.size, 1, none⟩ = some (.int .i64 (og L (worstTo L k)).2) ∧ wr.frozen? ⟨w1.heap.size, 0, none⟩ = false ∧ wr.frozen? ⟨w1.heap.size, 1, none⟩ = false) (fun i _ => L.length - (intOf i).toNat)
    case atStart => exact ⟨0, Nat.zero_le _, rfl, hb2, b0, b1, f0, f1⟩
    case round =>
      clear hb2 b0 b1 f0 f1 z0 z1
      obtain ⟨k, hk, rfl, hB, b0, b1, f0, f1⟩ := hrel
      have hbs := hB.size
      have hpl := worst_in L k h0 hk
      have hwz : w1.heap.size < wr.heap.size := World.block_lt_of_cell? _ _ b0
      by_cases hlt : k < L.length
      · have c0 := (hB.cell (p := ⟨b, off + k * 2, none⟩) hb).trans (HC.out k hlt).1
        have c1 := (hB.cell (p := ⟨b, off + k * 2 + 1, none⟩) hb).trans (HC.out k hlt).2
        have HS : Hid (worstTo L (k + 1) = if (og L (worstTo L k)).2 < (og L k).2 then k else worstTo L k) := Lib.hid rfl
        generalize worstTo L k = p at *
        by_cases q : (og L p).2 < (og L k).2
        · have HS2 : Hid (worstTo L (k + 1) = k) := Lib.hid (by rw [HS.out, if_pos q])
          go_wp2_with fail
          go_roundw
          case rel =>
            have s0 := World.cell?_setCell_same wr ⟨w1.heap.size, 0, none⟩ (.int .i64 (og L k).1) b0
            have s1 : (wr.setCell ⟨w1.heap.size, 0, none⟩ (.int .i64 (og L k).1)).cell? ⟨w1.heap.size, 1, none⟩ = some (.int .i64 (og L p).2) := (World.cell?_setCell_other _ _ _ _ (fun x => absurd (congrArg Addr.off x) (by simp))).trans b1
            have s2 : ((wr.setCell ⟨w1.heap.size, 0, none⟩ (.int .i64 (og L k).1)).setCell ⟨w1.heap.size, 1, none⟩ (.int .i64 (og L k).2)).cell? ⟨w1.heap.size, 0, none⟩ = some (.int .i64 (og L k).1) := (World.cell?_setCell_other _ _ _ _ (fun x => absurd (congrArg Addr.off x) (by simp))).trans s0
            have s3 := World.cell?_setCell_same _ ⟨w1.heap.size, 1, none⟩ (.int .i64 (og L k).2) s1
            have hws : w1.heap.size < ((wr.setCell ⟨w1.heap.size, 0, none⟩ (.int .i64 (og L k).1)).setCell ⟨w1.heap.size, 1, none⟩ (.int .i64 (og L k).2)).heap.size := by simp; omega
            exact ⟨k + 1, by omega, by go_num, ((hB.setCell (p := ⟨w1.heap.size, 0, none⟩) (Nat.le_refl _) _).setCell (p := ⟨w1.heap.size, 1, none⟩) (Nat.le_refl _) _).alloc (by simp; omega) _, by rw [HS2.out]; exact (World.cell?_alloc_lt _ _ _ hws).trans s2, by rw [HS2.out]; exact (World.cell?_alloc_lt _ _ _ hws).trans s3, ((below_new _ _).frozen (p := ⟨w1.heap.size, 0, none⟩) hws).trans (by simpa using f0), ((below_new _ _).frozen (p := ⟨w1.heap.size, 1, none⟩) hws).trans (by simpa using f1)⟩
          case measure => simp [intOf]; omega
        · have HS2 : Hid (worstTo L (k + 1) = p) := Lib.hid (by rw [HS.out, if_neg q])
          go_wp2_with fail
          go_roundw
          case rel => exact ⟨k + 1, by omega, by go_num, hB.alloc hbs _, by rw [HS2.out]; exact (World.cell?_alloc_lt _ _ _ hwz).trans b0, by rw [HS2.out]; exact (World.cell?_alloc_lt _ _ _ hwz).trans b1, ((below_new _ _).frozen (p := ⟨w1.heap.size, 0, none⟩) hwz).trans f0, ((below_new _ _).frozen (p := ⟨w1.heap.size, 1, none⟩) hwz).trans f1⟩
          case measure => simp [intOf]; omega
      · obtain rfl : k = L.length := by omega
        go_wp2_with fail
        go_quiet (fail)
        go_wp2_with fail
        go_ret3
        exact ⟨rfl, below_drewN (HB1.out.trans (hB.mono hbs1)) _⟩
  · have HE := Lib.hid he
    simp only [he, if_false]
    have hne : ∀ R : Int, spotsE len S = R → (R != 0) = true := fun R q => by rw [← q]; simpa using he
    obtain ⟨R, hR⟩ : ∃ R, spotsE len S = R := ⟨_, rfl⟩
    have hn := hne R hR
    have HR := Lib.hid hR
    rw [hR]
    clear he hne hR
    go_enter Try.func20, Try.ntmps20
    go_wp2_with (go_at_call 19; (with_reducible refine (HC0.out _ rfl).mono ?_); rintro e w1 ⟨hv, hb1⟩; obtain ⟨v, rfl, _, hv2⟩ := hv.out; have hvn := hv2 HE.out; subst hvn; rw [HR.out]; clear hv hv2)
    go_ret3
    exact ⟨rfl, hb1⟩
end Go.Proofs.Ytfllfabinfmogaa
