/-
  THE WALK of Sums (bricks).
-/
import Derived.Test.YtbniclapaigkkaaGreatNearA
import Derived.Test.YtbniclapaigkkaaGreatSortW
namespace Go.Proofs.YtbniclapaigkkaaGreat
open Go.RowKit Go.Shelf
/-- The sums with fewer than j bricks more of a kind. -/
def nextN (X : List Int) (W : Int) : Nat → List Int
  | 0 => []
  | j + 1 => nextN X W j ++ X.map fun x => x + j * W
theorem nextN_len (X : List Int) (W : Int) : ∀ j, (nextN X W j).length = j * X.length
  | 0 => by simp [nextN]
  | j + 1 => by simp only [nextN, List.length_append, List.length_map, nextN_len X W j]; rw [Nat.add_mul, Nat.one_mul]
theorem nextN_mem (X : List Int) (W z : Int) : ∀ j, z ∈ nextN X W j ↔ ∃ n : Nat, n < j ∧ ∃ x ∈ X, z = x + n * W
  | 0 => by simp [nextN]
  | j + 1 => by
    simp only [nextN, List.mem_append, nextN_mem X W z j, List.mem_map]
    constructor
    · rintro (⟨n, h, x, hx, e⟩ | ⟨x, hx, e⟩)
      · exact ⟨n, by omega, x, hx, e⟩
      · exact ⟨j, by omega, x, hx, e.symm⟩
    · rintro ⟨n, h, x, hx, e⟩
      by_cases q : n = j
      · subst q; exact Or.inr ⟨x, hx, e.symm⟩
      · exact Or.inl ⟨n, by omega, x, hx, e⟩
theorem sums_step {L : List BrickR} {k : Nat} (ok : BrickOK L) (h : k < L.length) : Go.Lib.compact (sortI (nextN (sumsP (L.take k)) (bg L k).weight ((bg L k).count + 1).toNat)) = sumsP (L.take (k + 1)) := by
  obtain ⟨h1, h2⟩ := compact_sort (nextN (sumsP (L.take k)) (bg L k).weight ((bg L k).count + 1).toNat)
  obtain ⟨_, _, c0, _⟩ := ok_bg ok h
  refine incr_ext h1 (sumsP_incr _) fun z => ?_
  rw [h2, nextN_mem, sumsP_mem, List.take_succ_eq_append_getElem h, ← bg_eq L k h, isSum_snoc]
  constructor
  · rintro ⟨n, hn, x, hx, e⟩
    exact ⟨x, n, sumsP_mem.1 hx, by omega, by omega, e⟩
  · rintro ⟨x, n, hx, n0, n1, e⟩
    exact ⟨n.toNat, by omega, x, sumsP_mem.2 hx, by rw [e, Int.toNat_of_nonneg n0]⟩
theorem sums_zero : sumsP [] = [0] := by decide
theorem sumsP_pos {L : List BrickR} (ok : BrickOK L) : 0 < (sumsP L).length := List.length_pos_of_mem (sumsP_mem.2 ⟨_, isC_zero ok, rfl⟩)
theorem sumsP_bd {L : List BrickR} (ok : BrickOK L) (hl : L.length ≤ 8) {i : Nat} (h : i < (sumsP L).length) : 0 ≤ ig (sumsP L) i ∧ ig (sumsP L) i ≤ 503316480 := by
  obtain ⟨c, hc, e⟩ := sumsP_mem.1 (mem_ig.2 ⟨i, h, rfl⟩)
  have h1 := isC_bd ok hc
  have h2 := rest_bd ok
  have : (L.length : Int) ≤ 8 := by omega
  omega
def sumsC (L : List BrickR) : List Int := if brickB L = true then sumsP L else []
def sumsE (L : List BrickR) : Int := if brickB L = true then 0 else 1
theorem ok_take {L : List BrickR} (ok : BrickOK L) (k : Nat) : BrickOK (L.take k) := fun x hx => ok x (List.mem_of_mem_take hx)
theorem take_map_snoc {X : List Int} {W : Int} {i : Nat} (h : i < X.length) (P : List Int) (j : Nat) : P ++ (X.take (i + 1)).map (fun x => x + j * W) = (P ++ (X.take i).map (fun x => x + j * W)) ++ [ig X i + j * W] := by
  rw [List.take_succ_eq_append_getElem h, List.map_append, ig_eq X i h, List.append_assoc]
  rfl
theorem nums_of_row {w : World} {base n cap : Nat} {a : Option Addr} {X : List Int} (h : w.ownsRow base 3 1 (.slice a n cap) n (nflat X)) (hl : X.length = n) : Nums w.heap.size w a X := by
  subst hl
  obtain ⟨a', c', e, _, _, _, hf⟩ := num_of_row h
  cases e
  exact hf
theorem compact_n {w : World} {base g cap n : Nat} {L : List Int} (h : w.ownsRow base 3 1 (.slice (some ⟨g, 0, none⟩) L.length cap) L.length (nflat L)) (hn : n = L.length) (hl : L.length ≤ 1000000) :
    Calls Tryz.prog 39 #[.slice (some ⟨g, 0, none⟩) n cap] w fun e w' => e = .returned (.slice (some ⟨g, 0, none⟩) (Go.Lib.compact L).length cap) ∧ w'.ownsRow base 3 1 (.slice (some ⟨g, 0, none⟩) (Go.Lib.compact L).length cap) (Go.Lib.compact L).length (nflat (Go.Lib.compact L)) ∧ w.grownBy w' (some g) := by
  subst hn
  exact compact_own h hl
set_option maxRecDepth 100000 in
set_option maxHeartbeats 16000000 in
theorem sums_any (a : Option Addr) (L : List BrickR) (cap : Nat) (w : World) (hcap : L.length ≤ cap) (hc7 : brickB L = true → countP L ≤ 700) (h : Bricks w.heap.size w a L) :
    Calls Tryz.prog 14 #[.slice a L.length cap] w fun e w' => Hid (∃ v, e = .returned (.tuple #[v, .int .i64 (sumsE L)]) ∧ w'.ownsRow w.heap.size 3 1 v (sumsC L).length (nflat (sumsC L))) ∧ Below w.heap.size w w' := by
  have HU := Lib.hid h
  clear h
  cases hb : brickB L
  · have HB := Lib.hid hb
    have HC : Hid (sumsC L = []) := Lib.hid (by unfold sumsC; rw [hb]; rfl)
    have HE : Hid (sumsE L = 1) := Lib.hid (by unfold sumsE; rw [hb]; rfl)
    clear hb hc7
    go_enter Tryz.func14, Tryz.ntmps14
    go_wp2_with (go_at_call 37; (with_reducible refine (valid_any _ L _ _ hcap HU.out).mono ?_); rintro e w1 ⟨rfl, hb1⟩; rw [HB.out])
    go_ret2
    rw [HC.out, HE.out]
    exact ⟨Lib.hid ⟨_, rfl, World.ownsRow_nil _ _ _ _⟩, hb1⟩
  have HB := Lib.hid hb
  have h7 := hc7 hb
  obtain ⟨hl, _, _, hok⟩ := brick_ok hb
  have HOK := Lib.hid hok
  have HC : Hid (sumsC L = sumsP L) := Lib.hid (by unfold sumsC; rw [if_pos hb])
  have HE : Hid (sumsE L = 0) := Lib.hid (by unfold sumsE; rw [if_pos hb])
  have HST : Hid (∀ k, k < L.length → Go.Lib.compact (sortI (nextN (sumsP (L.take k)) (bg L k).weight ((bg L k).count + 1).toNat)) = sumsP (L.take (k + 1))) := Lib.hid fun k hk => sums_step hok hk
  have HLN : Hid (∀ k, (sumsP (L.take k)).length ≤ 700 ∧ 0 < (sumsP (L.take k)).length) := Lib.hid fun k => ⟨Nat.le_trans (sumsP_len _) (Nat.le_trans (countP_take hok k) h7), sumsP_pos (ok_take hok k)⟩
  have HBD : Hid (∀ k i, i < (sumsP (L.take k)).length → 0 ≤ ig (sumsP (L.take k)) i ∧ ig (sumsP (L.take k)) i ≤ 503316480) := Lib.hid fun k i hi => sumsP_bd (ok_take hok k) (by rw [List.length_take]; omega) hi
  clear hb hok hc7 h7
  go_enter Tryz.func14, Tryz.ntmps14
  go_wp2_with (go_at_call 37; (with_reducible refine (valid_any _ L _ _ hcap HU.out).mono ?_); rintro e w1 ⟨rfl, hb1⟩; rw [HB.out])
  have HR0 : Hid ((w1.alloc (.cells #[.int .i64 0] 3)).ownsRow w.heap.size 3 1 (.slice (some ⟨w1.heap.size, 0, none⟩) 1 1) (sumsP (L.take 0)).length (nflat (sumsP (L.take 0)))) := Lib.hid (by rw [List.take_zero, sums_zero]; exact ownsRow_base (World.ownsRow_lit w1 #[.int .i64 0] 1 (Nat.le_refl _) (by unfold maxLen; omega) rfl) hb1.size)
  have hb0 := hb1.alloc hb1.size (.cells #[.int .i64 0] 3)
  go_loopw [4, 17] (fun v i wr => ∃ k : Nat, k ≤ L.length ∧ i = .int .i64 k ∧ Below w.heap.size w wr ∧ Hid (wr.ownsRow w.heap.size 3 1 v (sumsP (L.take k)).length (nflat (sumsP (L.take k))))) (fun _ i _ => L.length - (intOf i).toNat)
  case atStart => exact ⟨0, Nat.zero_le _, rfl, hb0, HR0⟩
  case round =>
    clear hb0 HR0 hb1
    obtain ⟨k, hk, rfl, hB, HR⟩ := hrel
    have hbs := hB.size
    obtain ⟨va, vc, rfl, _, _, _, hNX⟩ := num_of_row HR.out
    by_cases hlt : k < L.length
    · obtain ⟨b, off, rfl, hb, hc⟩ := HU.out (by omega)
      obtain ⟨c0, c1, c2⟩ := hc k hlt
      have d0 := (hB.cell (p := ⟨b, _, none⟩) hb).trans c0
      have d1 := (hB.cell (p := ⟨b, _, none⟩) hb).trans c1
      have d2 := (hB.cell (p := ⟨b, _, none⟩) hb).trans c2
      obtain ⟨o1, o2, o3, o4⟩ := ok_bg HOK.out hlt
      have HST1 := Lib.hid (HST.out k hlt)
      have HBD1 := Lib.hid (HBD.out k)
      obtain ⟨hx7, hx0⟩ := HLN.out k
      have HX1 := Lib.hid (HLN.out (k + 1)).1
      generalize sumsP (L.take k) = X at *
      generalize (bg L k).weight = W at *
      generalize (bg L k).count = C at *
      generalize (bg L k).name = nm at *
      clear hc c0 c1 c2
      obtain ⟨wo, hwo⟩ : ∃ wo : World, wr.alloc (.cells #[.string nm, .int .i64 W, .int .i64 C] 49) = wo := ⟨_, rfl⟩
      have hBo : Below wr.heap.size wr wo := by rw [← hwo]; exact below_new _ _
      have hzo : wo.heap.size = wr.heap.size + 1 := by rw [← hwo]; simp
      have x1 : wo.cell? ⟨wr.heap.size, 1, none⟩ = some (.int .i64 W) := by rw [← hwo]; simp
      have x2 : wo.cell? ⟨wr.heap.size, 2, none⟩ = some (.int .i64 C) := by rw [← hwo]; simp
      have HNO : Hid (Nums wo.heap.size wo va X) := Lib.hid (hNX.grow hBo)
      have hBB : Below w.heap.size w wo := hB.trans (hBo.mono hbs)
      clear hNX HR
      go_wp2_with fail
      clear hwo hBo d0 d1 d2
      obtain ⟨Bx, hBx⟩ : ∃ Bx, wr.heap.size = Bx := ⟨_, rfl⟩
      simp only [hBx]
      rw [hBx] at x1 x2 hzo
      go_loopw [7, 8] (fun v n wq => ∃ j : Nat, (j : Int) ≤ C + 1 ∧ n = .int .i64 j ∧ Below wo.heap.size wo wq ∧ Hid (wq.ownsRow wo.heap.size 3 1 v (nextN X W j).length (nflat (nextN X W j)))) (fun _ n _ => C.toNat + 1 - (intOf n).toNat)
      case atStart => exact ⟨0, by omega, rfl, Below.refl _ _, Lib.hid (World.ownsRow_nil _ _ _ _)⟩
      case round =>
        obtain ⟨j, hj, rfl, hC, HR⟩ := hrel
        have y2 := (hC.cell (p := ⟨Bx, 2, none⟩) (by show Bx < wo.heap.size; omega)).trans x2
        have hcs := hC.size
        by_cases hjl : (j : Int) ≤ C
        · have HP : Hid (nextN X W j ++ (X.take 0).map (fun x => x + j * W) = nextN X W j) := Lib.hid (by simp)
          have HQ : Hid (nextN X W j ++ (X.take X.length).map (fun x => x + j * W) = nextN X W (j + 1)) := Lib.hid (by rw [List.take_length]; rfl)
          have HSN : Hid (∀ m, m < X.length → nextN X W j ++ (X.take (m + 1)).map (fun x => x + j * W) = (nextN X W j ++ (X.take m).map (fun x => x + j * W)) ++ [ig X m + j * W]) := Lib.hid fun m hm => take_map_snoc hm _ _
          have HLE : Hid (∀ m, m ≤ X.length → (nextN X W j ++ (X.take m).map (fun x => x + j * W)).length ≤ 100000) := Lib.hid fun m hm => by
            rw [List.length_append, List.length_map, List.length_take, nextN_len]
            have : j * X.length ≤ 60 * 700 := Nat.mul_le_mul (by omega) hx7
            omega
          have jw1 : (j : Int) * W ≤ 60 * 1048576 := Int.mul_le_mul (by omega) o2 (by omega) (by omega)
          have jw0 : 0 ≤ (j : Int) * W := Int.mul_nonneg (by omega) (by omega)
          have sj : IntKind.i64.wrap ((j : Int) * W) = (j : Int) * W := IntWalk.i64_in _ (by omega)
          have g1 : decide ((j : Int) ≤ C) = true := decide_eq_true hjl
          rw [← HP.out] at HR
          generalize hF : (fun m : Nat => nextN X W j ++ (X.take m).map (fun x => x + j * W)) = F at *
          have e0 : ∀ m, nextN X W j ++ (X.take m).map (fun x => x + j * W) = F m := fun m => by rw [← hF]
          simp only [e0] at HR HQ HSN HLE
          clear hF e0 HP
          go_wp2_with fail
          go_loopw [7, 29] (fun v n wz => ∃ m : Nat, m ≤ X.length ∧ n = .int .i64 m ∧ Below wo.heap.size wo wz ∧ Hid (wz.ownsRow wo.heap.size 3 1 v (F m).length (nflat (F m)))) (fun _ n _ => X.length - (intOf n).toNat)
          case atStart => exact ⟨0, by omega, rfl, hC, HR⟩
          case round =>
            clear hC HR hcs y2
            obtain ⟨m, hm, rfl, hC, HR⟩ := hrel
            have hcs := hC.size
            have y1 := (hC.cell (p := ⟨Bx, 1, none⟩) (by show Bx < wo.heap.size; omega)).trans x1
            by_cases hml : m < X.length
            · obtain ⟨xb, xo, rfl, hxb, hxc⟩ := HNO.out (by omega)
              have y0 := (hC.cell (p := ⟨xb, xo + m, none⟩) hxb).trans (hxc m hml)
              obtain ⟨b1, b2⟩ := HBD1.out m hml
              have HS1 := Lib.hid (HSN.out m hml)
              have HL1 := Lib.hid (HLE.out m hm)
              generalize ig X m = x at *
              have ss : IntKind.i64.wrap (x + (j : Int) * W) = x + (j : Int) * W := IntWalk.i64_in _ (by omega)
              clear hxc
              go_wp2_with (at_builtin; refine num_append rfl _ _ rfl wo.heap.size _ (F m) rfl (HR.out.alloc _) _ (x + (j : Int) * W) rfl (by simp) (by have := HL1.out; omega) (by first | omega | (simp; omega)) ?_; intro v5 w5 hown5 hg5; have hBn : Below wo.heap.size wo w5 := grown_own (HR.out.alloc (.cells #[.int .i64 (x + (j : Int) * W)] 3)) hg5 (hC.alloc hcs _) (by first | omega | (simp; omega)) (Nat.le_refl _))
              go_roundw
              case rel => exact ⟨m + 1, by omega, by go_num, hBn, Lib.hid (by rw [HS1.out]; exact hown5)⟩
              case measure => simp [intOf]; omega
            · obtain rfl : m = X.length := by omega
              have HR2 := HR
              rw [HQ.out] at HR2
              go_wp2_with fail
              go_roundw
              case rel => exact ⟨j + 1, by omega, by go_num, hC, HR2⟩
              case measure => simp [intOf]; omega
        · have hje : j = (C + 1).toNat := by omega
          have g1 : decide ((j : Int) ≤ C) = false := decide_eq_false hjl
          have g3 : decide ((1000 : Int) < ((sumsP (L.take (k + 1))).length : Int)) = false := decide_eq_false (by have := HX1.out; omega)
          have HNL : Hid ((nextN X W j).length ≤ 100000 ∧ 0 < (nextN X W j).length) := Lib.hid (by
            rw [nextN_len]
            have : j * X.length ≤ 61 * 700 := Nat.mul_le_mul (by omega) hx7
            have : 0 < j * X.length := Nat.mul_pos (by omega) hx0
            omega)
          rw [← hje] at HST1
          obtain ⟨N, hN⟩ : ∃ N, nextN X W j = N := ⟨_, rfl⟩
          rw [hN] at HST1 HNL HR
          obtain ⟨ea, ec, rfl, _, _, _, _⟩ := num_of_row HR.out
          obtain ⟨g, rfl, hg1, hg2⟩ := row_addr HR.out HNL.out.2
          have hBC := hBB.trans (hC.mono hBB.size)
          go_wp2_with (first
            | (go_at_call 38; (with_reducible refine (sort_own HR.out (by have := HNL.out.1; omega)).mono ?_); rintro e w2 ⟨rfl, hs2, hgr2⟩; have hr2 : w2.ownsRow wo.heap.size 3 1 (.slice (some ⟨g, 0, none⟩) (sortI N).length ec) (sortI N).length (nflat (sortI N)) := (by rw [sortI_len]; exact hs2); have hB2 := hBC.grown hgr2 hBC.size (fun k e => by cases e; exact Nat.le_trans hBB.size hg1); have HR2 := Lib.hid hr2; clear hs2 hgr2 hr2)
            | (go_at_call 39; (with_reducible refine (compact_n HR2.out (sortI_len N).symm (by rw [sortI_len]; have := HNL.out.1; omega)).mono ?_); rintro e w3 ⟨rfl, hs3, hgr3⟩; rw [HST1.out] at hs3; rw [HST1.out]; have hB3 := hB2.grown hgr3 hB2.size (fun k e => by cases e; exact Nat.le_trans hBB.size hg1); have HR3 := Lib.hid hs3; clear hs3 hgr3))
          go_roundw
          case rel => exact ⟨k + 1, by omega, by go_num, hB3, Lib.hid (ownsRow_base HR3.out hBB.size)⟩
          case measure => simp [intOf]; omega
    · obtain rfl : k = L.length := by omega
      go_wp2_with fail
      go_ret2
      rw [HC.out, HE.out]
      refine ⟨Lib.hid ⟨_, rfl, ?_⟩, hB⟩
      have hr := HR.out
      show wr.ownsRow _ _ _ (.slice va (sumsP (L.take L.length)).length vc) _ _
      rw [List.take_length] at hr ⊢
      exact hr
end Go.Proofs.YtbniclapaigkkaaGreat
