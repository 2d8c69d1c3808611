/-
  THE WALK of the closure that visits the choices (bricks: first), at a kind of bricks: its loop.
-/
import Derived.Test.YtfkmnneieglolaaGreatDoorVisit
import Derived.Deep.RegionHeld3
import Derived.Deep.RegionLaw
namespace Go.Proofs.YtfkmnneieglolaaGreatDoor
open Go.RowKit Go.Shelf
theorem cells_newV (W : World) (l : List Value) (t : TypeId) : ∀ j u, l[j]? = some u → (W.alloc (.cells l.toArray t)).cell? ((⟨W.heap.size, 0, none⟩ : Addr).add j) = some u := fun j u h => by
  rw [Go.WideShapes.add_plain, Nat.zero_add]
  rw [cell_of_row _ W.heap.size j l.toArray t (0, 0) (heap_alloc_new _ _)]
  simpa using h
theorem push_eq {B k : Nat} {w : World} {v : Value} : w.setCells (B + 7) (0 + k * 1) [v] = w.setCell ⟨B + 7, k, none⟩ v := by
  rw [Nat.zero_add, Nat.mul_one]
  rfl
theorem VisS.pushk {B Bs N k : Nat} {w : World} {low high : Int} {pre : List Int} {st : St} (h : VisS B w Bs low high N pre st) (x : Int) (hp : pre.length = k) (hN : k < N) : VisS B (w.setCell ⟨B + 7, k, none⟩ (.int .i64 x)) Bs low high N (pre ++ [x]) st := by
  subst hp
  exact h.push x hN
/-- What the loop has done behind j numbers. -/
def foldK (low high : Int) (t : List BrickR) (pre : List Int) (s n W : Int) (st : St) : Nat → St
  | 0 => st
  | j + 1 => visitF low high t (pre ++ [(j : Int)]) (s + j * W) (n + j) (foldK low high t pre s n W st j)
theorem foldK_eq (low high : Int) (t : List BrickR) (pre : List Int) (s n W : Int) (st : St) (j : Nat) : foldK low high t pre s n W st j = ((List.range j).map fun k : Nat => (k : Int)).foldl (fun st k => visitF low high t (pre ++ [k]) (s + k * W) (n + k) st) st := by
  induction j with
  | zero => rfl
  | succ j ih => rw [List.range_succ, List.map_append, List.foldl_append, ← ih]; rfl
theorem visitF_drop {low high : Int} {L : List BrickR} {k : Nat} (h : k < L.length) (pre : List Int) (s n : Int) (st : St) : visitF low high (L.drop k) pre s n st = foldK low high (L.drop (k + 1)) pre s n (bg L k).weight st ((bg L k).count + 1).toNat := by
  rw [List.drop_eq_getElem_cons h, foldK_eq, bg_eq L k h]
  rfl
set_option maxRecDepth 100000 in
set_option maxHeartbeats 40000000 in
theorem visit_node {B Bs : Nat} {low high : Int} (a : Option Addr) (L : List BrickR) (cap : Nat) (k : Nat) (pre : List Int) (s n : Int) (st : St) (w : World) (hl : L.length ≤ 8) (hlt : k < L.length) (hp : pre.length = k) (hok : BrickOK L)
    (hs : 0 ≤ s ∧ s + restC (L.drop k) ≤ 503316480) (hn : 0 ≤ n ∧ n ≤ 480) (hr : 0 ≤ restC (L.drop k)) (hV : VisS B w Bs low high L.length pre st) (hS : SearchAt B w Bs a L cap) (hBK : Bricks B w a L)
    (h1 : ∀ b m, st = some (b, m) → n < m) (h2 : s ≤ high) (h3 : low ≤ s + restC (L.drop k))
    (IH : ∀ (x : Nat) (st' : St) (w' : World), (x : Int) ≤ (bg L k).count → VisS B w' Bs low high L.length (pre ++ [(x : Int)]) st' → SearchAt B w' Bs a L cap → Bricks B w' a L →
      Calls Tryz.prog 100 #[.slice (some ⟨B + 7, 0, none⟩) (k + 1) L.length, .int .i64 (s + x * (bg L k).weight), .int .i64 (n + x), .pointer (some ⟨B + 5, 0, none⟩), .pointer (some ⟨B + 4, 0, none⟩), .pointer (some ⟨B + 2, 0, none⟩), .pointer (some ⟨B, 0, none⟩), .pointer (some ⟨B + 1, 0, none⟩), .pointer (some ⟨B + 3, 0, none⟩), .pointer (some ⟨B + 6, 0, none⟩)] w' fun e w'' => e = .returned (.tuple #[]) ∧ VisS B w'' Bs low high L.length (pre ++ [(x : Int)]) (visitF low high (L.drop (k + 1)) (pre ++ [(x : Int)]) (s + x * (bg L k).weight) (n + x) st') ∧ Below B w' w'') :
    Calls Tryz.prog 100 #[.slice (some ⟨B + 7, 0, none⟩) k L.length, .int .i64 s, .int .i64 n, .pointer (some ⟨B + 5, 0, none⟩), .pointer (some ⟨B + 4, 0, none⟩), .pointer (some ⟨B + 2, 0, none⟩), .pointer (some ⟨B, 0, none⟩), .pointer (some ⟨B + 1, 0, none⟩), .pointer (some ⟨B + 3, 0, none⟩), .pointer (some ⟨B + 6, 0, none⟩)] w fun e w' => e = .returned (.tuple #[]) ∧ VisS B w' Bs low high L.length pre (visitF low high (L.drop k) pre s n st) ∧ Below B w w' := by
  rw [visitF_drop hlt]
  have HV := Lib.hid hV
  have HSE := Lib.hid hS
  have HBK := Lib.hid hBK
  obtain ⟨i0, hi, hz0, hz1, hz2⟩ := info_parts num_infoZ
  obtain ⟨w1, w2, c1, c2⟩ := ok_bg hok hlt
  have q0 := hV.cs
  have q1 := hV.cl
  have q2 := hV.ch
  have q3 := hV.cm
  have q4 := hV.cf
  obtain ⟨hbs, q5, Br, hBr, q6, hR⟩ := hS
  have q7 := hR k (by omega)
  obtain ⟨b, off, rfl, hb, hc⟩ := hBK (by omega)
  obtain ⟨_, qw, qc⟩ := hc k hlt
  have hrr : 0 ≤ restC (L.drop (k + 1)) := (rest_bd (fun x hx => hok x (List.mem_of_mem_drop hx) : BrickOK (L.drop (k + 1)))).1
  have HIH := Lib.hid IH
  clear IH hV hR hBK hok hc
  generalize restC (L.drop (k + 1)) = R2 at *
  generalize restC (L.drop k) = R at *
  generalize (bg L k).weight = W at *
  generalize (bg L k).count = C at *
  have hxm : ∀ x : Nat, (x : Int) ≤ C → 0 ≤ (x : Int) * W ∧ (x : Int) * W ≤ 1048576 * 60 := fun x hx => ⟨Int.mul_nonneg (by omega) (by omega), by
    have := Int.mul_le_mul (show (x : Int) ≤ 60 by omega) w2 (by omega) (by omega); omega⟩
  have s1 : IntKind.i64.wrap (s + R) = s + R := IntWalk.i64_in _ (by omega)
  have j1 : (k : Int) < (L.length : Int) + 1 := by omega
  have j2 : (0 : Int) ≤ (k : Int) := by omega
  have j3 : k < L.length + 1 := by omega
  have j4 : (k : Int) < (L.length : Int) := by omega
  have j5 : ((k : Int) == (L.length : Int)) = false := beq_eq_false_iff_ne.2 (by omega)
  have j6 : (k == L.length) = false := beq_eq_false_iff_ne.2 (by omega)
  have g2 : decide (high < s) = false := decide_eq_false (by omega)
  have g3 : decide (s + R < low) = false := decide_eq_false (by omega)
  have HXM := Lib.hid hxm
  clear hxm
  have loop : True := trivial
  clear loop
  cases st with
  | none =>
    simp only [mostS, Option.isSome_none] at q3 q4
    go_enter Tryz.func100, Tryz.ntmps100
    go_wp2_with fail
    go_quiet (fail)
    go_upto_region 4 with (fail)
    have HVq := Lib.hid (HV.out.drewN nq)
    have hBq := below_drewN (Below.refl B w) nq
    clear q0 q1 q2 q3 q4 q5 q6 q7
    go_wp2_with fail
    go_loopw [14] (fun i wr => ∃ x : Nat, (x : Int) ≤ C + 1 ∧ i = .int .i64 x ∧ Hid (VisS B wr Bs low high L.length pre (foldK low high (L.drop (k + 1)) pre s n W none x)) ∧ Below B w wr) (fun i _ => (C + 1 - intOf i).toNat)
    case atStart => exact ⟨0, by omega, rfl, HVq, hBq⟩
    case round =>
      obtain ⟨x, hx, rfl, HVr, hB⟩ := hrel
      have q0 := HVr.out.cs
      obtain ⟨_, q5, _⟩ := HSE.out.keep hB
      have qw1 := (hB.cell (p := ⟨b, off + k * 3 + 1, none⟩) hb).trans qw
      have qc1 := (hB.cell (p := ⟨b, off + k * 3 + 2, none⟩) hb).trans qc
      clear hBq
      have hszr := HVr.out.size
      by_cases hxc : (x : Int) ≤ C
      · obtain ⟨m0, m1'⟩ := HXM.out x hxc
        have HFK : Hid (foldK low high (L.drop (k + 1)) pre s n W none (x + 1) = visitF low high (L.drop (k + 1)) (pre ++ [(x : Int)]) (s + x * W) (n + x) (foldK low high (L.drop (k + 1)) pre s n W none x)) := Lib.hid rfl
        generalize foldK low high (L.drop (k + 1)) pre s n W none x = sx at *
        have t1 : IntKind.i64.wrap ((x : Int) * W) = (x : Int) * W := IntWalk.i64_in _ (by omega)
        have t2 : IntKind.i64.wrap (s + (x : Int) * W) = s + (x : Int) * W := IntWalk.i64_in _ (by omega)
        have t3 : IntKind.i64.wrap (n + (x : Int)) = n + (x : Int) := IntWalk.i64_in _ (by omega)
        have t4 : IntKind.i64.wrap ((x : Int) + 1) = (x : Int) + 1 := IntWalk.i64_in _ (by omega)
        have hbr := Below.refl B wr
        have HSX : Hid (∀ (w' : World) (pre' : List Int) (sy : St), VisS B w' Bs low high L.length pre' sy → Below B wr w' → (Below B wr w' ∧ w'.cell? ⟨B + 6, 0, none⟩ = some (.func (.func 100) #[] #[.pointer (some ⟨B + 5, 0, none⟩), .pointer (some ⟨B + 4, 0, none⟩), .pointer (some ⟨B + 2, 0, none⟩), .pointer (some ⟨B, 0, none⟩), .pointer (some ⟨B + 1, 0, none⟩), .pointer (some ⟨B + 3, 0, none⟩), .pointer (some ⟨B + 6, 0, none⟩)]) ∧ w'.cell? ⟨B, 0, none⟩ = some (.pointer (some ⟨Bs, 0, none⟩)) ∧ w'.cell? ⟨Bs, 0, none⟩ = some (.slice (some ⟨b, off, none⟩) L.length cap) ∧ w'.cell? ⟨b, off + k * 3 + 1, none⟩ = some (.int .i64 W))) := Lib.hid fun w' pre' sy hV' hB' =>
          ⟨hB', hV'.cv, hV'.cs, (hB'.cell (p := ⟨Bs, 0, none⟩) hbs).trans q5, (hB'.cell (p := ⟨b, off + k * 3 + 1, none⟩) hb).trans qw1⟩
        have HVp : Hid (VisS B ((wr.alloc (.cells #[.int .i64 x] 3)).setCell ⟨B + 7, k, none⟩ (.int .i64 x)).drew Bs low high L.length (pre ++ [(x : Int)]) sx) := Lib.hid ((HVr.out.alloc _).pushk x hp hlt).drew
        have hBp : Below B wr ((wr.alloc (.cells #[.int .i64 x] 3)).setCell ⟨B + 7, k, none⟩ (.int .i64 x)).drew := ((hbr.alloc (by omega) _).setCell (show B ≤ B + 7 by omega) _).drew
        go_upto_region 7 with (fail)
        refine wp_region_held_drew (S := (fun w' => Below B wr w' ∧ w'.cell? ⟨B + 6, 0, none⟩ = some (.func (.func 100) #[] #[.pointer (some ⟨B + 5, 0, none⟩), .pointer (some ⟨B + 4, 0, none⟩), .pointer (some ⟨B + 2, 0, none⟩), .pointer (some ⟨B, 0, none⟩), .pointer (some ⟨B + 1, 0, none⟩), .pointer (some ⟨B + 3, 0, none⟩), .pointer (some ⟨B + 6, 0, none⟩)]) ∧ w'.cell? ⟨B, 0, none⟩ = some (.pointer (some ⟨Bs, 0, none⟩)) ∧ w'.cell? ⟨Bs, 0, none⟩ = some (.slice (some ⟨b, off, none⟩) L.length cap) ∧ w'.cell? ⟨b, off + k * 3 + 1, none⟩ = some (.int .i64 W))) (by kernel_rfl) (HSX.out _ _ _ HVr.out.drew hbr.drew) (fun hHeld => ?_)
        refine wpAnyH_take (i := 0) (oi := _) (v := ?_) rfl (by kernel_rfl) (by kernel_rfl) (by kernel_rfl) (fun _ _ _ h => h) (Or.inl ⟨by rfl, ?_⟩) (by assumption) ?_
        rotate_left
        · (intro w hSw; (try dsimp only at hSw); (try simp only [List.getElem_toArray, List.getElem_cons_zero]); go_simp; try with_reducible rfl)
        simp only [Act.put, List.setIfInBounds_toArray, List.set_cons_zero, List.set_cons_succ, List.getElem_toArray, List.getElem_cons_zero]
        refine wpAnyH_take (i := 1) (oi := _) (v := ?_) rfl (by kernel_rfl) (by kernel_rfl) (by kernel_rfl) (fun _ _ _ h => h) (Or.inl ⟨by rfl, ?_⟩) (by assumption) ?_
        rotate_left
        · (intro w hSw; (try dsimp only at hSw); (try simp only [List.getElem_toArray, List.getElem_cons_succ, List.getElem_cons_zero]); go_simp; try with_reducible rfl)
        simp only [Act.put, List.setIfInBounds_toArray, List.set_cons_zero, List.set_cons_succ, List.getElem_toArray, List.getElem_cons_succ, List.getElem_cons_zero]
        refine wpAnyH_take (i := 2) (oi := _) (v := ?_) rfl (by kernel_rfl) (by kernel_rfl) (by kernel_rfl) (fun _ _ _ h => h) (Or.inl ⟨by rfl, ?_⟩) (by assumption) ?_
        rotate_left
        · (intro w hSw; (try dsimp only at hSw); (try simp only [List.getElem_toArray, List.getElem_cons_succ, List.getElem_cons_zero]); go_simp; try with_reducible rfl)
        simp only [Act.put, List.setIfInBounds_toArray, List.set_cons_zero, List.set_cons_succ, List.getElem_toArray, List.getElem_cons_succ, List.getElem_cons_zero]
        refine wpAnyH_take (i := 5) (oi := _) (v := ?_) rfl (by kernel_rfl) (by kernel_rfl) (by kernel_rfl) (fun _ _ _ h => h) (Or.inl ⟨by rfl, ?_⟩) (by assumption) ?_
        rotate_left
        · (intro w hSw; (try dsimp only at hSw); (try simp only [List.getElem_toArray, List.getElem_cons_succ, List.getElem_cons_zero]); go_simp; try with_reducible rfl)
        simp only [Act.put, List.setIfInBounds_toArray, List.set_cons_zero, List.set_cons_succ, List.getElem_toArray, List.getElem_cons_succ, List.getElem_cons_zero]
        refine wpAnyH_take (i := 6) (oi := _) (v := ?_) rfl (by kernel_rfl) (by kernel_rfl) (by kernel_rfl) (fun _ _ _ h => h) (Or.inl ⟨by rfl, ?_⟩) (by assumption) ?_
        rotate_left
        · (intro w hSw; (try dsimp only at hSw); (try simp only [List.getElem_toArray, List.getElem_cons_succ, List.getElem_cons_zero]); go_simp; try with_reducible rfl)
        simp only [Act.put, List.setIfInBounds_toArray, List.set_cons_zero, List.set_cons_succ, List.getElem_toArray, List.getElem_cons_succ, List.getElem_cons_zero]
        refine wpAnyH_take (i := 7) (oi := _) (v := ?_) rfl (by kernel_rfl) (by kernel_rfl) (by kernel_rfl) (fun _ _ _ h => h) (Or.inl ⟨by rfl, ?_⟩) (by assumption) ?_
        rotate_left
        · (intro w hSw; (try dsimp only at hSw); (try simp only [List.getElem_toArray, List.getElem_cons_succ, List.getElem_cons_zero]); go_simp; try with_reducible rfl)
        simp only [Act.put, List.setIfInBounds_toArray, List.set_cons_zero, List.set_cons_succ, List.getElem_toArray, List.getElem_cons_succ, List.getElem_cons_zero]
        refine wpAnyH_take (i := 8) (oi := _) (v := ?_) rfl (by kernel_rfl) (by kernel_rfl) (by kernel_rfl) (fun _ _ _ h => h) (Or.inl ⟨by rfl, ?_⟩) (by assumption) ?_
        rotate_left
        · (intro w hSw; (try dsimp only at hSw); (try simp only [List.getElem_toArray, List.getElem_cons_succ, List.getElem_cons_zero]); go_simp; try with_reducible rfl)
        simp only [Act.put, List.setIfInBounds_toArray, List.set_cons_zero, List.set_cons_succ, List.getElem_toArray, List.getElem_cons_succ, List.getElem_cons_zero]
        refine wpAnyH_take (i := 9) (oi := _) (v := ?_) rfl (by kernel_rfl) (by kernel_rfl) (by kernel_rfl) (fun _ _ _ h => h) (Or.inl ⟨by rfl, ?_⟩) (by assumption) ?_
        rotate_left
        · (intro w hSw; (try dsimp only at hSw); (try simp only [List.getElem_toArray, List.getElem_cons_succ, List.getElem_cons_zero]); go_simp; try with_reducible rfl)
        simp only [Act.put, List.setIfInBounds_toArray, List.set_cons_zero, List.set_cons_succ, List.getElem_toArray, List.getElem_cons_succ, List.getElem_cons_zero]
        refine wpAnyH_take (i := 10) (oi := _) (v := ?_) rfl (by kernel_rfl) (by kernel_rfl) (by kernel_rfl) (fun _ _ _ h => h) (Or.inl ⟨by rfl, ?_⟩) (by assumption) ?_
        rotate_left
        · (intro w hSw; (try dsimp only at hSw); (try simp only [List.getElem_toArray, List.getElem_cons_succ, List.getElem_cons_zero]); go_simp; try with_reducible rfl)
        simp only [Act.put, List.setIfInBounds_toArray, List.set_cons_zero, List.set_cons_succ, List.getElem_toArray, List.getElem_cons_succ, List.getElem_cons_zero]
        refine wpAnyH_take (i := 11) (oi := _) (v := ?_) rfl (by kernel_rfl) (by kernel_rfl) (by kernel_rfl) (fun _ _ _ h => h) (Or.inl ⟨by rfl, ?_⟩) (by assumption) ?_
        rotate_left
        · (intro w hSw; (try dsimp only at hSw); (try simp only [List.getElem_toArray, List.getElem_cons_succ, List.getElem_cons_zero]); go_simp; try with_reducible rfl)
        simp only [Act.put, List.setIfInBounds_toArray, List.set_cons_zero, List.set_cons_succ, List.getElem_toArray, List.getElem_cons_succ, List.getElem_cons_zero]
        refine wpAnyH_take (i := 12) (oi := _) (v := ?_) rfl (by kernel_rfl) (by kernel_rfl) (by kernel_rfl) (fun _ _ _ h => h) (Or.inl ⟨by rfl, ?_⟩) (by assumption) ?_
        rotate_left
        · (intro w hSw; (try dsimp only at hSw); (try simp only [List.getElem_toArray, List.getElem_cons_succ, List.getElem_cons_zero]); go_simp; try with_reducible rfl)
        simp only [Act.put, List.setIfInBounds_toArray, List.set_cons_zero, List.set_cons_succ, List.getElem_toArray, List.getElem_cons_succ, List.getElem_cons_zero]
        refine wpAnyH_take (i := 13) (oi := _) (v := ?_) rfl (by kernel_rfl) (by kernel_rfl) (by kernel_rfl) (fun _ _ _ h => h) (Or.inl ⟨by rfl, ?_⟩) (by assumption) ?_
        rotate_left
        · (intro w hSw; (try dsimp only at hSw); (try simp only [List.getElem_toArray, List.getElem_cons_succ, List.getElem_cons_zero]); go_simp; try with_reducible rfl)
        simp only [Act.put, List.setIfInBounds_toArray, List.set_cons_zero, List.set_cons_succ, List.getElem_toArray, List.getElem_cons_succ, List.getElem_cons_zero]
        refine wpAnyH_take (i := 14) (oi := _) (v := ?_) rfl (by kernel_rfl) (by kernel_rfl) (by kernel_rfl) (fun _ _ _ h => h) (Or.inl ⟨by rfl, ?_⟩) (by assumption) ?_
        rotate_left
        · (intro w hSw; (try dsimp only at hSw); (try simp only [List.getElem_toArray, List.getElem_cons_succ, List.getElem_cons_zero]); go_simp; try with_reducible rfl)
        simp only [Act.put, List.setIfInBounds_toArray, List.set_cons_zero, List.set_cons_succ, List.getElem_toArray, List.getElem_cons_succ, List.getElem_cons_zero]
        refine wpAnyH_take (i := 15) (oi := _) (v := ?_) rfl (by kernel_rfl) (by kernel_rfl) (by kernel_rfl) (fun _ _ _ h => h) (Or.inl ⟨by rfl, ?_⟩) (by assumption) ?_
        rotate_left
        · (intro w hSw; (try dsimp only at hSw); (try simp only [List.getElem_toArray, List.getElem_cons_succ, List.getElem_cons_zero]); go_simp; try with_reducible rfl)
        simp only [Act.put, List.setIfInBounds_toArray, List.set_cons_zero, List.set_cons_succ, List.getElem_toArray, List.getElem_cons_succ, List.getElem_cons_zero]
        refine wpAnyH_take (i := 16) (oi := _) (v := ?_) rfl (by kernel_rfl) (by kernel_rfl) (by kernel_rfl) (fun _ _ _ h => h) (Or.inl ⟨by rfl, ?_⟩) (by assumption) ?_
        rotate_left
        · (intro w hSw; (try dsimp only at hSw); (try simp only [List.getElem_toArray, List.getElem_cons_succ, List.getElem_cons_zero]); go_simp; try with_reducible rfl)
        simp only [Act.put, List.setIfInBounds_toArray, List.set_cons_zero, List.set_cons_succ, List.getElem_toArray, List.getElem_cons_succ, List.getElem_cons_zero]
        refine wpAnyH_take (i := 17) (oi := _) (v := ?_) rfl (by kernel_rfl) (by kernel_rfl) (by kernel_rfl) (fun _ _ _ h => h) (Or.inl ⟨by rfl, ?_⟩) (by assumption) ?_
        rotate_left
        · (intro w hSw; (try dsimp only at hSw); (try simp only [List.getElem_toArray, List.getElem_cons_succ, List.getElem_cons_zero]); go_simp; try with_reducible rfl)
        simp only [Act.put, List.setIfInBounds_toArray, List.set_cons_zero, List.set_cons_succ, List.getElem_toArray, List.getElem_cons_succ, List.getElem_cons_zero]
        refine wpAnyH_take (i := 18) (oi := _) (v := ?_) rfl (by kernel_rfl) (by kernel_rfl) (by kernel_rfl) (fun _ _ _ h => h) (Or.inl ⟨by rfl, ?_⟩) (by assumption) ?_
        rotate_left
        · (intro w hSw; (try dsimp only at hSw); (try simp only [List.getElem_toArray, List.getElem_cons_succ, List.getElem_cons_zero]); go_simp; try with_reducible rfl)
        simp only [Act.put, List.setIfInBounds_toArray, List.set_cons_zero, List.set_cons_succ, List.getElem_toArray, List.getElem_cons_succ, List.getElem_cons_zero]
        refine wpAnyH_take (i := 19) (oi := _) (v := ?_) rfl (by kernel_rfl) (by kernel_rfl) (by kernel_rfl) (fun _ _ _ h => h) (Or.inl ⟨by rfl, ?_⟩) (by assumption) ?_
        rotate_left
        · (intro w hSw; (try dsimp only at hSw); (try simp only [List.getElem_toArray, List.getElem_cons_succ, List.getElem_cons_zero]); go_simp; try with_reducible rfl)
        simp only [Act.put, List.setIfInBounds_toArray, List.set_cons_zero, List.set_cons_succ, List.getElem_toArray, List.getElem_cons_succ, List.getElem_cons_zero]
        refine wpAnyH_ready (rs := [3]) (by kernel_rfl) (by simp) ?_
        refine AllReadyH.cons (o := _) rfl (fun K hK => ?_) AllReadyH.nil
        try simp only [List.getElem_toArray, List.getElem_cons_succ, List.getElem_cons_zero]
        go_simp
        refine hK.out _ _ (HSX.out _ _ _ (HVr.out.drew.alloc _) ((Below.refl B wr).drew.alloc (by have := HVr.out.size; simp; omega) _)) (fun hHeld => ?_)
        clear hK K
        try simp only [Act.put, List.setIfInBounds_toArray, List.set_cons_zero, List.set_cons_succ, List.getElem_toArray, List.getElem_cons_succ, List.getElem_cons_zero]
        refine wpAnyH_ready (rs := [4]) (by kernel_rfl) (by simp) ?_
        refine AllReadyH.cons (o := _) rfl (fun K hK => ?_) AllReadyH.nil
        refine step_append_room rfl (.tmp 64) (.tmp 66) 22 rfl 3 i0 1 Tryz.underlying22 hi hz1 (B + 7) 0 k L.length ?_ ⟨wr.heap.size, 0, none⟩ 1 1 [.int .i64 x] ?_ rfl ?_ ?_ ?_ ?_ ?_
        · simp [Act.eval]
        · simp [Act.eval]
        · exact cells_newV wr.drew [.int .i64 x] _
        · simp [Value.oneCell']
        · omega
        · (intro j hj; obtain rfl : j = 0 := by simpa using hj)
          rw [Nat.zero_add, Nat.mul_one, Nat.add_zero]
          exact ⟨(HVr.out.drew.alloc _).row k hlt, ((HVr.out.drew.alloc _).fz k).2.2.2⟩
        rw [push_eq]
        refine hK.out _ _ (HSX.out _ _ _ HVp.out hBp) (fun hHeld => ?_)
        clear hK K
        try simp only [Act.put, List.setIfInBounds_toArray, List.set_cons_zero, List.set_cons_succ, List.getElem_toArray, List.getElem_cons_succ, List.getElem_cons_zero]
        refine wpAnyH_ready (rs := [20]) (by kernel_rfl) (by simp) ?_
        refine AllReadyH.cons (o := _) rfl (fun K hK => ?_) AllReadyH.nil
        try simp only [List.getElem_toArray, List.getElem_cons_succ, List.getElem_cons_zero]
        go_simp
        (go_at_call 100; go_split_ands; (with_reducible refine (HIH.out x _ _ hxc HVp.out (HSE.out.keep (hB.trans hBp)) (HBK.out.below (hB.trans hBp))).mono ?_); rintro e y ⟨rfl, hVy, hBy⟩; have HVy := Lib.hid hVy; clear hVy)
        go_wp2_with fail
        refine hK.out _ _ (HSX.out _ _ _ HVy.out (hBp.trans hBy)) (fun hHeld => ?_)
        clear hK K
        try simp only [Act.put, List.setIfInBounds_toArray, List.set_cons_zero, List.set_cons_succ, List.getElem_toArray, List.getElem_cons_succ, List.getElem_cons_zero]
        refine wpAnyH_done (by kernel_rfl) ?_ _
        go_wp2_with fail
        go_roundw
        case rel => exact ⟨x + 1, by omega, by go_num, Lib.hid (by rw [HFK.out]; exact HVy.out.pop), hB.trans (hBp.trans hBy)⟩
        case measure => simp [intOf]; omega
      · have hxe : x = (C + 1).toNat := by omega
        have HVe := Lib.hid (by rw [hxe] at HVr; exact HVr.out : VisS B wr Bs low high L.length pre (foldK low high (L.drop (k + 1)) pre s n W none (C + 1).toNat))
        clear HVr hxe
        go_wp2_with fail
        exact bodyPost_end (results_none rfl _ _ _) rfl ⟨rfl, HVe.out, hB⟩
  | some p =>
    obtain ⟨b1, m1⟩ := p
    simp only [mostS, Option.isSome_some] at q3 q4
    have g1 : decide (m1 ≤ n) = false := decide_eq_false (by have := h1 b1 m1 rfl; omega)
    clear h1
    go_enter Tryz.func100, Tryz.ntmps100
    go_wp2_with fail
    go_quiet (fail)
    go_upto_region 4 with (fail)
    have HVq := Lib.hid (HV.out.drewN nq)
    have hBq := below_drewN (Below.refl B w) nq
    clear q0 q1 q2 q3 q4 q5 q6 q7
    go_wp2_with fail
    go_loopw [14] (fun i wr => ∃ x : Nat, (x : Int) ≤ C + 1 ∧ i = .int .i64 x ∧ Hid (VisS B wr Bs low high L.length pre (foldK low high (L.drop (k + 1)) pre s n W (some (b1, m1)) x)) ∧ Below B w wr) (fun i _ => (C + 1 - intOf i).toNat)
    case atStart => exact ⟨0, by omega, rfl, HVq, hBq⟩
    case round =>
      obtain ⟨x, hx, rfl, HVr, hB⟩ := hrel
      have q0 := HVr.out.cs
      obtain ⟨_, q5, _⟩ := HSE.out.keep hB
      have qw1 := (hB.cell (p := ⟨b, off + k * 3 + 1, none⟩) hb).trans qw
      have qc1 := (hB.cell (p := ⟨b, off + k * 3 + 2, none⟩) hb).trans qc
      clear hBq
      have hszr := HVr.out.size
      by_cases hxc : (x : Int) ≤ C
      · obtain ⟨m0, m1'⟩ := HXM.out x hxc
        have HFK : Hid (foldK low high (L.drop (k + 1)) pre s n W (some (b1, m1)) (x + 1) = visitF low high (L.drop (k + 1)) (pre ++ [(x : Int)]) (s + x * W) (n + x) (foldK low high (L.drop (k + 1)) pre s n W (some (b1, m1)) x)) := Lib.hid rfl
        generalize foldK low high (L.drop (k + 1)) pre s n W (some (b1, m1)) x = sx at *
        have t1 : IntKind.i64.wrap ((x : Int) * W) = (x : Int) * W := IntWalk.i64_in _ (by omega)
        have t2 : IntKind.i64.wrap (s + (x : Int) * W) = s + (x : Int) * W := IntWalk.i64_in _ (by omega)
        have t3 : IntKind.i64.wrap (n + (x : Int)) = n + (x : Int) := IntWalk.i64_in _ (by omega)
        have t4 : IntKind.i64.wrap ((x : Int) + 1) = (x : Int) + 1 := IntWalk.i64_in _ (by omega)
        have hbr := Below.refl B wr
        have HSX : Hid (∀ (w' : World) (pre' : List Int) (sy : St), VisS B w' Bs low high L.length pre' sy → Below B wr w' → (Below B wr w' ∧ w'.cell? ⟨B + 6, 0, none⟩ = some (.func (.func 100) #[] #[.pointer (some ⟨B + 5, 0, none⟩), .pointer (some ⟨B + 4, 0, none⟩), .pointer (some ⟨B + 2, 0, none⟩), .pointer (some ⟨B, 0, none⟩), .pointer (some ⟨B + 1, 0, none⟩), .pointer (some ⟨B + 3, 0, none⟩), .pointer (some ⟨B + 6, 0, none⟩)]) ∧ w'.cell? ⟨B, 0, none⟩ = some (.pointer (some ⟨Bs, 0, none⟩)) ∧ w'.cell? ⟨Bs, 0, none⟩ = some (.slice (some ⟨b, off, none⟩) L.length cap) ∧ w'.cell? ⟨b, off + k * 3 + 1, none⟩ = some (.int .i64 W))) := Lib.hid fun w' pre' sy hV' hB' =>
          ⟨hB', hV'.cv, hV'.cs, (hB'.cell (p := ⟨Bs, 0, none⟩) hbs).trans q5, (hB'.cell (p := ⟨b, off + k * 3 + 1, none⟩) hb).trans qw1⟩
        have HVp : Hid (VisS B ((wr.alloc (.cells #[.int .i64 x] 3)).setCell ⟨B + 7, k, none⟩ (.int .i64 x)).drew Bs low high L.length (pre ++ [(x : Int)]) sx) := Lib.hid ((HVr.out.alloc _).pushk x hp hlt).drew
        have hBp : Below B wr ((wr.alloc (.cells #[.int .i64 x] 3)).setCell ⟨B + 7, k, none⟩ (.int .i64 x)).drew := ((hbr.alloc (by omega) _).setCell (show B ≤ B + 7 by omega) _).drew
        go_upto_region 7 with (fail)
        refine wp_region_held_drew (S := (fun w' => Below B wr w' ∧ w'.cell? ⟨B + 6, 0, none⟩ = some (.func (.func 100) #[] #[.pointer (some ⟨B + 5, 0, none⟩), .pointer (some ⟨B + 4, 0, none⟩), .pointer (some ⟨B + 2, 0, none⟩), .pointer (some ⟨B, 0, none⟩), .pointer (some ⟨B + 1, 0, none⟩), .pointer (some ⟨B + 3, 0, none⟩), .pointer (some ⟨B + 6, 0, none⟩)]) ∧ w'.cell? ⟨B, 0, none⟩ = some (.pointer (some ⟨Bs, 0, none⟩)) ∧ w'.cell? ⟨Bs, 0, none⟩ = some (.slice (some ⟨b, off, none⟩) L.length cap) ∧ w'.cell? ⟨b, off + k * 3 + 1, none⟩ = some (.int .i64 W))) (by kernel_rfl) (HSX.out _ _ _ HVr.out.drew hbr.drew) (fun hHeld => ?_)
        refine wpAnyH_take (i := 0) (oi := _) (v := ?_) rfl (by kernel_rfl) (by kernel_rfl) (by kernel_rfl) (fun _ _ _ h => h) (Or.inl ⟨by rfl, ?_⟩) (by assumption) ?_
        rotate_left
        · (intro w hSw; (try dsimp only at hSw); (try simp only [List.getElem_toArray, List.getElem_cons_zero]); go_simp; try with_reducible rfl)
        simp only [Act.put, List.setIfInBounds_toArray, List.set_cons_zero, List.set_cons_succ, List.getElem_toArray, List.getElem_cons_zero]
        refine wpAnyH_take (i := 1) (oi := _) (v := ?_) rfl (by kernel_rfl) (by kernel_rfl) (by kernel_rfl) (fun _ _ _ h => h) (Or.inl ⟨by rfl, ?_⟩) (by assumption) ?_
        rotate_left
        · (intro w hSw; (try dsimp only at hSw); (try simp only [List.getElem_toArray, List.getElem_cons_succ, List.getElem_cons_zero]); go_simp; try with_reducible rfl)
        simp only [Act.put, List.setIfInBounds_toArray, List.set_cons_zero, List.set_cons_succ, List.getElem_toArray, List.getElem_cons_succ, List.getElem_cons_zero]
        refine wpAnyH_take (i := 2) (oi := _) (v := ?_) rfl (by kernel_rfl) (by kernel_rfl) (by kernel_rfl) (fun _ _ _ h => h) (Or.inl ⟨by rfl, ?_⟩) (by assumption) ?_
        rotate_left
        · (intro w hSw; (try dsimp only at hSw); (try simp only [List.getElem_toArray, List.getElem_cons_succ, List.getElem_cons_zero]); go_simp; try with_reducible rfl)
        simp only [Act.put, List.setIfInBounds_toArray, List.set_cons_zero, List.set_cons_succ, List.getElem_toArray, List.getElem_cons_succ, List.getElem_cons_zero]
        refine wpAnyH_take (i := 5) (oi := _) (v := ?_) rfl (by kernel_rfl) (by kernel_rfl) (by kernel_rfl) (fun _ _ _ h => h) (Or.inl ⟨by rfl, ?_⟩) (by assumption) ?_
        rotate_left
        · (intro w hSw; (try dsimp only at hSw); (try simp only [List.getElem_toArray, List.getElem_cons_succ, List.getElem_cons_zero]); go_simp; try with_reducible rfl)
        simp only [Act.put, List.setIfInBounds_toArray, List.set_cons_zero, List.set_cons_succ, List.getElem_toArray, List.getElem_cons_succ, List.getElem_cons_zero]
        refine wpAnyH_take (i := 6) (oi := _) (v := ?_) rfl (by kernel_rfl) (by kernel_rfl) (by kernel_rfl) (fun _ _ _ h => h) (Or.inl ⟨by rfl, ?_⟩) (by assumption) ?_
        rotate_left
        · (intro w hSw; (try dsimp only at hSw); (try simp only [List.getElem_toArray, List.getElem_cons_succ, List.getElem_cons_zero]); go_simp; try with_reducible rfl)
        simp only [Act.put, List.setIfInBounds_toArray, List.set_cons_zero, List.set_cons_succ, List.getElem_toArray, List.getElem_cons_succ, List.getElem_cons_zero]
        refine wpAnyH_take (i := 7) (oi := _) (v := ?_) rfl (by kernel_rfl) (by kernel_rfl) (by kernel_rfl) (fun _ _ _ h => h) (Or.inl ⟨by rfl, ?_⟩) (by assumption) ?_
        rotate_left
        · (intro w hSw; (try dsimp only at hSw); (try simp only [List.getElem_toArray, List.getElem_cons_succ, List.getElem_cons_zero]); go_simp; try with_reducible rfl)
        simp only [Act.put, List.setIfInBounds_toArray, List.set_cons_zero, List.set_cons_succ, List.getElem_toArray, List.getElem_cons_succ, List.getElem_cons_zero]
        refine wpAnyH_take (i := 8) (oi := _) (v := ?_) rfl (by kernel_rfl) (by kernel_rfl) (by kernel_rfl) (fun _ _ _ h => h) (Or.inl ⟨by rfl, ?_⟩) (by assumption) ?_
        rotate_left
        · (intro w hSw; (try dsimp only at hSw); (try simp only [List.getElem_toArray, List.getElem_cons_succ, List.getElem_cons_zero]); go_simp; try with_reducible rfl)
        simp only [Act.put, List.setIfInBounds_toArray, List.set_cons_zero, List.set_cons_succ, List.getElem_toArray, List.getElem_cons_succ, List.getElem_cons_zero]
        refine wpAnyH_take (i := 9) (oi := _) (v := ?_) rfl (by kernel_rfl) (by kernel_rfl) (by kernel_rfl) (fun _ _ _ h => h) (Or.inl ⟨by rfl, ?_⟩) (by assumption) ?_
        rotate_left
        · (intro w hSw; (try dsimp only at hSw); (try simp only [List.getElem_toArray, List.getElem_cons_succ, List.getElem_cons_zero]); go_simp; try with_reducible rfl)
        simp only [Act.put, List.setIfInBounds_toArray, List.set_cons_zero, List.set_cons_succ, List.getElem_toArray, List.getElem_cons_succ, List.getElem_cons_zero]
        refine wpAnyH_take (i := 10) (oi := _) (v := ?_) rfl (by kernel_rfl) (by kernel_rfl) (by kernel_rfl) (fun _ _ _ h => h) (Or.inl ⟨by rfl, ?_⟩) (by assumption) ?_
        rotate_left
        · (intro w hSw; (try dsimp only at hSw); (try simp only [List.getElem_toArray, List.getElem_cons_succ, List.getElem_cons_zero]); go_simp; try with_reducible rfl)
        simp only [Act.put, List.setIfInBounds_toArray, List.set_cons_zero, List.set_cons_succ, List.getElem_toArray, List.getElem_cons_succ, List.getElem_cons_zero]
        refine wpAnyH_take (i := 11) (oi := _) (v := ?_) rfl (by kernel_rfl) (by kernel_rfl) (by kernel_rfl) (fun _ _ _ h => h) (Or.inl ⟨by rfl, ?_⟩) (by assumption) ?_
        rotate_left
        · (intro w hSw; (try dsimp only at hSw); (try simp only [List.getElem_toArray, List.getElem_cons_succ, List.getElem_cons_zero]); go_simp; try with_reducible rfl)
        simp only [Act.put, List.setIfInBounds_toArray, List.set_cons_zero, List.set_cons_succ, List.getElem_toArray, List.getElem_cons_succ, List.getElem_cons_zero]
        refine wpAnyH_take (i := 12) (oi := _) (v := ?_) rfl (by kernel_rfl) (by kernel_rfl) (by kernel_rfl) (fun _ _ _ h => h) (Or.inl ⟨by rfl, ?_⟩) (by assumption) ?_
        rotate_left
        · (intro w hSw; (try dsimp only at hSw); (try simp only [List.getElem_toArray, List.getElem_cons_succ, List.getElem_cons_zero]); go_simp; try with_reducible rfl)
        simp only [Act.put, List.setIfInBounds_toArray, List.set_cons_zero, List.set_cons_succ, List.getElem_toArray, List.getElem_cons_succ, List.getElem_cons_zero]
        refine wpAnyH_take (i := 13) (oi := _) (v := ?_) rfl (by kernel_rfl) (by kernel_rfl) (by kernel_rfl) (fun _ _ _ h => h) (Or.inl ⟨by rfl, ?_⟩) (by assumption) ?_
        rotate_left
        · (intro w hSw; (try dsimp only at hSw); (try simp only [List.getElem_toArray, List.getElem_cons_succ, List.getElem_cons_zero]); go_simp; try with_reducible rfl)
        simp only [Act.put, List.setIfInBounds_toArray, List.set_cons_zero, List.set_cons_succ, List.getElem_toArray, List.getElem_cons_succ, List.getElem_cons_zero]
        refine wpAnyH_take (i := 14) (oi := _) (v := ?_) rfl (by kernel_rfl) (by kernel_rfl) (by kernel_rfl) (fun _ _ _ h => h) (Or.inl ⟨by rfl, ?_⟩) (by assumption) ?_
        rotate_left
        · (intro w hSw; (try dsimp only at hSw); (try simp only [List.getElem_toArray, List.getElem_cons_succ, List.getElem_cons_zero]); go_simp; try with_reducible rfl)
        simp only [Act.put, List.setIfInBounds_toArray, List.set_cons_zero, List.set_cons_succ, List.getElem_toArray, List.getElem_cons_succ, List.getElem_cons_zero]
        refine wpAnyH_take (i := 15) (oi := _) (v := ?_) rfl (by kernel_rfl) (by kernel_rfl) (by kernel_rfl) (fun _ _ _ h => h) (Or.inl ⟨by rfl, ?_⟩) (by assumption) ?_
        rotate_left
        · (intro w hSw; (try dsimp only at hSw); (try simp only [List.getElem_toArray, List.getElem_cons_succ, List.getElem_cons_zero]); go_simp; try with_reducible rfl)
        simp only [Act.put, List.setIfInBounds_toArray, List.set_cons_zero, List.set_cons_succ, List.getElem_toArray, List.getElem_cons_succ, List.getElem_cons_zero]
        refine wpAnyH_take (i := 16) (oi := _) (v := ?_) rfl (by kernel_rfl) (by kernel_rfl) (by kernel_rfl) (fun _ _ _ h => h) (Or.inl ⟨by rfl, ?_⟩) (by assumption) ?_
        rotate_left
        · (intro w hSw; (try dsimp only at hSw); (try simp only [List.getElem_toArray, List.getElem_cons_succ, List.getElem_cons_zero]); go_simp; try with_reducible rfl)
        simp only [Act.put, List.setIfInBounds_toArray, List.set_cons_zero, List.set_cons_succ, List.getElem_toArray, List.getElem_cons_succ, List.getElem_cons_zero]
        refine wpAnyH_take (i := 17) (oi := _) (v := ?_) rfl (by kernel_rfl) (by kernel_rfl) (by kernel_rfl) (fun _ _ _ h => h) (Or.inl ⟨by rfl, ?_⟩) (by assumption) ?_
        rotate_left
        · (intro w hSw; (try dsimp only at hSw); (try simp only [List.getElem_toArray, List.getElem_cons_succ, List.getElem_cons_zero]); go_simp; try with_reducible rfl)
        simp only [Act.put, List.setIfInBounds_toArray, List.set_cons_zero, List.set_cons_succ, List.getElem_toArray, List.getElem_cons_succ, List.getElem_cons_zero]
        refine wpAnyH_take (i := 18) (oi := _) (v := ?_) rfl (by kernel_rfl) (by kernel_rfl) (by kernel_rfl) (fun _ _ _ h => h) (Or.inl ⟨by rfl, ?_⟩) (by assumption) ?_
        rotate_left
        · (intro w hSw; (try dsimp only at hSw); (try simp only [List.getElem_toArray, List.getElem_cons_succ, List.getElem_cons_zero]); go_simp; try with_reducible rfl)
        simp only [Act.put, List.setIfInBounds_toArray, List.set_cons_zero, List.set_cons_succ, List.getElem_toArray, List.getElem_cons_succ, List.getElem_cons_zero]
        refine wpAnyH_take (i := 19) (oi := _) (v := ?_) rfl (by kernel_rfl) (by kernel_rfl) (by kernel_rfl) (fun _ _ _ h => h) (Or.inl ⟨by rfl, ?_⟩) (by assumption) ?_
        rotate_left
        · (intro w hSw; (try dsimp only at hSw); (try simp only [List.getElem_toArray, List.getElem_cons_succ, List.getElem_cons_zero]); go_simp; try with_reducible rfl)
        simp only [Act.put, List.setIfInBounds_toArray, List.set_cons_zero, List.set_cons_succ, List.getElem_toArray, List.getElem_cons_succ, List.getElem_cons_zero]
        refine wpAnyH_ready (rs := [3]) (by kernel_rfl) (by simp) ?_
        refine AllReadyH.cons (o := _) rfl (fun K hK => ?_) AllReadyH.nil
        try simp only [List.getElem_toArray, List.getElem_cons_succ, List.getElem_cons_zero]
        go_simp
        refine hK.out _ _ (HSX.out _ _ _ (HVr.out.drew.alloc _) ((Below.refl B wr).drew.alloc (by have := HVr.out.size; simp; omega) _)) (fun hHeld => ?_)
        clear hK K
        try simp only [Act.put, List.setIfInBounds_toArray, List.set_cons_zero, List.set_cons_succ, List.getElem_toArray, List.getElem_cons_succ, List.getElem_cons_zero]
        refine wpAnyH_ready (rs := [4]) (by kernel_rfl) (by simp) ?_
        refine AllReadyH.cons (o := _) rfl (fun K hK => ?_) AllReadyH.nil
        refine step_append_room rfl (.tmp 64) (.tmp 66) 22 rfl 3 i0 1 Tryz.underlying22 hi hz1 (B + 7) 0 k L.length ?_ ⟨wr.heap.size, 0, none⟩ 1 1 [.int .i64 x] ?_ rfl ?_ ?_ ?_ ?_ ?_
        · simp [Act.eval]
        · simp [Act.eval]
        · exact cells_newV wr.drew [.int .i64 x] _
        · simp [Value.oneCell']
        · omega
        · (intro j hj; obtain rfl : j = 0 := by simpa using hj)
          rw [Nat.zero_add, Nat.mul_one, Nat.add_zero]
          exact ⟨(HVr.out.drew.alloc _).row k hlt, ((HVr.out.drew.alloc _).fz k).2.2.2⟩
        rw [push_eq]
        refine hK.out _ _ (HSX.out _ _ _ HVp.out hBp) (fun hHeld => ?_)
        clear hK K
        try simp only [Act.put, List.setIfInBounds_toArray, List.set_cons_zero, List.set_cons_succ, List.getElem_toArray, List.getElem_cons_succ, List.getElem_cons_zero]
        refine wpAnyH_ready (rs := [20]) (by kernel_rfl) (by simp) ?_
        refine AllReadyH.cons (o := _) rfl (fun K hK => ?_) AllReadyH.nil
        try simp only [List.getElem_toArray, List.getElem_cons_succ, List.getElem_cons_zero]
        go_simp
        (go_at_call 100; go_split_ands; (with_reducible refine (HIH.out x _ _ hxc HVp.out (HSE.out.keep (hB.trans hBp)) (HBK.out.below (hB.trans hBp))).mono ?_); rintro e y ⟨rfl, hVy, hBy⟩; have HVy := Lib.hid hVy; clear hVy)
        go_wp2_with fail
        refine hK.out _ _ (HSX.out _ _ _ HVy.out (hBp.trans hBy)) (fun hHeld => ?_)
        clear hK K
        try simp only [Act.put, List.setIfInBounds_toArray, List.set_cons_zero, List.set_cons_succ, List.getElem_toArray, List.getElem_cons_succ, List.getElem_cons_zero]
        refine wpAnyH_done (by kernel_rfl) ?_ _
        go_wp2_with fail
        go_roundw
        case rel => exact ⟨x + 1, by omega, by go_num, Lib.hid (by rw [HFK.out]; exact HVy.out.pop), hB.trans (hBp.trans hBy)⟩
        case measure => simp [intOf]; omega
      · have hxe : x = (C + 1).toNat := by omega
        have HVe := Lib.hid (by rw [hxe] at HVr; exact HVr.out : VisS B wr Bs low high L.length pre (foldK low high (L.drop (k + 1)) pre s n W (some (b1, m1)) (C + 1).toNat))
        clear HVr hxe
        go_wp2_with fail
        exact bodyPost_end (results_none rfl _ _ _) rfl ⟨rfl, HVe.out, hB⟩
end Go.Proofs.YtfkmnneieglolaaGreatDoor
